/-
  Check of paths, program and reference.
-/
import Derived.Test.YthlnhinjcffllaaGreatDoorQ8
import Derived.Deep.DeepCutAuto
import Derived.Deep.QuietTactic
import Derived.StillTailTactics
import Derived.Deep.CutBlock
import Derived.Outline
namespace Go.Proofs.YthlnhinjcffllaaGreatDoor
open Go.RowKit

/-- strings at an address -/
def StrsAt (w : World) (a : Option Addr) (l : List ByteArray) : Prop :=
  ∀ k (h : k < l.length), ∃ b off, a = some ⟨b, off, none⟩ ∧ w.cell? ⟨b, off + k, none⟩ = some (.string l[k])
theorem cell_below {w w' : World} (hb : Below w.heap.size w w') {a : Addr} {v : Value} (h : w.cell? a = some v) : w'.cell? a = some v := by
  rw [hb.cell (World.block_lt_of_cell? w a h)]; exact h
theorem StrsAt.below {w w' : World} {a : Option Addr} {l : List ByteArray} (h : StrsAt w a l) (hb : Below w.heap.size w w') : StrsAt w' a l := by
  intro k hk
  obtain ⟨b, off, ha, hc⟩ := h k hk
  exact ⟨b, off, ha, cell_below hb hc⟩
/-- a block of cells -/
def Blk (W : World) (g : Nat) (cs : Array Value) (t : TypeId) : Prop := W.heap[g]? = some (.cells cs t (0, 0))
theorem Blk.cell {W : World} {g : Nat} {cs : Array Value} {t : TypeId} (h : Blk W g cs t) (i : Nat) (hi : i < cs.size) : W.cell? ⟨g, i, none⟩ = some cs[i] := by
  rw [cell_of_row _ _ _ _ _ _ h]; simp [hi]
theorem Blk.free {W : World} {g : Nat} {cs : Array Value} {t : TypeId} (h : Blk W g cs t) (i : Nat) : W.frozen? ⟨g, i, none⟩ = false := by
  unfold Blk at h; unfold World.frozen?; rw [h]; simp
theorem Blk.lt {W : World} {g : Nat} {cs : Array Value} {t : TypeId} (h : Blk W g cs t) : g < W.heap.size := (Array.getElem?_eq_some_iff.1 h).1
theorem Blk.below {W W' : World} {g : Nat} {cs : Array Value} {t : TypeId} (h : Blk W g cs t) (hb : Below W.heap.size W W') : Blk W' g cs t := by
  unfold Blk; rw [hb.block g h.lt]; exact h
theorem Blk.grown {W W' : World} {g : Nat} {cs : Array Value} {t : TypeId} {row : Option Nat} (h : Blk W g cs t) (hg : W.grownBy W' row) (hne : some g ≠ row) : Blk W' g cs t := by
  unfold Blk; rw [hg.block g h.lt hne]; exact h
theorem Blk.setRow {W : World} {g : Nat} {cs : Array Value} {t : TypeId} (h : Blk W g cs t) (cs' : Array Value) : Blk (W.setRow g cs') g cs' t := setRow_heap W g cs cs' t (0, 0) h
theorem Blk.setRow_ne {W : World} {g g' : Nat} {cs : Array Value} {t : TypeId} (h : Blk W g cs t) (hne : g ≠ g') (cs' : Array Value) : Blk (W.setRow g' cs') g cs t := by
  unfold Blk; rw [setRow_other W g' g cs' hne]; exact h
theorem Blk.set {W : World} {g : Nat} {cs : Array Value} {t : TypeId} (h : Blk W g cs t) (i : Nat) (v : Value) : Blk (W.setCell ⟨g, i, none⟩ v) g (cs.setIfInBounds i v) t := by
  unfold Blk at *
  simp only [World.setCell, Array.getElem?_modify, if_true, h, Option.map_some, Option.isSome_none]
  congr 2
theorem Blk.other {W : World} {g : Nat} {cs : Array Value} {t : TypeId} (h : Blk W g cs t) {g' : Nat} (hne : g' ≠ g) (i : Nat) (v : Value) : Blk (W.setCell ⟨g', i, none⟩ v) g cs t := by
  unfold Blk at *
  simp only [World.setCell, Array.getElem?_modify]
  rw [if_neg hne]; exact h
theorem blk_new (w : World) (cs : Array Value) (t : TypeId) : Blk (w.alloc (.cells cs t)) w.heap.size cs t := heap_alloc_new w _
theorem blk_new2 (w : World) (cs : Array Value) (t : TypeId) (o1 : Obj) : Blk ((w.alloc o1).alloc (.cells cs t)) (w.heap.size + 1) cs t := by
  have := blk_new (w.alloc o1) cs t
  simpa using this
theorem one_below (w : World) (o1 : Obj) : Below w.heap.size w (w.alloc o1) := (Below.refl _ _).alloc (Nat.le_refl _) _
theorem two_below (w : World) (o1 o2 : Obj) : Below w.heap.size w ((w.alloc o1).alloc o2) := (one_below ..).alloc (by simp) _
theorem three_below (w : World) (o1 o2 o3 : Obj) : Below w.heap.size w (((w.alloc o1).alloc o2).alloc o3) := (two_below ..).alloc (by simp; omega) _
theorem below_drewN' {B : Nat} {a w : World} (h : Below B a w) : ∀ n, Below B a (w.drewN n)
  | 0 => h
  | n + 1 => by
    have := below_drewN' h n
    exact ⟨this.os, this.tape, this.output, this.size, this.block⟩
theorem KW.size {w : World} (h : KW w) : 0 < w.heap.size := by obtain ⟨t, fr, h⟩ := h; exact (Array.getElem?_eq_some_iff.1 h).1

theorem root5 (r : Int) : (r = 1 ∧ mostI r = 6) ∨ (r = 2 ∧ mostI r = 0) ∨ (r = 3 ∧ mostI r = 255) ∨ (r = 4 ∧ mostI r = 1023) ∨ (mostI r = -1 ∧ r ≠ 1 ∧ r ≠ 2 ∧ r ≠ 3 ∧ r ≠ 4) := by
  unfold mostI
  by_cases h1 : r = 1
  · subst h1; simp
  by_cases h2 : r = 2
  · subst h2; simp
  by_cases h3 : r = 3
  · subst h3; simp
  by_cases h4 : r = 4
  · subst h4; simp
  simp [h1, h2, h3, h4]
theorem ne_beq {a b : Int} (h : a ≠ b) : (a == b) = false := by simpa using h
theorem eq_beq {a b : Int} (h : a = b) : (a == b) = true := by simpa using h
theorem all_take_succ {l : List ByteArray} {f : ByteArray → Bool} {k : Nat} (h : (l.take k).all f = true) (hk : k < l.length) (hf : f l[k] = true) : (l.take (k + 1)).all f = true := by
  rw [List.take_succ_eq_append_getElem hk, List.all_append, h]; simp [hf]
theorem all_not {l : List ByteArray} {f : ByteArray → Bool} {k : Nat} (hk : k < l.length) (hf : f l[k] = false) : l.all f = false := by
  rw [List.all_eq_false]; exact ⟨_, List.getElem_mem hk, by simp [hf]⟩

set_option maxRecDepth 100000 in
set_option maxHeartbeats 1000000 in
theorem check12 (p : Pth) (a : Option Addr) (c : Nat) (w : World) (hk : KW w) (hs : StrsAt w a p.fs) : Calls Tryz.prog 12 #[pV p a c] w (Ret w (.int .i64 (chkE p))) := by
  unfold pV
  have HB0 := Lib.hid (one_below w (.cells #[.int .i64 p.root, .int .i64 p.n, .slice a p.fs.length c, .bool p.star] 24))
  have HK := Lib.hid (hk.below HB0.out); clear hk
  have HS := Lib.hid (hs.below HB0.out); clear hs
  by_cases hneg : mostI p.root < 0
  case pos =>
    have HF : Hid (chkE p = 12) := by show _ = _; unfold chkE; rw [if_pos hneg]
    rcases root5 p.root with ⟨hr, hm⟩ | ⟨hr, hm⟩ | ⟨hr, hm⟩ | ⟨hr, hm⟩ | ⟨hm, h1, h2, h3, h4⟩
    case inr.inr.inr.inr =>
      have t1 := ne_beq h1
      have t2 := ne_beq h2
      have t3 := ne_beq h3
      have t4 := ne_beq h4
      clear hm h1 h2 h3 h4 hneg
      go_enter Tryz.func12, Tryz.ntmps12
      go_wp2
      go_ret
      exact ⟨ret_int HF.out.symm, HB0.out⟩
    all_goals omega
  have HF : Hid (chkE p = if p.n < 0 ∨ mostI p.root < p.n then 4 else if 2 < p.fs.length then 3 else if p.fs.all identB = true then 0 else 5) := by show _ = _; unfold chkE; rw [if_neg hneg]
  go_enter Tryz.func12, Tryz.ntmps12
  go_upto_block 0 with (fail)
  go_cut [3] (fun s wx => s = .int .i64 (mostI p.root) ∧ wx = w.alloc (.cells #[.int .i64 p.root, .int .i64 p.n, .slice a p.fs.length c, .bool p.star] 24))
  case first =>
    rcases root5 p.root with ⟨hr, hm⟩ | ⟨hr, hm⟩ | ⟨hr, hm⟩ | ⟨hr, hm⟩ | ⟨hm, _⟩
    case inr.inr.inr.inr => omega
    all_goals
      have HM := Lib.hid hm
      have t1 : (p.root == 1) = (p.root == 1) := rfl
      have t2 : (p.root == 2) = (p.root == 2) := rfl
      have t3 : (p.root == 3) = (p.root == 3) := rfl
      have t4 : (p.root == 4) = (p.root == 4) := rfl
      conv at t1 => rhs; rw [hr]
      conv at t2 => rhs; rw [hr]
      conv at t3 => rhs; rw [hr]
      conv at t4 => rhs; rw [hr]
      simp only [Int.reduceBEq] at t1 t2 t3 t4
      clear hr hm hneg
      go_wp2
      go_meet
      exact ⟨by rw [HM.out], rfl⟩
  case rest =>
    obtain ⟨rfl, rfl⟩ := hcut
    generalize mostI p.root = m at *
    by_cases hn : p.n < 0
    · have t1 : decide (p.n < 0) = true := decide_eq_true hn
      rw [if_pos (.inl hn)] at HF
      clear hn hneg
      go_wp2
      go_ret
      exact ⟨ret_int HF.out.symm, HB0.out⟩
    have t1 : decide (p.n < 0) = false := decide_eq_false hn
    by_cases hn2 : m < p.n
    · have t2 : decide (m < p.n) = true := decide_eq_true hn2
      rw [if_pos (.inr hn2)] at HF
      clear hn hneg hn2
      go_wp2
      go_ret
      exact ⟨ret_int HF.out.symm, HB0.out⟩
    have t2 : decide (m < p.n) = false := decide_eq_false hn2
    rw [if_neg (by omega)] at HF
    clear hn hneg hn2
    by_cases hl : 2 < p.fs.length
    · have d1 : decide (2 < (p.fs.length : Int)) = true := by simp; omega
      rw [if_pos hl] at HF
      clear hl
      go_wp2
      go_ret
      exact ⟨ret_int HF.out.symm, HB0.out⟩
    have d1 : decide (2 < (p.fs.length : Int)) = false := by simp; omega
    rw [if_neg hl] at HF
    go_wp2
    go_loop [32] (fun i => ∃ k : Nat, k ≤ p.fs.length ∧ i = .int .i64 k ∧ Hid ((p.fs.take k).all identB = true)) (fun i => p.fs.length - (intOf i).toNat)
    case atStart => exact ⟨0, Nat.zero_le _, rfl, by show _ = _; simp⟩
    case round =>
      obtain ⟨k, hk, rfl, HI⟩ := hrel
      by_cases hlt : k < p.fs.length
      · obtain ⟨b, off, rfl, hcell⟩ := HS.out k hlt
        have HT := Lib.hid (@all_take_succ p.fs identB k HI.out hlt)
        have HN := Lib.hid (@all_not p.fs identB k hlt)
        generalize p.fs[k] = x at *
        cases hi : identB x
        · go_wp2_with (go_at_call 24; refine (ident24 _ _ HK.out).mono ?_; rintro e w' ⟨rfl, rfl⟩)
          go_ret
          exact ⟨ret_int (by rw [HF.out, HN.out hi]; rfl), HB0.out⟩
        · go_wp2_with (go_at_call 24; refine (ident24 _ _ HK.out).mono ?_; rintro e w' ⟨rfl, rfl⟩)
          go_round
          case rel => exact ⟨k + 1, by omega, by go_num, HT.out hi⟩
          case measure => simp [intOf]; omega
      · obtain rfl : k = p.fs.length := by omega
        have HA := HI.out
        rw [List.take_length] at HA
        have HA2 := Lib.hid HA; clear HA
        go_wp2
        go_ret
        exact ⟨ret_int (by rw [HF.out, HA2.out]; rfl), HB0.out⟩

set_option maxRecDepth 100000 in
set_option maxHeartbeats 1000000 in
theorem check13 (p : Pth) (a : Option Addr) (c : Nat) (w : World) (hs : StrsAt w a p.fs) : Calls Tryz.prog 13 #[pV p a c] w (Ret w (.int .i64 (chkE p))) := by
  unfold pV
  have HB0 := Lib.hid (one_below w (.cells #[.int .i64 p.root, .int .i64 p.n, .slice a p.fs.length c, .bool p.star] 24))
  have HS := Lib.hid (hs.below HB0.out); clear hs
  have HC : Hid (Blk (w.alloc (.cells #[.int .i64 p.root, .int .i64 p.n, .slice a p.fs.length c, .bool p.star] 24)) w.heap.size #[.int .i64 p.root, .int .i64 p.n, .slice a p.fs.length c, .bool p.star] 24) := blk_new ..
  by_cases hneg : mostI p.root < 0
  case pos =>
    have HF : Hid (chkE p = 12) := by show _ = _; unfold chkE; rw [if_pos hneg]
    rcases root5 p.root with ⟨hr, hm⟩ | ⟨hr, hm⟩ | ⟨hr, hm⟩ | ⟨hr, hm⟩ | ⟨hm, h1, h2, h3, h4⟩
    case inr.inr.inr.inr =>
      have t1 := ne_beq h1
      have t2 := ne_beq h2
      have t3 := ne_beq h3
      have t4 := ne_beq h4
      clear hm h1 h2 h3 h4 hneg
      go_enter Tryz.func13, Tryz.ntmps13
      go_wp2
      go_ret
      exact ⟨ret_int HF.out.symm, HB0.out⟩
    all_goals omega
  have HF : Hid (chkE p = if p.n < 0 ∨ mostI p.root < p.n then 4 else if 2 < p.fs.length then 3 else if p.fs.all identB = true then 0 else 5) := by show _ = _; unfold chkE; rw [if_neg hneg]
  go_enter Tryz.func13, Tryz.ntmps13
  go_upto_block 0 with (fail)
  go_cut [3] (fun s wx => s = .int .i64 (mostI p.root) ∧ wx = w.alloc (.cells #[.int .i64 p.root, .int .i64 p.n, .slice a p.fs.length c, .bool p.star] 24))
  case first =>
    rcases root5 p.root with ⟨hr, hm⟩ | ⟨hr, hm⟩ | ⟨hr, hm⟩ | ⟨hr, hm⟩ | ⟨hm, _⟩
    case inr.inr.inr.inr => omega
    all_goals
      have HM := Lib.hid hm
      have t1 : (p.root == 1) = (p.root == 1) := rfl
      have t2 : (p.root == 2) = (p.root == 2) := rfl
      have t3 : (p.root == 3) = (p.root == 3) := rfl
      have t4 : (p.root == 4) = (p.root == 4) := rfl
      conv at t1 => rhs; rw [hr]
      conv at t2 => rhs; rw [hr]
      conv at t3 => rhs; rw [hr]
      conv at t4 => rhs; rw [hr]
      simp only [Int.reduceBEq] at t1 t2 t3 t4
      clear hr hm hneg
      go_wp2
      go_meet
      exact ⟨by rw [HM.out], rfl⟩
  case rest =>
    obtain ⟨rfl, rfl⟩ := hcut
    generalize mostI p.root = m at *
    by_cases hn : p.n < 0
    · have t1 : decide (p.n < 0) = true := decide_eq_true hn
      rw [if_pos (.inl hn)] at HF
      clear hn hneg
      go_wp2
      go_ret
      exact ⟨ret_int HF.out.symm, HB0.out⟩
    have t1 : decide (p.n < 0) = false := decide_eq_false hn
    by_cases hn2 : m < p.n
    · have t2 : decide (m < p.n) = true := decide_eq_true hn2
      rw [if_pos (.inr hn2)] at HF
      clear hn hneg hn2
      go_wp2
      go_ret
      exact ⟨ret_int HF.out.symm, HB0.out⟩
    have t2 : decide (m < p.n) = false := decide_eq_false hn2
    rw [if_neg (by omega)] at HF
    clear hn hneg hn2
    by_cases hl : 2 < p.fs.length
    · have d1 : decide (2 < (p.fs.length : Int)) = true := by simp; omega
      rw [if_pos hl] at HF
      clear hl
      go_wp2
      go_ret
      exact ⟨ret_int HF.out.symm, HB0.out⟩
    have d1 : decide (2 < (p.fs.length : Int)) = false := by simp; omega
    rw [if_neg hl] at HF
    go_wp2
    go_loopw [4] (fun i wr => ∃ k : Nat, k ≤ p.fs.length ∧ i = .int .i64 k ∧ Hid ((p.fs.take k).all identB = true) ∧ Below w.heap.size w wr ∧ StrsAt wr a p.fs ∧ Blk wr w.heap.size #[.int .i64 p.root, .int .i64 p.n, .slice a p.fs.length c, .bool p.star] 24) (fun i _ => p.fs.length - (intOf i).toNat)
    case atStart => exact ⟨0, Nat.zero_le _, rfl, by show _ = _; simp, HB0.out, HS.out, HC.out⟩
    case round =>
      clear HB0 HS HC
      obtain ⟨k, hk, rfl, HI, hb, hs, hc⟩ := hrel
      have HB := Lib.hid hb; clear hb
      have HS := Lib.hid hs; clear hs
      have HC := Lib.hid hc; clear hc
      have c2 : wr.cell? ⟨w.heap.size, 2, none⟩ = some (.slice a p.fs.length c) := HC.out.cell 2 (by simp)
      by_cases hlt : k < p.fs.length
      · obtain ⟨b, off, rfl, hcell⟩ := HS.out k hlt
        have HT := Lib.hid (@all_take_succ p.fs identB k HI.out hlt)
        have HN := Lib.hid (@all_not p.fs identB k hlt)
        generalize p.fs[k] = x at *
        go_wp2_with fail
        refine (ident26 _ _).mono ?_
        rintro e w2 ⟨rfl, hb⟩
        have HB2 := Lib.hid (HB.out.trans (hb.mono HB.out.size))
        have HS2 := Lib.hid (HS.out.below hb)
        have HC2 := Lib.hid (HC.out.below hb)
        clear hb c2 hcell HB HS HC
        cases hi : identB x
        · go_wp2
          go_ret
          exact ⟨ret_int (by rw [HF.out, HN.out hi]; rfl), HB2.out⟩
        · go_wp2
          go_roundw
          case rel => exact ⟨k + 1, by omega, by go_num, HT.out hi, HB2.out, HS2.out, HC2.out⟩
          case measure => simp [intOf]; omega
      · obtain rfl : k = p.fs.length := by omega
        have HA := HI.out
        rw [List.take_length] at HA
        have HA2 := Lib.hid HA; clear HA
        go_wp2
        go_ret
        exact ⟨ret_int (by rw [HF.out, HA2.out]; rfl), HB.out⟩
end Go.Proofs.YthlnhinjcffllaaGreatDoor
