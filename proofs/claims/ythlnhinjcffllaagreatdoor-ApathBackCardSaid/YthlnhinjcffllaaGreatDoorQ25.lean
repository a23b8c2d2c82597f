/-
  Short; boxed paths; later worlds as a class.
-/
import Derived.Test.YthlnhinjcffllaaGreatDoorQ24
import Derived.Test.YthlnhinjcffllaaGreatDoorQ23
import Derived.BigQuiet
namespace Go.Proofs.YthlnhinjcffllaaGreatDoor
open Go.RowKit

def sizeOk (f : ByteArray) : Bool := decide (f.size ≤ 100)
def shortB (p : Pth) : Bool := decide (p.fs.length ≤ 10) && p.fs.all sizeOk
theorem short_len {p : Pth} (h : shortB p = true) : p.fs.length ≤ 10 := by
  unfold shortB at h
  rw [Bool.and_eq_true, decide_eq_true_eq] at h
  exact h.1
theorem short_f1 {p : Pth} (h : 10 < p.fs.length) : shortB p = false := by
  unfold shortB
  rw [decide_eq_false (by omega)]; rfl
theorem short_t {p : Pth} (h : p.fs.length ≤ 10) (h2 : p.fs.all sizeOk = true) : shortB p = true := by
  unfold shortB
  rw [decide_eq_true h, h2]; rfl
theorem short_f2 {p : Pth} (h : p.fs.all sizeOk = false) : shortB p = false := by
  unfold shortB
  rw [h, Bool.and_false]

set_option maxRecDepth 100000 in
set_option maxHeartbeats 1000000 in
theorem short8 (p : Pth) (a : Option Addr) (c : Nat) (w : World) (hs : StrsAt w a p.fs) : Calls Tryz.prog 8 #[pV p a c] w (Ret w (.bool (shortB p))) := by
  unfold pV
  have HB0 := Lib.hid (one_below w (.cells #[.int .i64 p.root, .int .i64 p.n, .slice a p.fs.length c, .bool p.star] 24))
  have HS := Lib.hid (hs.below HB0.out); clear hs
  by_cases hl : 10 < p.fs.length
  · have HF := Lib.hid (short_f1 hl)
    have d1 : decide (10 < (p.fs.length : Int)) = true := by simp; omega
    clear hl
    go_enter Tryz.func8, Tryz.ntmps8
    go_wp2
    go_ret
    exact ⟨ret_bool HF.out.symm, HB0.out⟩
  have d1 : decide (10 < (p.fs.length : Int)) = false := by simp; omega
  have hl10 : p.fs.length ≤ 10 := by omega
  have HL := Lib.hid hl10
  clear hl
  go_enter Tryz.func8, Tryz.ntmps8
  go_wp2
  go_loop [3] (fun i => ∃ k : Nat, k ≤ p.fs.length ∧ i = .int .i64 k ∧ Hid ((p.fs.take k).all sizeOk = true)) (fun i => p.fs.length - (intOf i).toNat)
  case atStart => exact ⟨0, Nat.zero_le _, rfl, by show _ = _; simp⟩
  case round =>
    obtain ⟨k, hk, rfl, HI⟩ := hrel
    by_cases hlt : k < p.fs.length
    · obtain ⟨b, off, rfl, hcell⟩ := HS.out k hlt
      have HT := Lib.hid (@all_take_succ p.fs sizeOk k HI.out hlt)
      have HN := Lib.hid (@all_not p.fs sizeOk k hlt)
      generalize p.fs[k] = x at *
      by_cases hx : 100 < x.size
      · have d2 : decide (100 < (x.size : Int)) = true := by simp; omega
        have HX : Hid (sizeOk x = false) := by show _ = _; unfold sizeOk; rw [decide_eq_false_iff_not]; omega
        clear hx
        go_wp2
        go_ret
        exact ⟨ret_bool (short_f2 (HN.out HX.out)).symm, HB0.out⟩
      · have d2 : decide (100 < (x.size : Int)) = false := by simp; omega
        have HX : Hid (sizeOk x = true) := by show _ = _; unfold sizeOk; rw [decide_eq_true_eq]; omega
        clear hx
        go_wp2
        go_round
        case rel => exact ⟨k + 1, by omega, by go_num, HT.out HX.out⟩
        case measure => simp [intOf]; omega
    · obtain rfl : k = p.fs.length := by omega
      have HA : Hid (p.fs.all sizeOk = true) := by have h := HI.out; rw [List.take_length] at h; exact h
      go_wp2
      go_ret
      exact ⟨ret_bool (short_t HL.out HA.out).symm, HB0.out⟩

/-- a path in a block -/
structure Bx (w : World) (g : Nat) (p : Pth) (a : Option Addr) (k : Nat) : Prop where
  st : StrsAt w a p.fs
  bk : Blk w g #[.int .i64 p.root, .int .i64 p.n, .slice a p.fs.length k, .bool p.star] 24
  le : p.fs.length ≤ k
theorem Bx.below {w w' : World} {g : Nat} {p : Pth} {a : Option Addr} {k : Nat} (h : Bx w g p a k) (hb : Below w.heap.size w w') : Bx w' g p a k := ⟨h.st.below hb, h.bk.below hb, h.le⟩
def BxL (w : World) : List (Nat × Pth × Option Addr × Nat) → Prop
  | [] => True
  | x :: l => Bx w x.1 x.2.1 x.2.2.1 x.2.2.2 ∧ BxL w l
theorem BxL.below {w w' : World} (hb : Below w.heap.size w w') : ∀ {l}, BxL w l → BxL w' l
  | [], _ => trivial
  | _ :: _, h => ⟨h.1.below hb, BxL.below hb h.2⟩
/-- the variables and the boxed paths, in a later world -/
structure Cx (w wr : World) (l : List (Nat × Pth × Option Addr × Nat)) : Prop where
  hb : Below w.heap.size w wr
  aw : AW wr
  bx : BxL wr l
section
variable {w wr w' : World} {l : List (Nat × Pth × Option Addr × Nat)}
theorem Cx.below (h : Cx w wr l) (hb : Below wr.heap.size wr w') : Cx w w' l := ⟨h.hb.trans (hb.mono h.hb.size), h.aw.below hb, h.bx.below hb⟩
theorem Cx.box (h : Cx w wr l) {r : Pth} {s : Option Addr} {d : Nat} (hs : StrsAt wr s r.fs) (hd : r.fs.length ≤ d) :
    Cx w ((wr.alloc (.cells #[.int .i64 0, .int .i64 0, .slice none 0 0, .bool false] 24)).setRow wr.heap.size #[.int .i64 r.root, .int .i64 r.n, .slice s r.fs.length d, .bool r.star]) ((wr.heap.size, r, s, d) :: l) := by
  have hb := below_setRow (one_below wr (.cells #[.int .i64 0, .int .i64 0, .slice none 0 0, .bool false] 24)) (Nat.le_refl _) #[.int .i64 r.root, .int .i64 r.n, .slice s r.fs.length d, .bool r.star]
  have h' := h.below hb
  exact ⟨h'.hb, h'.aw, ⟨hs.below hb, (blk_new ..).setRow _, hd⟩, h'.bx⟩
end
/-- a world in which nothing that was in W has changed -/
structure WB (W : World) where
  u : World
  h : Below W.heap.size W u
section
variable {W : World}
theorem WB.step (o : WB W) {w' : World} (h : Below o.u.heap.size o.u w') : ∃ o' : WB W, w' = o'.u := ⟨⟨w', o.h.trans (h.mono o.h.size)⟩, rfl⟩
theorem Ret.inB {o : WB W} {v : Value} {e : Ending} {w' : World} (h : Ret o.u v e w') : e = .returned v ∧ ∃ o' : WB W, w' = o'.u := ⟨h.1, o.step h.2⟩
theorem Bx.all {g : Nat} {p : Pth} {a : Option Addr} {k : Nat} (h : Bx W g p a k) :
    (∀ o : WB W, o.u.cell? ⟨g, 0, none⟩ = some (.int .i64 p.root)) ∧ (∀ o : WB W, o.u.cell? ⟨g, 1, none⟩ = some (.int .i64 p.n)) ∧ (∀ o : WB W, o.u.cell? ⟨g, 2, none⟩ = some (.slice a p.fs.length k)) ∧ (∀ o : WB W, o.u.cell? ⟨g, 3, none⟩ = some (.bool p.star)) :=
  ⟨fun o => (h.below o.h).bk.four.1, fun o => (h.below o.h).bk.four.2.1, fun o => (h.below o.h).bk.four.2.2.1, fun o => (h.below o.h).bk.four.2.2.2⟩
/-- a region that draws its order, in which all only read or call what makes memory of its own -/
theorem wp_region_WB {id : Nat} {Q : Exit → Act → World → Prop} {a : Act} {l : List Oper} (W : World) (hB : Region.lexB .any l.toArray = true)
    (h : wpQuiet Tryz.prog l.toArray (fun w' => ∃ o : WB W, w' = o.u) (fun a' => ∀ w', (∃ o : WB W, w' = o.u) → Q .normal a' w') l a) : (Code.region id l.toArray true).wp Tryz.prog Q a W :=
  wp_region_quiet (C := fun w' => ∃ o : WB W, w' = o.u) (by kernel_rfl) hB ⟨⟨_, (Below.refl _ W).drew⟩, rfl⟩ (by simpa using h)
end
def extR (p : Pth) (f : ByteArray) : Pth := if extE p f = 0 then extP p f else zeroP
theorem strs_nil (w : World) (a : Option Addr) : StrsAt w a [] := fun k h => absurd h (by simp)
theorem ext_out {p : Pth} {f : ByteArray} {w w' : World} {e : Ending} (h : ExtPost p f w e w') : Below w.heap.size w w' ∧ ∃ s d, e = .returned (.tuple #[pV (extR p f) s d, .int .i64 (extE p f)]) ∧ StrsAt w' s (extR p f).fs ∧ (extR p f).fs.length ≤ d := by
  obtain ⟨hb, ⟨hne, rfl⟩ | ⟨h0, b, d, rfl, hs, hd, _⟩⟩ := h
  · refine ⟨hb, none, 0, ?_, ?_, ?_⟩
    · unfold extR; rw [if_neg hne]
    · unfold extR; rw [if_neg hne]; exact strs_nil _ _
    · unfold extR; rw [if_neg hne]; exact Nat.le_refl _
  · refine ⟨hb, b, d, ?_, ?_, ?_⟩
    · unfold extR; rw [if_pos h0, h0]
    · unfold extR; rw [if_pos h0]; exact hs
    · unfold extR; rw [if_pos h0]; exact hd
def repR (p a b : Pth) : Pth := (repP p a b).getD zeroP
theorem rep_out {p a b : Pth} {w w' : World} {e : Ending} (h : RepPost p a b w e w') : Below w.heap.size w w' ∧ ∃ s d, e = .returned (.tuple #[pV (repR p a b) s d, .bool (repP p a b).isSome]) ∧ StrsAt w' s (repR p a b).fs ∧ (repR p a b).fs.length ≤ d := by
  obtain ⟨hb, ⟨hn, rfl⟩ | ⟨q, hq, s, d, rfl, hs, hd⟩⟩ := h
  · refine ⟨hb, none, 0, ?_, ?_, ?_⟩
    · unfold repR; rw [hn]; rfl
    · unfold repR; rw [hn]; exact strs_nil _ _
    · unfold repR; rw [hn]; exact Nat.le_refl _
  · refine ⟨hb, s, d, ?_, ?_, ?_⟩
    · unfold repR; rw [hq]; rfl
    · unfold repR; rw [hq]; exact hs
    · unfold repR; rw [hq]; exact hd
theorem pathW_err (st : Bool) : ∀ ws, (pathW st ws).1 ≠ 0 → (pathW st ws).2 = zeroP
  | [], _ => rfl
  | x :: ws, h => by
    unfold pathW at h ⊢
    cases hr : rootOf x with
    | none => simp only [hr]
    | some kn =>
      simp only [hr] at h ⊢
      by_cases hb : ws.any badW = true
      · rw [if_pos hb]
      · rw [if_neg hb] at h ⊢
        by_cases hc : chkE ⟨kn.1, kn.2, ws.map mkB, st⟩ = 0
        · rw [if_pos hc] at h
          exact absurd rfl h
        · rw [if_neg hc]
theorem parse_err {l : List UInt8} (h : (parseP l).1 ≠ 0) : (parseP l).2 = zeroP := by
  unfold parseP at h ⊢
  split
  · rfl
  · rename_i hb
    rw [if_neg hb] at h
    exact pathW_err _ _ h
theorem par_out {l : List UInt8} {w w' : World} {e : Ending} (h : ParPost l w e w') : Below w.heap.size w w' ∧ ∃ s d, e = .returned (.tuple #[pV (parseP l).2 s d, .int .i64 (parseP l).1]) ∧ StrsAt w' s (parseP l).2.fs ∧ (parseP l).2.fs.length ≤ d := by
  obtain ⟨hb, ⟨hne, rfl⟩ | ⟨h0, b, d, rfl, hs, hd⟩⟩ := h
  · have hz := parse_err hne
    exact ⟨hb, none, 0, by rw [hz], by rw [hz]; exact strs_nil _ _, by rw [hz]; exact Nat.le_refl _⟩
  · exact ⟨hb, b, d, by rw [h0], hs, hd⟩
/-- the text that Text returns -/
def txB (p : Pth) : ByteArray := if chkE p = 0 then mkB (textL p) else ⟨#[]⟩
theorem txt_out (p : Pth) : txtV p = .tuple #[.string (txB p), .int .i64 (chkE p)] := by
  unfold txtV txB
  by_cases h : chkE p = 0
  · rw [if_pos h, if_pos h, h]
  · rw [if_neg h, if_neg h]
end Go.Proofs.YthlnhinjcffllaaGreatDoor
