import Derived.Test.YtlkafolgbkobpaaDoorA5
namespace Go.Proofs.YtlkafolgbkobpaaDoor
open Go.RowKit Go.Sort

/-- the cells of a protocol in a block -/
structure Box (W : World) (b : Nat) (p : Pr) (a1 : Option Addr) (c1 : Nat) (a2 : Option Addr) (c2 : Nat) : Prop where
  q0 : W.cell? ⟨b, 0, none⟩ = some (.string p.cls)
  q1 : W.cell? ⟨b, 1, none⟩ = some (.slice a1 p.sts.length c1)
  q2 : W.cell? ⟨b, 2, none⟩ = some (.int .i64 p.start)
  q3 : W.cell? ⟨b, 3, none⟩ = some (.int .i64 p.err)
  q4 : W.cell? ⟨b, 4, none⟩ = some (.slice a2 p.mvs.length c2)
theorem Box.below {W W' : World} {b : Nat} {p : Pr} {a1 : Option Addr} {c1 : Nat} {a2 : Option Addr} {c2 : Nat} (h : Box W b p a1 c1 a2 c2) (hb : Below W.heap.size W W') : Box W' b p a1 c1 a2 c2 :=
  ⟨cell_below hb h.q0, cell_below hb h.q1, cell_below hb h.q2, cell_below hb h.q3, cell_below hb h.q4⟩
theorem Box.new (w : World) (p : Pr) (a1 : Option Addr) (c1 : Nat) (a2 : Option Addr) (c2 : Nat) (e : TypeId) : Box (w.alloc (.cells #[.string p.cls, .slice a1 p.sts.length c1, .int .i64 p.start, .int .i64 p.err, .slice a2 p.mvs.length c2] e)) w.heap.size p a1 c1 a2 c2 := by
  constructor <;> rw [cell_of_row _ _ _ _ e (0, 0) (heap_alloc_new w _)] <;> rfl
theorem Box.lt {W : World} {b : Nat} {p : Pr} {a1 : Option Addr} {c1 : Nat} {a2 : Option Addr} {c2 : Nat} (h : Box W b p a1 c1 a2 c2) : b < W.heap.size := World.block_lt_of_cell? W _ h.q0

def stB (p : Pr) (q : Int) : Bool := decide (0 ≤ q) && decide (q < p.sts.length)
/-- the error of a move behind another one -/
def mvErr (p : Pr) (prev : Option Mv) (m : Mv) : Int :=
  if stB p m.frm = false ∨ stB p m.to = false then 4
  else if identB m.meth = false then 5
  else if m.frm = p.err then 22
  else match prev with
    | none => 0
    | some x => if 0 ≤ cmpM x m then 13 else 0
def mvsErr (p : Pr) (k : Nat) : Int :=
  if h : k < p.mvs.length then
    let e := mvErr p (if 0 < k then p.mvs[k - 1]? else none) p.mvs[k]
    if e = 0 then mvsErr p (k + 1) else e
  else 0
termination_by p.mvs.length - k
theorem mvsErr_bad {p : Pr} {k : Nat} (h : k < p.mvs.length) {e : Int} (he : mvErr p (if 0 < k then p.mvs[k - 1]? else none) p.mvs[k] = e) (h0 : e ≠ 0) : mvsErr p k = e := by
  rw [mvsErr, dif_pos h]; simp only [he]; rw [if_neg h0]
theorem mvsErr_ok {p : Pr} {k : Nat} (h : k < p.mvs.length) (he : mvErr p (if 0 < k then p.mvs[k - 1]? else none) p.mvs[k] = 0) : mvsErr p k = mvsErr p (k + 1) := by
  rw [mvsErr, dif_pos h]; simp only [he]; simp
theorem mvsErr_end {p : Pr} {k : Nat} (h : ¬ k < p.mvs.length) : mvsErr p k = 0 := by rw [mvsErr, dif_neg h]
theorem mvErr_range {p : Pr} {prev : Option Mv} {m : Mv} (h : stB p m.frm = false ∨ stB p m.to = false) : mvErr p prev m = 4 := by simp only [mvErr]; rw [if_pos h]
theorem mvErr_name {p : Pr} {prev : Option Mv} {m : Mv} (h1 : stB p m.frm = true) (h2 : stB p m.to = true) (h : identB m.meth = false) : mvErr p prev m = 5 := by
  simp only [mvErr]; rw [if_neg (by simp [h1, h2]), if_pos h]
theorem mvErr_state {p : Pr} {prev : Option Mv} {m : Mv} (h1 : stB p m.frm = true) (h2 : stB p m.to = true) (h3 : identB m.meth = true) (h : m.frm = p.err) : mvErr p prev m = 22 := by
  simp only [mvErr]; rw [if_neg (by simp [h1, h2]), if_neg (by simp [h3]), if_pos h]
theorem mvErr_none {p : Pr} {m : Mv} (h1 : stB p m.frm = true) (h2 : stB p m.to = true) (h3 : identB m.meth = true) (h : ¬ m.frm = p.err) : mvErr p none m = 0 := by
  simp only [mvErr]; rw [if_neg (by simp [h1, h2]), if_neg (by simp [h3]), if_neg h]
theorem mvErr_some {p : Pr} {x m : Mv} (h1 : stB p m.frm = true) (h2 : stB p m.to = true) (h3 : identB m.meth = true) (h : ¬ m.frm = p.err) : mvErr p (some x) m = if 0 ≤ cmpM x m then 13 else 0 := by
  simp only [mvErr]; rw [if_neg (by simp [h1, h2]), if_neg (by simp [h3]), if_neg h]
theorem cmpM_gt {x m : Mv} (h : m.frm < x.frm) : 0 ≤ cmpM x m := by
  have : cmpI x.frm m.frm = 1 := by unfold cmpI; rw [if_neg (by omega), if_pos h]
  simp [cmpM, orL, this]
theorem cmpM_lt {x m : Mv} (h : x.frm < m.frm) : ¬ 0 ≤ cmpM x m := by
  have : cmpI x.frm m.frm = -1 := by unfold cmpI; rw [if_pos h]
  simp [cmpM, orL, this]
theorem cmpM_eq {x m : Mv} (h : x.frm = m.frm) : 0 ≤ cmpM x m ↔ Op.bytesLess x.meth.toList m.meth.toList = false := by
  have : cmpI x.frm m.frm = 0 := by unfold cmpI; rw [if_neg (by omega), if_neg (by omega)]
  simp only [cmpM, orL, this, if_true]
  unfold cmpS
  cases Op.bytesLess x.meth.toList m.meth.toList
  · simp; split <;> simp
  · simp
theorem stB_f {p : Pr} {q : Int} (h : q < 0 ∨ (p.sts.length : Int) ≤ q) : stB p q = false := by
  simp [stB]; omega
theorem stB_t {p : Pr} {q : Int} (h : 0 ≤ q) (h2 : q < p.sts.length) : stB p q = true := by simp [stB, h, h2]

set_option maxRecDepth 100000 in
set_option maxHeartbeats 1000000 in
theorem moves30 (p : Pr) (a1 : Option Addr) (c1 : Nat) (a2 : Option Addr) (c2 : Nat) (w : World) (h2 : p.mvs.length ≤ 1000000) (_h1 : p.sts.length ≤ 1000000) (hm : MvsAt w a2 p.mvs) :
    Calls Tryd.prog 30 #[PrV p a1 c1 a2 c2] w (Ret w (.int .i64 (mvsErr p 0))) := by
  unfold PrV
  have hbox := Box.new w p a1 c1 a2 c2 25
  go_enter Tryd.func30, Tryd.ntmps30
  go_wp2
  go_loopw [3] (fun i wr => ∃ k : Nat, k ≤ p.mvs.length ∧ i = .int .i64 k ∧ Hid (mvsErr p k = mvsErr p 0) ∧ Below w.heap.size w wr ∧ Hid (Box wr w.heap.size p a1 c1 a2 c2)) (fun i _ => p.mvs.length - (intOf i).toNat)
  case atStart => exact ⟨0, Nat.zero_le _, rfl, rfl, (Below.refl _ _).alloc (Nat.le_refl _) _, hbox⟩
  case round =>
    clear hbox
    obtain ⟨k, hk, rfl, HI, hb, HBX⟩ := hrel
    obtain ⟨q0, q1, q2, q3, q4⟩ := HBX.out
    have hlt0 : w.heap.size < wr.heap.size := HBX.out.lt
    by_cases hlt : k < p.mvs.length
    · have HM := Lib.hid (hm.below hb)
      obtain ⟨b, off, rfl, m1, m2, m3⟩ := HM.out k hlt
      obtain ⟨x, hx⟩ : ∃ x, x = p.mvs[k] := ⟨_, rfl⟩
      rw [← hx] at m1 m2 m3
      have HX := Lib.hid hx; clear hx hm
      have fin : ∀ (e : Int), mvErr p (if 0 < k then p.mvs[k - 1]? else none) x = e → e ≠ 0 → mvsErr p 0 = e := fun e he h0 => by
        rw [← HI.out]; rw [HX.out] at he; exact mvsErr_bad hlt he h0
      have FIN := Lib.hid fin; clear fin
      by_cases f0 : x.frm < 0
      · go_wp2
        go_ret
        exact ⟨ret_int (FIN.out 4 (mvErr_range (.inl (stB_f (.inl f0)))) (by decide)).symm, hb.alloc hb.size _⟩
      by_cases f1 : (p.sts.length : Int) ≤ x.frm
      · go_wp2
        go_ret
        exact ⟨ret_int (FIN.out 4 (mvErr_range (.inl (stB_f (.inr f1)))) (by decide)).symm, hb.alloc hb.size _⟩
      by_cases t0 : x.to < 0
      · go_wp2
        go_ret
        exact ⟨ret_int (FIN.out 4 (mvErr_range (.inr (stB_f (.inl t0)))) (by decide)).symm, hb.alloc hb.size _⟩
      by_cases t1 : (p.sts.length : Int) ≤ x.to
      · go_wp2
        go_ret
        exact ⟨ret_int (FIN.out 4 (mvErr_range (.inr (stB_f (.inr t1)))) (by decide)).symm, hb.alloc hb.size _⟩
      have S1 := Lib.hid (stB_t (p := p) (q := x.frm) (by omega) (by omega))
      have S2 := Lib.hid (stB_t (p := p) (q := x.to) (by omega) (by omega))
      cases hid : identB x.meth
      · go_wp2_with fail
        refine (ident28 _ _).mono ?_
        rintro e w1 ⟨rfl, hb1⟩
        rw [hid]
        go_wp2
        go_ret
        exact ⟨ret_int (FIN.out 5 (mvErr_name S1.out S2.out hid) (by decide)).symm, (hb.alloc hb.size _).trans (hb1.mono (by have := hb.size; simp; omega))⟩
      go_wp2_with fail
      have bx := box_cells wr x 46
      refine (ident28 _ _).mono ?_
      rintro e w1 ⟨rfl, hb1⟩
      rw [hid]
      have hbA : Below wr.heap.size wr (wr.alloc (.cells #[.int .i64 x.frm, .string x.meth, .int .i64 x.to] 46)) := (Below.refl _ _).alloc (Nat.le_refl _) _
      have hb2 : Below w.heap.size w w1 := (hb.alloc hb.size _).trans (hb1.mono (by have := hb.size; simp; omega))
      have BX1 := Lib.hid ((HBX.out.below hbA).below hb1)
      have MV1 := Lib.hid ((HM.out.below hbA).below hb1)
      obtain ⟨x0, x1, x2⟩ := bx
      have x0 := cell_below hb1 x0
      have x1 := cell_below hb1 x1
      have x2 := cell_below hb1 x2
      have ne : wr.heap.size < w1.heap.size := by have := hb1.size; simp at this; omega
      clear q0 q1 q2 q3 q4 m1 m2 m3 hb1 hbA HM HBX
      obtain ⟨q0, q1, q2, q3, q4⟩ := BX1.out
      by_cases e1 : x.frm = p.err
      · have e1' : (x.frm == p.err) = true := by simp [e1]
        have E1 := Lib.hid e1; clear e1
        go_wp2
        go_ret
        exact ⟨ret_int (FIN.out 22 (mvErr_state S1.out S2.out hid E1.out) (by decide)).symm, hb2⟩
      have e1' : (x.frm == p.err) = false := by simpa using e1
      have E1 := Lib.hid e1; clear e1
      by_cases k0 : k = 0
      · subst k0
        go_wp2
        go_roundw
        case rel =>
          refine ⟨1, by omega, by go_num, ?_, hb2, BX1.out⟩
          exact (mvsErr_ok hlt (by rw [← HX.out]; simp only [Nat.lt_irrefl, if_false]; exact mvErr_none S1.out S2.out hid E1.out)).symm
        case measure => simp [intOf]; omega
      obtain ⟨j, rfl⟩ : ∃ j, k = j + 1 := ⟨k - 1, by omega⟩
      obtain ⟨b', off', hbo, m1, m2, m3⟩ := MV1.out j (by omega)
      obtain ⟨rfl, rfl⟩ : b = b' ∧ off = off' := by simpa using hbo
      obtain ⟨y, hy⟩ : ∃ y, y = p.mvs[j] := ⟨_, rfl⟩
      rw [← hy] at m1 m2 m3
      have HY : Hid (mvErr p (if 0 < j + 1 then p.mvs[j + 1 - 1]? else none) p.mvs[j + 1] = if 0 ≤ cmpM y x then 13 else 0) := by
        show _ = _
        rw [if_pos (by omega), ← HX.out, show p.mvs[j + 1 - 1]? = some y from by simp [hy, show j < p.mvs.length by omega]]
        exact mvErr_some S1.out S2.out hid E1.out
      clear hy
      have ok : cmpM y x < 0 → Hid (mvsErr p (j + 1 + 1) = mvsErr p 0) := fun h => by
        show _ = _
        rw [← HI.out]
        exact (mvsErr_ok hlt (by rw [HY.out, if_neg (by omega)])).symm
      have bad : 0 ≤ cmpM y x → mvsErr p 0 = 13 := fun h => FIN.out 13 (by have := HY.out; rw [if_pos h, ← HX.out] at this; exact this) (by decide)
      have OK := Lib.hid ok; clear ok
      have BAD := Lib.hid bad; clear bad
      by_cases c1 : x.frm < y.frm
      · go_wp2
        go_ret
        exact ⟨ret_int (BAD.out (cmpM_gt c1)).symm, hb2.alloc hb2.size _⟩
      by_cases c2 : y.frm = x.frm
      · have c2' : (y.frm == x.frm) = true := by simp [c2]
        have C2 := Lib.hid c2; clear c2
        cases c3 : Op.bytesLess y.meth.toList x.meth.toList
        · go_wp2
          go_ret
          exact ⟨ret_int (BAD.out ((cmpM_eq C2.out).2 c3)).symm, hb2.alloc hb2.size _⟩
        · go_wp2
          go_roundw
          case rel =>
            exact ⟨j + 1 + 1, by omega, by go_num, OK.out (Int.not_le.1 (fun h => by rw [cmpM_eq C2.out, c3] at h; cases h)), hb2.alloc hb2.size _, BX1.out.below ((Below.refl _ _).alloc (Nat.le_refl _) _)⟩
          case measure => simp [intOf]; omega
      · have c2' : (y.frm == x.frm) = false := by simpa using c2
        go_wp2
        go_roundw
        case rel =>
          exact ⟨j + 1 + 1, by omega, by go_num, OK.out (Int.not_le.1 (cmpM_lt (by omega))), hb2.alloc hb2.size _, BX1.out.below ((Below.refl _ _).alloc (Nat.le_refl _) _)⟩
        case measure => simp [intOf]; omega
    · go_wp2
      go_ret
      refine ⟨ret_int ?_, hb⟩
      rw [← HI.out, mvsErr_end hlt]
end Go.Proofs.YtlkafolgbkobpaaDoor
