import Derived.Test.YtlkafolgbkobpaaDoorA3
namespace Go.Proofs.YtlkafolgbkobpaaDoor
open Go.RowKit

structure Mv where
  frm : Int
  meth : ByteArray
  to : Int
structure Pr where
  cls : ByteArray
  sts : List ByteArray
  start : Int
  err : Int
  mvs : List Mv

/-- strings at an address -/
def StrsAt (w : World) (a : Option Addr) (l : List ByteArray) : Prop :=
  ∀ k (h : k < l.length), ∃ b off, a = some ⟨b, off, none⟩ ∧ w.cell? ⟨b, off + k, none⟩ = some (.string l[k])
/-- moves at an address -/
def MvsAt (w : World) (a : Option Addr) (l : List Mv) : Prop :=
  ∀ k (h : k < l.length), ∃ b off, a = some ⟨b, off, none⟩ ∧ w.cell? ⟨b, off + k * 3, none⟩ = some (.int .i64 l[k].frm) ∧ w.cell? ⟨b, off + k * 3 + 1, none⟩ = some (.string l[k].meth) ∧ w.cell? ⟨b, off + k * 3 + 2, none⟩ = some (.int .i64 l[k].to)
theorem cell_below {w w' : World} (hb : Below w.heap.size w w') {a : Addr} {v : Value} (h : w.cell? a = some v) : w'.cell? a = some v := by
  rw [hb.cell (World.block_lt_of_cell? w a h)]; exact h
theorem StrsAt.below {w w' : World} {a : Option Addr} {l : List ByteArray} (h : StrsAt w a l) (hb : Below w.heap.size w w') : StrsAt w' a l := by
  intro k hk
  obtain ⟨b, off, ha, hc⟩ := h k hk
  exact ⟨b, off, ha, cell_below hb hc⟩
theorem MvsAt.below {w w' : World} {a : Option Addr} {l : List Mv} (h : MvsAt w a l) (hb : Below w.heap.size w w') : MvsAt w' a l := by
  intro k hk
  obtain ⟨b, off, ha, h1, h2, h3⟩ := h k hk
  exact ⟨b, off, ha, cell_below hb h1, cell_below hb h2, cell_below hb h3⟩

def idxFrom (l : List ByteArray) (s : ByteArray) : Nat → Int
  | k => if h : k < l.length then (if l[k].toList = s.toList then (k : Int) else idxFrom l s (k+1)) else -1
termination_by k => l.length - k
def idx (l : List ByteArray) (s : ByteArray) : Int := idxFrom l s 0

set_option maxHeartbeats 400000 in
theorem at29 (a : Option Addr) (cap : Nat) (ss : List ByteArray) (s : ByteArray) (w : World) (hm : ss.length ≤ 1000000)
    (hc : StrsAt w a ss) : Calls Tryd.prog 29 #[.slice a ss.length cap, .string s] w (Same w (.int .i64 (idx ss s))) := by
  go_enter Tryd.func29, Tryd.ntmps29
  go_wp2
  go_loop [5] (fun i => ∃ k : Nat, k ≤ ss.length ∧ i = .int .i64 k ∧ Hid (idxFrom ss s k = idx ss s)) (fun i => ss.length - (intOf i).toNat)
  case atStart => exact ⟨0, Nat.zero_le _, rfl, rfl⟩
  case round =>
    obtain ⟨k, hk, rfl, HI⟩ := hrel
    by_cases hlt : k < ss.length
    · obtain ⟨b, off, rfl, hcell⟩ := hc k hlt
      obtain ⟨x, hx⟩ : ∃ x, x = ss[k] := ⟨_, rfl⟩
      rw [← hx] at hcell
      have HX := Lib.hid hx; clear hx
      by_cases hq : x.toList = s.toList
      · go_wp2
        go_ret
        refine ⟨ret_int ?_, rfl⟩
        have := HI.out
        rw [← this, idxFrom, dif_pos hlt, ← HX.out, if_pos hq]
      · have hq' : (x.toList == s.toList) = false := by simpa using hq
        go_wp2
        go_round
        case rel => 
          refine ⟨k+1, by omega, by go_num, ?_⟩
          have := HI.out
          rw [idxFrom, dif_pos hlt, ← HX.out, if_neg hq] at this
          exact this
        case measure => simp [intOf]; omega
    · go_wp2
      go_ret
      refine ⟨ret_int ?_, rfl⟩
      have := HI.out
      rw [← this, idxFrom, dif_neg hlt]
set_option maxHeartbeats 400000 in
theorem index44 (a : Option Addr) (cap : Nat) (ss : List ByteArray) (s : ByteArray) (w : World) (hm : ss.length ≤ 1000000)
    (hc : StrsAt w a ss) : Calls Tryd.prog 44 #[.slice a ss.length cap, .string s] w (Same w (.int .i64 (idx ss s))) := by
  go_enter Tryd.func44, Tryd.ntmps44
  go_wp2
  go_loop [8] (fun i => ∃ k : Nat, k ≤ ss.length ∧ i = .int .i64 k ∧ Hid (idxFrom ss s k = idx ss s)) (fun i => ss.length - (intOf i).toNat)
  case atStart => exact ⟨0, Nat.zero_le _, rfl, rfl⟩
  case round =>
    obtain ⟨k, hk, rfl, HI⟩ := hrel
    by_cases hlt : k < ss.length
    · obtain ⟨b, off, rfl, hcell⟩ := hc k hlt
      obtain ⟨x, hx⟩ : ∃ x, x = ss[k] := ⟨_, rfl⟩
      rw [← hx] at hcell
      have HX := Lib.hid hx; clear hx
      by_cases hq : x.toList = s.toList
      · have hq' : (s.toList == x.toList) = true := by simp [hq]
        go_wp2
        go_ret
        refine ⟨ret_int ?_, rfl⟩
        have := HI.out
        rw [← this, idxFrom, dif_pos hlt, ← HX.out, if_pos hq]
      · have hq' : (s.toList == x.toList) = false := by simp; exact fun e => hq e.symm
        go_wp2
        go_round
        case rel => 
          refine ⟨k+1, by omega, by go_num, ?_⟩
          have := HI.out
          rw [idxFrom, dif_pos hlt, ← HX.out, if_neg hq] at this
          exact this
        case measure => simp [intOf]; omega
    · go_wp2
      go_ret
      refine ⟨ret_int ?_, rfl⟩
      have := HI.out
      rw [← this, idxFrom, dif_neg hlt]
set_option maxHeartbeats 400000 in
theorem contains26 (a : Option Addr) (cap : Nat) (ss : List ByteArray) (s : ByteArray) (w : World) (hm : ss.length ≤ 1000000)
    (hc : StrsAt w a ss) : Calls Tryd.prog 26 #[.slice a ss.length cap, .string s] w (Same w (.bool (decide (0 ≤ idx ss s)))) := by
  have HC := Lib.hid hc; clear hc
  go_enter Tryd.func26, Tryd.ntmps26
  go_wp2_with (go_at_call 44; refine (index44 _ _ _ _ _ (by omega) HC.out).mono ?_; rintro e w' ⟨rfl, rfl⟩)
  go_ret
  exact ⟨rfl, rfl⟩

/-- a protocol's value -/
def PrV (p : Pr) (a1 : Option Addr) (c1 : Nat) (a2 : Option Addr) (c2 : Nat) : Value := .agg #[.string p.cls, .slice a1 p.sts.length c1, .int .i64 p.start, .int .i64 p.err, .slice a2 p.mvs.length c2]
theorem isState23 (p : Pr) (a1 : Option Addr) (c1 : Nat) (a2 : Option Addr) (c2 : Nat) (q : Int) (w : World) :
    Calls Tryd.prog 23 #[PrV p a1 c1 a2 c2, .int .i64 q] w (Ret w (.bool (decide (0 ≤ q) && decide (q < p.sts.length)))) := by
  unfold PrV
  go_enter Tryd.func23, Tryd.ntmps23
  go_wp2
  all_goals go_ret
  all_goals refine ⟨ret_bool ?_, (Below.refl _ _).alloc (Nat.le_refl _) _⟩
  all_goals simp [*]
  all_goals omega

def stepTo (p : Pr) (q : Int) (m : ByteArray) : List Mv → Int
  | [] => q
  | x :: l => if x.frm = q ∧ x.meth.toList = m.toList then x.to else stepTo p q m l
set_option maxHeartbeats 400000 in
theorem step24 (p : Pr) (a1 : Option Addr) (c1 : Nat) (a2 : Option Addr) (c2 : Nat) (q : Int) (m : ByteArray) (w : World) (h2 : p.mvs.length ≤ 1000000) (hm : MvsAt w a2 p.mvs) :
    Calls Tryd.prog 24 #[PrV p a1 c1 a2 c2, .int .i64 q, .string m] w (Ret w (.int .i64 (stepTo p q m p.mvs))) := by
  unfold PrV
  go_enter Tryd.func24, Tryd.ntmps24
  go_wp2
  go_loopw [12] (fun i wr => ∃ k : Nat, k ≤ p.mvs.length ∧ i = .int .i64 k ∧ Hid (stepTo p q m (p.mvs.drop k) = stepTo p q m p.mvs) ∧ Below w.heap.size w wr) (fun i _ => p.mvs.length - (intOf i).toNat)
  case atStart => exact ⟨0, Nat.zero_le _, rfl, rfl, (Below.refl _ _).alloc (Nat.le_refl _) _⟩
  case round =>
    obtain ⟨k, hk, rfl, HI, hb⟩ := hrel
    by_cases hlt : k < p.mvs.length
    · obtain ⟨b, off, rfl, h1, h2, h3⟩ := hm.below hb k hlt
      obtain ⟨x, hx⟩ : ∃ x, x = p.mvs[k] := ⟨_, rfl⟩
      rw [← hx] at h1 h2 h3
      have HS : Hid (stepTo p q m (p.mvs.drop k) = if x.frm = q ∧ x.meth.toList = m.toList then x.to else stepTo p q m (p.mvs.drop (k + 1))) := by
        show _ = _
        rw [List.drop_eq_getElem_cons hlt, hx]; rfl
      clear hx
      by_cases e1 : x.frm = q
      · have e1' : (x.frm == q) = true := by simp [e1]
        have E1 := Lib.hid e1; clear e1
        by_cases e2 : x.meth.toList = m.toList
        · have e2' : (x.meth.toList == m.toList) = true := by simp [e2]
          have E2 := Lib.hid e2; clear e2
          go_wp2
          go_ret
          refine ⟨ret_int ?_, hb.alloc hb.size _⟩
          rw [← HI.out, HS.out, if_pos ⟨E1.out, E2.out⟩]
        · have e2' : (x.meth.toList == m.toList) = false := by simpa using e2
          have E2 := Lib.hid e2; clear e2
          go_wp2
          go_roundw
          case rel =>
            refine ⟨k+1, by omega, by go_num, ?_, hb.alloc hb.size _⟩
            show _ = _
            rw [← HI.out, HS.out, if_neg (fun h => E2.out h.2)]
          case measure => simp [intOf]; omega
      · have e1' : (x.frm == q) = false := by simpa using e1
        have E1 := Lib.hid e1; clear e1
        go_wp2
        go_roundw
        case rel =>
          refine ⟨k+1, by omega, by go_num, ?_, hb.alloc hb.size _⟩
          show _ = _
          rw [← HI.out, HS.out, if_neg (fun h => E1.out h.1)]
        case measure => simp [intOf]; omega
    · go_wp2
      go_ret
      refine ⟨ret_int ?_, hb⟩
      rw [← HI.out, List.drop_of_length_le (by omega)]; rfl
end Go.Proofs.YtlkafolgbkobpaaDoor
