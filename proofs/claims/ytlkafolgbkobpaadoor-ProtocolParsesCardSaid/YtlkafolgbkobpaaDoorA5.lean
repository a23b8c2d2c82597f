import Derived.Test.YtlkafolgbkobpaaDoorA4
import Derived.Test.YtlkafolgbkobpaaDoorQTail
import Derived.Lib.QuietBelow
namespace Go.Proofs.YtlkafolgbkobpaaDoor
open Go.RowKit Go.Sort

def cmpI (x y : Int) : Int := if x < y then -1 else if y < x then 1 else 0
/-- strings compared, as Go compares them -/
def cmpS (x y : ByteArray) : Int := if Op.bytesLess x.toList y.toList then -1 else if x.toList = y.toList then 0 else 1
theorem isNaN58 (x : Int) (w : World) : Calls Tryd.prog 58 #[.int .i64 x] w (Same w (.bool false)) := by
  go_enter Tryd.func58, Tryd.ntmps58
  go_wp2
  go_ret
  exact ⟨ret_bool (by simp), rfl⟩
theorem isNaN59 (x : ByteArray) (w : World) : Calls Tryd.prog 59 #[.string x] w (Same w (.bool false)) := by
  go_enter Tryd.func59, Tryd.ntmps59
  go_wp2
  go_ret
  exact ⟨ret_bool (by simp), rfl⟩
set_option maxHeartbeats 400000 in
theorem compare46 (x y : Int) (w : World) : Calls Tryd.prog 46 #[.int .i64 x, .int .i64 y] w (Same w (.int .i64 (cmpI x y))) := by
  go_enter Tryd.func46, Tryd.ntmps46
  go_wp2_with (go_at_call 58; refine (isNaN58 _ _).mono ?_; rintro e w' ⟨rfl, rfl⟩)
  all_goals go_ret
  all_goals refine ⟨ret_int ?_, rfl⟩
  all_goals unfold cmpI
  · rw [if_pos (by assumption)]
  · rw [if_neg (by omega), if_pos (by omega)]
  · rw [if_neg (by omega), if_neg (by omega)]
set_option maxHeartbeats 400000 in
theorem compare47 (x y : ByteArray) (w : World) : Calls Tryd.prog 47 #[.string x, .string y] w (Same w (.int .i64 (cmpS x y))) := by
  go_enter Tryd.func47, Tryd.ntmps47
  go_wp2_with (go_at_call 59; refine (isNaN59 _ _).mono ?_; rintro e w' ⟨rfl, rfl⟩)
  all_goals go_ret
  all_goals refine ⟨ret_int ?_, rfl⟩
  all_goals unfold cmpS
  · simp [*]
  · have h1 : (!x.toList == y.toList) = true := by assumption
    rw [if_neg (by simp [*]), if_neg (by simpa using h1)]
  · have h1 : (!x.toList == y.toList) = false := by assumption
    rw [if_neg (by simp [*]), if_pos (by simpa using h1)]
/-- ints at an address -/
def IntsAt (w : World) (a : Option Addr) (l : List Int) : Prop :=
  ∀ k (h : k < l.length), ∃ b off, a = some ⟨b, off, none⟩ ∧ w.cell? ⟨b, off + k, none⟩ = some (.int .i64 l[k])
theorem IntsAt.below {w w' : World} {a : Option Addr} {l : List Int} (h : IntsAt w a l) (hb : Below w.heap.size w w') : IntsAt w' a l := by
  intro k hk
  obtain ⟨b, off, ha, hc⟩ := h k hk
  exact ⟨b, off, ha, cell_below hb hc⟩
def orL : List Int → Int
  | [] => 0
  | x :: l => if x = 0 then orL l else x
set_option maxHeartbeats 400000 in
theorem or45 (a : Option Addr) (cap : Nat) (l : List Int) (w : World) (hm : l.length ≤ 1000000) (hc : IntsAt w a l) :
    Calls Tryd.prog 45 #[.slice a l.length cap] w (Same w (.int .i64 (orL l))) := by
  go_enter Tryd.func45, Tryd.ntmps45
  go_wp2
  go_loop [8] (fun i => ∃ k : Nat, k ≤ l.length ∧ i = .int .i64 k ∧ Hid (orL (l.drop k) = orL l)) (fun i => l.length - (intOf i).toNat)
  case atStart => exact ⟨0, Nat.zero_le _, rfl, rfl⟩
  case round =>
    obtain ⟨k, hk, rfl, HI⟩ := hrel
    by_cases hlt : k < l.length
    · obtain ⟨b, off, rfl, hcell⟩ := hc k hlt
      obtain ⟨x, hx⟩ : ∃ x, x = l[k] := ⟨_, rfl⟩
      rw [← hx] at hcell
      have HS : Hid (orL (l.drop k) = if x = 0 then orL (l.drop (k + 1)) else x) := by
        show _ = _
        rw [List.drop_eq_getElem_cons hlt, hx]; rfl
      clear hx
      by_cases hq : x = 0
      · have hq' : (x != 0) = false := by simp [hq]
        have HQ := Lib.hid hq; clear hq
        go_wp2
        go_round
        case rel =>
          refine ⟨k+1, by omega, by go_num, ?_⟩
          show _ = _
          rw [← HI.out, HS.out, if_pos HQ.out]
        case measure => simp [intOf]; omega
      · have hq' : (x != 0) = true := by simpa using hq
        have HQ := Lib.hid hq; clear hq
        go_wp2
        go_ret
        refine ⟨ret_int ?_, rfl⟩
        rw [← HI.out, HS.out, if_neg HQ.out]
    · go_wp2
      go_ret
      refine ⟨ret_int ?_, rfl⟩
      rw [← HI.out, List.drop_of_length_le (by omega)]; rfl

def MvV (m : Mv) : Value := .agg #[.int .i64 m.frm, .string m.meth, .int .i64 m.to]
def mvObj (m : Mv) : Obj := .cells #[.int .i64 m.frm, .string m.meth, .int .i64 m.to] 46
def cmpM (x y : Mv) : Int := orL [cmpI x.frm y.frm, cmpS x.meth y.meth]
theorem box_cells (w : World) (m : Mv) (e : TypeId) : (w.alloc (.cells #[.int .i64 m.frm, .string m.meth, .int .i64 m.to] e)).cell? ⟨w.heap.size, 0, none⟩ = some (.int .i64 m.frm) ∧ (w.alloc (.cells #[.int .i64 m.frm, .string m.meth, .int .i64 m.to] e)).cell? ⟨w.heap.size, 1, none⟩ = some (.string m.meth) ∧ (w.alloc (.cells #[.int .i64 m.frm, .string m.meth, .int .i64 m.to] e)).cell? ⟨w.heap.size, 2, none⟩ = some (.int .i64 m.to) := by
  refine ⟨?_, ?_, ?_⟩ <;> rw [cell_of_row _ _ _ _ e (0, 0) (heap_alloc_new w _)] <;> rfl
/-- the class of worlds: W, with more blocks behind it -/
def Reg (W : World) (w' : World) : Prop := ∃ p : Regrown, w' = grow (redrawn W p.d) p.os
theorem reg_start (W : World) : ∃ p : Regrown, ({ W with drawn := W.drawn + 1 } : World) = grow (redrawn W p.d) p.os := ⟨⟨W.drawn + 1, #[]⟩, by rw [grow_empty]; rfl⟩
theorem Calls.reg_same {P : Program} {f : FuncId} {args : Array Value} {w : World} {d : Nat} {os : Array Obj} {v : Value}
    (h : Calls P f args (grow (redrawn w d) os) (Same (grow (redrawn w d) os) v)) : Calls P f args (grow (redrawn w d) os) fun e w'' => e = .returned v ∧ ∃ p : Regrown, w'' = grow (redrawn w p.d) p.os :=
  h.mono fun _ _ ⟨he, hb⟩ => ⟨he, ⟨d, os⟩, hb.symm⟩
theorem Calls.reg_ret {P : Program} {f : FuncId} {args : Array Value} {w : World} {d : Nat} {os : Array Obj} {v : Value}
    (h : Calls P f args (grow (redrawn w d) os) (Ret (grow (redrawn w d) os) v)) : Calls P f args (grow (redrawn w d) os) fun e w'' => e = .returned v ∧ ∃ p : Regrown, w'' = grow (redrawn w p.d) p.os :=
  Calls.regrown_of h
theorem ints2 (w : World) (x y : Int) (e : TypeId) : IntsAt (w.alloc (.cells #[.int .i64 x, .int .i64 y] e)) (some ⟨w.heap.size, 0, none⟩) [x, y] := by
  intro k hk
  refine ⟨w.heap.size, 0, rfl, ?_⟩
  rw [cell_of_row _ _ _ _ e (0, 0) (heap_alloc_new w _)]
  match k, hk with
  | 0, _ => rfl
  | 1, _ => rfl
set_option maxHeartbeats 400000 in
theorem compare27 (x y : Mv) (w : World) : Calls Tryd.prog 27 #[MvV x, MvV y] w (Ret w (.int .i64 (cmpM x y))) := by
  unfold MvV
  obtain ⟨W, hW⟩ : ∃ W, W = (w.alloc (.cells #[.int .i64 x.frm, .string x.meth, .int .i64 x.to] 46)).alloc (.cells #[.int .i64 y.frm, .string y.meth, .int .i64 y.to] 46) := ⟨_, rfl⟩
  have hb : Below w.heap.size w W := by rw [hW]; exact ((Below.refl _ _).alloc (Nat.le_refl _) _).alloc (by simp) _
  have b1 := box_cells w x 46
  have hbb : Below (w.heap.size + 1) (w.alloc (.cells #[.int .i64 x.frm, .string x.meth, .int .i64 x.to] 46)) W := by rw [hW]; exact (Below.refl _ _).alloc (by simp) _
  have c0 : W.cell? ⟨w.heap.size, 0, none⟩ = some (.int .i64 x.frm) := by rw [hbb.cell (by simp)]; exact b1.1
  have c1 : W.cell? ⟨w.heap.size, 1, none⟩ = some (.string x.meth) := by rw [hbb.cell (by simp)]; exact b1.2.1
  have c2 : W.cell? ⟨w.heap.size + 1, 0, none⟩ = some (.int .i64 y.frm) := by rw [hW]; simp
  have c3 : W.cell? ⟨w.heap.size + 1, 1, none⟩ = some (.string y.meth) := by rw [hW]; simp
  clear b1 hbb
  have HW := Lib.hid hW; clear hW
  go_enter Tryd.func27, Tryd.ntmps27
  go_wp2
  rw [← HW.out]
  have k0 := cell_regrown c0
  have k1 := cell_regrown c1
  have k2 := cell_regrown c2
  have k3 := cell_regrown c3
  clear c0 c1 c2 c3
  refine wp_region_quiet_tail (fun w' => ∃ p : Regrown, w' = grow (redrawn W p.d) p.os) 10 (by kernel_rfl) (by kernel_rfl) (reg_start W) ?_
  simp only [List.take_succ_cons, List.take_zero, List.drop_succ_cons, List.drop_zero]
  repeat (quiet_step (first | exact Calls.reg_same (compare46 _ _ _) | exact Calls.reg_same (compare47 _ _ _)))
  refine wpQuiet_nil ?_
  rintro w' ⟨⟨d, os⟩, rfl⟩
  have hb2 := hb.trans ((below_regrown W d os).mono hb.size)
  clear k0 k1 k2 k3
  generalize grow (redrawn W d) os = W2 at *
  go_wp2_with fail
  refine (or45 _ _ [cmpI x.frm y.frm, cmpS x.meth y.meth] _ (by simp) (ints2 _ _ _ _)).mono ?_
  rintro e w' ⟨rfl, rfl⟩
  go_wp2
  go_ret
  exact ⟨rfl, hb2.alloc hb2.size _⟩
end Go.Proofs.YtlkafolgbkobpaaDoor
