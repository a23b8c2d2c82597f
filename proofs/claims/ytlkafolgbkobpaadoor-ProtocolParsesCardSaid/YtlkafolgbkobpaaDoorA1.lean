import Derived.Test.YtlkafolgbkobpaaDoorProg
import Derived.WalkKit
import Derived.WalkSpells
import Derived.WalkLawsBesides
import Derived.BigQuiet
import Derived.Lib.Hide
namespace Go.Proofs.YtlkafolgbkobpaaDoor
open Go.RowKit

theorem ret_int {k : IntKind} {a b : Int} (h : a = b) : Ending.returned (.int k a) = .returned (.int k b) := by rw [h]
theorem ret_bool {a b : Bool} (h : a = b) : Ending.returned (.bool a) = .returned (.bool b) := by rw [h]

/-- The call returns v and leaves the world as it was. -/
def Same (w : World) (v : Value) (e : Ending) (w' : World) : Prop := e = .returned v ∧ w = w'
/-- The call returns v; nothing that was there has changed. -/
def Ret (w : World) (v : Value) (e : Ending) (w' : World) : Prop := e = .returned v ∧ Below w.heap.size w w'

def letterI (c : Int) : Bool := (decide (97 ≤ c) && decide (c ≤ 122)) || (decide (65 ≤ c) && decide (c ≤ 90))
def digitI (c : Int) : Bool := decide (48 ≤ c) && decide (c ≤ 57)
def partI (c : Int) : Bool := letterI c || digitI c || c == 95

theorem letterI_t {c : Int} (h : (97 ≤ c ∧ c ≤ 122) ∨ (65 ≤ c ∧ c ≤ 90)) : letterI c = true := by simp [letterI]; omega
theorem letterI_f {c : Int} (h : ¬ ((97 ≤ c ∧ c ≤ 122) ∨ (65 ≤ c ∧ c ≤ 90))) : letterI c = false := by
  simp [letterI]; omega

set_option maxHeartbeats 400000 in
theorem letter40 (c : Int) (w : World) : Calls Tryd.prog 40 #[.int .u8 c] w (Same w (.bool (letterI c))) := by
  go_enter Tryd.func40, Tryd.ntmps40
  go_wp2
  all_goals go_ret
  all_goals refine ⟨ret_bool ?_, rfl⟩
  all_goals simp [letterI, *]
  all_goals omega
set_option maxHeartbeats 400000 in
theorem letter48 (c : Int) (w : World) : Calls Tryd.prog 48 #[.int .u8 c] w (Same w (.bool (letterI c))) := by
  go_enter Tryd.func48, Tryd.ntmps48
  go_wp2
  all_goals go_ret
  all_goals refine ⟨ret_bool ?_, rfl⟩
  all_goals simp [letterI, *]
  all_goals omega
set_option maxHeartbeats 400000 in
theorem digit57 (c : Int) (w : World) : Calls Tryd.prog 57 #[.int .u8 c] w (Same w (.bool (digitI c))) := by
  go_enter Tryd.func57, Tryd.ntmps57
  go_wp2
  all_goals go_ret
  all_goals refine ⟨ret_bool ?_, rfl⟩
  all_goals simp [digitI, *]
  all_goals omega
set_option maxHeartbeats 400000 in
theorem digit60 (c : Int) (w : World) : Calls Tryd.prog 60 #[.int .u8 c] w (Same w (.bool (digitI c))) := by
  go_enter Tryd.func60, Tryd.ntmps60
  go_wp2
  all_goals go_ret
  all_goals refine ⟨ret_bool ?_, rfl⟩
  all_goals simp [digitI, *]
  all_goals omega
set_option maxHeartbeats 400000 in
theorem part42 (c : Int) (w : World) : Calls Tryd.prog 42 #[.int .u8 c] w (Same w (.bool (partI c))) := by
  cases hl : letterI c <;> cases hd : digitI c
  all_goals
    go_enter Tryd.func42, Tryd.ntmps42
    go_wp2_with (first | (go_at_call 40; refine (letter40 _ _).mono ?_; rintro e w' ⟨rfl, rfl⟩) | (go_at_call 57; refine (digit57 _ _).mono ?_; rintro e w' ⟨rfl, rfl⟩))
    go_ret
    refine ⟨ret_bool ?_, rfl⟩
    simp [partI, hl, hd]
set_option maxHeartbeats 400000 in
theorem part50 (c : Int) (w : World) : Calls Tryd.prog 50 #[.int .u8 c] w (Same w (.bool (partI c))) := by
  cases hl : letterI c <;> cases hd : digitI c
  all_goals
    go_enter Tryd.func50, Tryd.ntmps50
    go_wp2_with (first | (go_at_call 48; refine (letter48 _ _).mono ?_; rintro e w' ⟨rfl, rfl⟩) | (go_at_call 60; refine (digit60 _ _).mono ?_; rintro e w' ⟨rfl, rfl⟩))
    go_ret
    refine ⟨ret_bool ?_, rfl⟩
    simp [partI, hl, hd]
end Go.Proofs.YtlkafolgbkobpaaDoor
