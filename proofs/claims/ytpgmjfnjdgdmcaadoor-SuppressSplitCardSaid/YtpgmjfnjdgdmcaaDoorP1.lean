import Derived.Test.YtpgmjfnjdgdmcaaDoorProg
import Derived.WalkKit
import Derived.WalkSpells
import Derived.WalkLawsBesides
import Derived.BigQuiet
import Derived.Lib.Hide
namespace Go.Proofs.YtpgmjfnjdgdmcaaDoor
open Go.RowKit

theorem ret_int {k : IntKind} {a b : Int} (h : a = b) : Ending.returned (.int k a) = .returned (.int k b) := by rw [h]
theorem ret_bool {a b : Bool} (h : a = b) : Ending.returned (.bool a) = .returned (.bool b) := by rw [h]

/-- The call returns v and leaves the world as it was. -/
def Same (w : World) (v : Value) (e : Ending) (w' : World) : Prop := e = .returned v ∧ w = w'
/-- The call returns v; nothing that was there has changed. -/
def Ret (w : World) (v : Value) (e : Ending) (w' : World) : Prop := e = .returned v ∧ Below w.heap.size w w'

def letterI (c : Int) : Bool := (decide (97 ≤ c) && decide (c ≤ 122)) || (decide (65 ≤ c) && decide (c ≤ 90))
def digitI (c : Int) : Bool := decide (48 ≤ c) && decide (c ≤ 57)
def partI (c : Int) : Bool := letterI c || digitI c || c == 95

theorem letterI_t {c : Int} (h : (97 ≤ c ∧ c ≤ 122) ∨ (65 ≤ c ∧ c ≤ 90)) : letterI c = true := by simp [letterI]; omega
theorem letterI_f {c : Int} (h : ¬ ((97 ≤ c ∧ c ≤ 122) ∨ (65 ≤ c ∧ c ≤ 90))) : letterI c = false := by
  simp [letterI]; omega

set_option maxHeartbeats 400000 in
theorem letter50 (c : Int) (w : World) : Calls Tryd.prog 50 #[.int .u8 c] w (Same w (.bool (letterI c))) := by
  go_enter Tryd.func50, Tryd.ntmps50
  go_wp2
  all_goals go_ret
  all_goals refine ⟨ret_bool ?_, rfl⟩
  all_goals simp [letterI, *]
  all_goals omega
set_option maxHeartbeats 400000 in
theorem letter54 (c : Int) (w : World) : Calls Tryd.prog 54 #[.int .u8 c] w (Same w (.bool (letterI c))) := by
  go_enter Tryd.func54, Tryd.ntmps54
  go_wp2
  all_goals go_ret
  all_goals refine ⟨ret_bool ?_, rfl⟩
  all_goals simp [letterI, *]
  all_goals omega
set_option maxHeartbeats 400000 in
theorem digit74 (c : Int) (w : World) : Calls Tryd.prog 74 #[.int .u8 c] w (Same w (.bool (digitI c))) := by
  go_enter Tryd.func74, Tryd.ntmps74
  go_wp2
  all_goals go_ret
  all_goals refine ⟨ret_bool ?_, rfl⟩
  all_goals simp [digitI, *]
  all_goals omega
set_option maxHeartbeats 400000 in
theorem digit75 (c : Int) (w : World) : Calls Tryd.prog 75 #[.int .u8 c] w (Same w (.bool (digitI c))) := by
  go_enter Tryd.func75, Tryd.ntmps75
  go_wp2
  all_goals go_ret
  all_goals refine ⟨ret_bool ?_, rfl⟩
  all_goals simp [digitI, *]
  all_goals omega
set_option maxHeartbeats 400000 in
theorem part52 (c : Int) (w : World) : Calls Tryd.prog 52 #[.int .u8 c] w (Same w (.bool (partI c))) := by
  cases hl : letterI c <;> cases hd : digitI c
  all_goals
    go_enter Tryd.func52, Tryd.ntmps52
    go_wp2_with (first | (go_at_call 50; refine (letter50 _ _).mono ?_; rintro e w' ⟨rfl, rfl⟩) | (go_at_call 74; refine (digit74 _ _).mono ?_; rintro e w' ⟨rfl, rfl⟩))
    go_ret
    refine ⟨ret_bool ?_, rfl⟩
    simp [partI, hl, hd]
set_option maxHeartbeats 400000 in
theorem part56 (c : Int) (w : World) : Calls Tryd.prog 56 #[.int .u8 c] w (Same w (.bool (partI c))) := by
  cases hl : letterI c <;> cases hd : digitI c
  all_goals
    go_enter Tryd.func56, Tryd.ntmps56
    go_wp2_with (first | (go_at_call 54; refine (letter54 _ _).mono ?_; rintro e w' ⟨rfl, rfl⟩) | (go_at_call 75; refine (digit75 _ _).mono ?_; rintro e w' ⟨rfl, rfl⟩))
    go_ret
    refine ⟨ret_bool ?_, rfl⟩
    simp [partI, hl, hd]
end Go.Proofs.YtpgmjfnjdgdmcaaDoor
