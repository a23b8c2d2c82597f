import Derived.Test.YthlnhinjcffllaaGreatDoorProg
import Derived.WalkKit
import Derived.WalkSpells
import Derived.WalkLawsBesides
import Derived.BigQuiet
import Derived.Lib.Hide
namespace Go.Proofs.YthlnhinjcffllaaGreatDoor
open Go.RowKit

theorem ret_int {k : IntKind} {a b : Int} (h : a = b) : Ending.returned (.int k a) = .returned (.int k b) := by rw [h]
theorem ret_bool {a b : Bool} (h : a = b) : Ending.returned (.bool a) = .returned (.bool b) := by rw [h]

/-- The call returns v and leaves the world as it was. -/
def Same (w : World) (v : Value) (e : Ending) (w' : World) : Prop := e = .returned v ∧ w = w'
/-- The call returns v; nothing that was there has changed. -/
def Ret (w : World) (v : Value) (e : Ending) (w' : World) : Prop := e = .returned v ∧ Below w.heap.size w w'

def letterI (c : Int) : Bool := (decide (97 ≤ c) && decide (c ≤ 122)) || (decide (65 ≤ c) && decide (c ≤ 90))
def digitI (c : Int) : Bool := decide (48 ≤ c) && decide (c ≤ 57)
def partI (c : Int) : Bool := letterI c || digitI c || c == 95

theorem letterI_t {c : Int} (h : (97 ≤ c ∧ c ≤ 122) ∨ (65 ≤ c ∧ c ≤ 90)) : letterI c = true := by simp [letterI]; omega
theorem letterI_f {c : Int} (h : ¬ ((97 ≤ c ∧ c ≤ 122) ∨ (65 ≤ c ∧ c ≤ 90))) : letterI c = false := by
  simp [letterI]; omega

set_option maxHeartbeats 400000 in
theorem letter41 (c : Int) (w : World) : Calls Tryz.prog 41 #[.int .u8 c] w (Same w (.bool (letterI c))) := by
  go_enter Tryz.func41, Tryz.ntmps41
  go_wp2
  all_goals go_ret
  all_goals refine ⟨ret_bool ?_, rfl⟩
  all_goals simp [letterI, *]
  all_goals omega
set_option maxHeartbeats 400000 in
theorem letter45 (c : Int) (w : World) : Calls Tryz.prog 45 #[.int .u8 c] w (Same w (.bool (letterI c))) := by
  go_enter Tryz.func45, Tryz.ntmps45
  go_wp2
  all_goals go_ret
  all_goals refine ⟨ret_bool ?_, rfl⟩
  all_goals simp [letterI, *]
  all_goals omega
set_option maxHeartbeats 400000 in
theorem digit80 (c : Int) (w : World) : Calls Tryz.prog 80 #[.int .u8 c] w (Same w (.bool (digitI c))) := by
  go_enter Tryz.func80, Tryz.ntmps80
  go_wp2
  all_goals go_ret
  all_goals refine ⟨ret_bool ?_, rfl⟩
  all_goals simp [digitI, *]
  all_goals omega
set_option maxHeartbeats 400000 in
theorem digit81 (c : Int) (w : World) : Calls Tryz.prog 81 #[.int .u8 c] w (Same w (.bool (digitI c))) := by
  go_enter Tryz.func81, Tryz.ntmps81
  go_wp2
  all_goals go_ret
  all_goals refine ⟨ret_bool ?_, rfl⟩
  all_goals simp [digitI, *]
  all_goals omega
set_option maxHeartbeats 400000 in
theorem part43 (c : Int) (w : World) : Calls Tryz.prog 43 #[.int .u8 c] w (Same w (.bool (partI c))) := by
  cases hl : letterI c <;> cases hd : digitI c
  all_goals
    go_enter Tryz.func43, Tryz.ntmps43
    go_wp2_with (first | (go_at_call 41; refine (letter41 _ _).mono ?_; rintro e w' ⟨rfl, rfl⟩) | (go_at_call 80; refine (digit80 _ _).mono ?_; rintro e w' ⟨rfl, rfl⟩))
    go_ret
    refine ⟨ret_bool ?_, rfl⟩
    simp [partI, hl, hd]
set_option maxHeartbeats 400000 in
theorem part47 (c : Int) (w : World) : Calls Tryz.prog 47 #[.int .u8 c] w (Same w (.bool (partI c))) := by
  cases hl : letterI c <;> cases hd : digitI c
  all_goals
    go_enter Tryz.func47, Tryz.ntmps47
    go_wp2_with (first | (go_at_call 45; refine (letter45 _ _).mono ?_; rintro e w' ⟨rfl, rfl⟩) | (go_at_call 81; refine (digit81 _ _).mono ?_; rintro e w' ⟨rfl, rfl⟩))
    go_ret
    refine ⟨ret_bool ?_, rfl⟩
    simp [partI, hl, hd]
end Go.Proofs.YthlnhinjcffllaaGreatDoor
