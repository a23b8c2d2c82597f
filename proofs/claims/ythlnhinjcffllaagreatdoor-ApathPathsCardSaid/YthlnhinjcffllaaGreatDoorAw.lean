/-
  The closed example awake() returns true, as the evaluator runs it.
-/
import Derived.Test.YthlnhinjcffllaaGreatDoorChl
import Derived.Test.YthlnhinjcffllaaGreatDoorDup
namespace Go.Proofs.YthlnhinjcffllaaGreatDoor
open Go Go.AM
set_option maxRecDepth 100000
/-- parseRoot at the words of the example -/
def tab33 : List (List Nat × AV) := [([114, 101, 115, 117, 108, 116], .t (.cn (.i .i64 2) (.cn (.i .i64 0) (.cn (.b true) .nl)))), ([97, 114, 103, 57], .t (.cn (.i .i64 1) (.cn (.i .i64 9) (.cn (.b true) .nl)))), ([97, 114, 103, 48, 49], .t (.cn (.i .i64 0) (.cn (.i .i64 0) (.cn (.b false) .nl))))]
noncomputable def env3 : AM.Env := ⟨fun f => cond (Nat.beq f 25) (some dupPrim) (cond (Nat.beq f 23) (some cL.primR) (cond (Nat.beq f 33) (some (tabPrim tab33)) (cond (Nat.beq f 332) (some idxPrim) (cond (Nat.beq f 53) (some ixPrim) (cond (Nat.beq f 85) (some cntPrim) none))))), env.noop⟩
theorem awake_run : allTrue ((recs Tryz.prog env3 100000).call 9 .nl (lowL.st lowN)) = true := by kernel_rfl
end Go.Proofs.YthlnhinjcffllaaGreatDoor
