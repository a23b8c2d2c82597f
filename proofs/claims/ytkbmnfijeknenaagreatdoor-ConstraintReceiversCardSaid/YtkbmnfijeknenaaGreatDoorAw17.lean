/-
  The closed example awake() of dataflowlaw17 returns true, as the evaluator runs it.
-/
import Derived.Test.YtkbmnfijeknenaaGreatDoorCha17
import Derived.Test.YtkbmnfijeknenaaGreatDoorChb17
import Derived.Test.YtkbmnfijeknenaaGreatDoorChk17
import Derived.Test.YtkbmnfijeknenaaGreatDoorAmD
namespace Go.Proofs.YtkbmnfijeknenaaGreatDoor
open Go Go.AM
set_option maxRecDepth 100000
noncomputable def env17 : AM.Env := ⟨fun f => cond (Nat.beq f 47) (some cA17.primR) (cond (Nat.beq f 48) (some cB17.primR) (cond (Nat.beq f 74) (some cK17.primR) (env.prim f))), env.noop⟩
theorem aw17_run : allTrue ((recs Tryz.prog env17 100000).call 29 .nl (lowL.st lowN)) = true := by kernel_rfl
end Go.Proofs.YtkbmnfijeknenaaGreatDoor
