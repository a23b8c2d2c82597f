/-
  The closed example awake() of dataflowlaw20 returns true, as the evaluator runs it.
-/
import Derived.Test.YtkbmnfijeknenaaGreatDoorL20a
import Derived.Test.YtkbmnfijeknenaaGreatDoorL20b
import Derived.Test.YtkbmnfijeknenaaGreatDoorAmD
namespace Go.Proofs.YtkbmnfijeknenaaGreatDoor
open Go Go.AM
set_option maxRecDepth 100000
noncomputable def env20 : AM.Env := ⟨fun f => cond (Nat.beq f 47) (some cA20.prim) (cond (Nat.beq f 48) (some cB20.prim) (env.prim f)), env.noop⟩
theorem aw20_run : allTrue ((recs Tryz.prog env20 100000).call 12 .nl (lowM.st lowN)) = true := by kernel_rfl
end Go.Proofs.YtkbmnfijeknenaaGreatDoor
