/-
  The closed example awake() of dataflowlaw23, run by the evaluator.
-/
import Derived.Test.YtdbmmdjmkbnboaaGreatDoorCha
import Derived.Test.YtdbmmdjmkbnboaaGreatDoorChb
import Derived.Test.YtdbmmdjmkbnboaaGreatDoorChk
import Derived.Test.YtdbmmdjmkbnboaaGreatDoorChd00
import Derived.Test.YtdbmmdjmkbnboaaGreatDoorChd11
namespace Go.Proofs.YtdbmmdjmkbnboaaGreatDoor
open Go Go.AM
set_option maxRecDepth 100000
/-- one prim or the other -/
noncomputable def orPrim (g1 g2 : CallF1) (xs : AV) (st : St) : Out := match g1 xs st with | some r => some r | none => g2 xs st
/-- the evaluator itself -/
noncomputable def selfP (f : Nat) : CallF1 := fun xs st => (recs Tryz.prog env 100000).call f xs st
noncomputable def solve23 : CallF1 := orPrim cD00.primR (orPrim cD11.primR (selfP 20))
noncomputable def env23 : AM.Env := ⟨fun f => cond (Nat.beq f 15) (some cA.prim) (cond (Nat.beq f 16) (some cB.prim) (cond (Nat.beq f 20) (some solve23) (cond (Nat.beq f 48) (some cK.primR) (env.prim f)))), env.noop⟩
theorem aw23_run : allTrue ((recs Tryz.prog env23 100000).call 9 .nl (lowL.st lowN)) = true := by kernel_rfl
end Go.Proofs.YtdbmmdjmkbnboaaGreatDoor
