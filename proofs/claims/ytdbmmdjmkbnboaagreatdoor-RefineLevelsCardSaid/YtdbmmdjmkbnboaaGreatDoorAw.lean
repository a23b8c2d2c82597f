/-
  The law RefineLevels, run by the evaluator.
-/
import Derived.Test.YtdbmmdjmkbnboaaGreatDoorCha
import Derived.Test.YtdbmmdjmkbnboaaGreatDoorChb
import Derived.Test.YtdbmmdjmkbnboaaGreatDoorChk
import Derived.Test.YtdbmmdjmkbnboaaGreatDoorChd00
import Derived.Test.YtdbmmdjmkbnboaaGreatDoorChd31
import Derived.Test.YtdbmmdjmkbnboaaGreatDoorChd21
import Derived.Test.YtdbmmdjmkbnboaaGreatDoorChd11
import Derived.Test.YtdbmmdjmkbnboaaGreatDoorChd22
import Derived.Test.YtdbmmdjmkbnboaaGreatDoorChd12
namespace Go.Proofs.YtdbmmdjmkbnboaaGreatDoor
open Go Go.AM
set_option maxRecDepth 100000
/-- one prim or the other -/
noncomputable def orPrim (g1 g2 : CallF1) (xs : AV) (st : St) : Out := match g1 xs st with | some r => some r | none => g2 xs st
noncomputable def solveP : CallF1 := orPrim cD00.primR (orPrim cD31.primR (orPrim cD21.primR (orPrim cD11.primR (orPrim cD22.primR cD12.primR))))
noncomputable def env2 : AM.Env := ⟨fun f => cond (Nat.beq f 15) (some cA.prim) (cond (Nat.beq f 16) (some cB.prim) (cond (Nat.beq f 20) (some solveP) (cond (Nat.beq f 48) (some cK.primR) (env.prim f)))), env.noop⟩

end Go.Proofs.YtdbmmdjmkbnboaaGreatDoor
