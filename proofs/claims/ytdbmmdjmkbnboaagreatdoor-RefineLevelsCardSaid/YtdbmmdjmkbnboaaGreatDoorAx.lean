/-
  The queries of the closed example, as the evaluator takes them.
-/
import Derived.Test.YtdbmmdjmkbnboaaGreatDoorAw
import Derived.Test.YtdbmmdjmkbnboaaGreatDoorChn10
import Derived.Test.YtdbmmdjmkbnboaaGreatDoorChn20
import Derived.Test.YtdbmmdjmkbnboaaGreatDoorChr0
import Derived.Test.YtdbmmdjmkbnboaaGreatDoorChr1
import Derived.Test.YtdbmmdjmkbnboaaGreatDoorChr2
import Derived.Test.YtdbmmdjmkbnboaaGreatDoorChp0
import Derived.Test.YtdbmmdjmkbnboaaGreatDoorChp1
namespace Go.Proofs.YtdbmmdjmkbnboaaGreatDoor
open Go Go.AM
noncomputable def env3 : AM.Env := ⟨fun f => cond (Nat.beq f 17) (some (orPrim cN10.primR cN20.primR)) (cond (Nat.beq f 18) (some (orPrim cR1.primR (orPrim cR0.primR cR2.primR))) (cond (Nat.beq f 19) (some (orPrim cP1.primR cP0.primR)) (env2.prim f))), env.noop⟩
end Go.Proofs.YtdbmmdjmkbnboaaGreatDoor
