/-
  The law RefineLevels, run by the evaluator.
-/
import Derived.Test.YtdbmmdjmkbnboaaGreatDoorChaw
namespace Go.Proofs.YtdbmmdjmkbnboaaGreatDoor
open Go Go.AM
set_option maxRecDepth 100000
noncomputable def env4 : AM.Env := ⟨fun f => cond (Nat.beq f 7) (some cAw.primR) (env3.prim f), env.noop⟩
theorem law_run : allTrue ((recs Tryz.prog env4 100000).call 3 .nl (lowL.st lowN)) = true := by kernel_rfl
end Go.Proofs.YtdbmmdjmkbnboaaGreatDoor
