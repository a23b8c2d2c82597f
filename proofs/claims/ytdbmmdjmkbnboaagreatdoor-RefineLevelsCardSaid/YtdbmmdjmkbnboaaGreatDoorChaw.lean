/-
  The closed example awake() returns true, as the evaluator runs it.
-/
import Derived.Test.YtdbmmdjmkbnboaaGreatDoorAx
import Derived.KernelRfl
namespace Go.Proofs.YtdbmmdjmkbnboaaGreatDoor
open Go Go.AM
set_option maxRecDepth 100000
noncomputable def cAw : Chunk := Chunk.mk 7 .nl lowL 9 (.b true) lowL 19383
theorem cAw_ok : cAw.okR = true := by kernel_rfl
theorem cAw_run : chkOut ((recs Tryz.prog env3 100000).call cAw.f cAw.xs (cAw.ins.st cAw.n)) cAw.v cAw.outs cAw.m = true := by kernel_rfl
end Go.Proofs.YtdbmmdjmkbnboaaGreatDoor
