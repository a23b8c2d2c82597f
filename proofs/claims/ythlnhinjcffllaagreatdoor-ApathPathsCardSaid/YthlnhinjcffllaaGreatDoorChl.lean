/-
  The closed example live() returns true, as the evaluator runs it.
-/
import Derived.Test.YthlnhinjcffllaaGreatDoorCha
import Derived.Test.YthlnhinjcffllaaGreatDoorChb
import Derived.Test.YthlnhinjcffllaaGreatDoorChc
namespace Go.Proofs.YthlnhinjcffllaaGreatDoor
open Go Go.AM
set_option maxRecDepth 100000
noncomputable def env2 : AM.Env := ⟨fun f => cond (Nat.beq f 37) (some cA.prim) (cond (Nat.beq f 38) (some cB.prim) (cond (Nat.beq f 39) (some cC.prim) (env.prim f))), env.noop⟩
noncomputable def cL : Chunk := Chunk.mk 23 .nl lowL 11 (.b true) lowL 1686
theorem cL_ok : cL.okR = true := by kernel_rfl
theorem cL_run : chkOut ((recs Tryz.prog env2 100000).call cL.f cL.xs (cL.ins.st cL.n)) cL.v cL.outs cL.m = true := by kernel_rfl
end Go.Proofs.YthlnhinjcffllaaGreatDoor
