/-
  The closed example is parsed.
  The closed example is lowered.
  The closed example is analysed.
  The closed example live() returns true, as the evaluator runs it.
-/
import Derived.Test.YtffcklfigpmlgaaGreatDoorLV
import Derived.KernelRfl
namespace Go.Proofs.YtffcklfigpmlgaaGreatDoor
open Go Go.AM
set_option maxRecDepth 100000
noncomputable def cA41:Chunk:=Chunk.mk 48 (ofL [.s [99,108,97,115,115,32,65,32,123,32,118,97,114,32,102,58,32,65,59,32,118,97,114,32,110,58,32,105,110,116,59,32,125,32,99,108,97,115,115,32,77,97,105,110,32,123,32,115,116,97,116,105,99,32,100,101,102,32,109,97,105,110,40,41,32,123,32,118,97,114,32,97,58,32,65,32,61,32,110,101,119,32,65,40,41,59,32,97,46,102,32,61,32,110,101,119,32,65,40,41,59,32,125,32,125]]) (lowL ++ []) 11 (.t (ofL [.a (ofL [.l 435 0 2]),.i .i64 0,.i .i64 0])) (lowL ++ [(298,.v 126 2 2 [.a (ofL [.s [102],.s [65]]),.a (ofL [.s [110],.s [105,110,116]])]),
 (366,.v 325 5 1 [.a (ofL [.i .i64 7,.i .i64 0,.s [],.s [65],.l0])]),
 (424,.v 325 5 2 [.a (ofL [.i .i64 3,.i .i64 0,.s [],.s [97],.l0]),.a (ofL [.i .i64 7,.i .i64 0,.s [],.s [65],.l0])]),
 (427,.v 316 6 2 [.a (ofL [.i .i64 1,.s [97],.s [65],.l 366 0 1,.l0,.l0]),.a (ofL [.i .i64 3,.s [102],.s [],.l 424 0 2,.l0,.l0])]),
 (430,.v 154 5 1 [.a (ofL [.s [109,97,105,110],.b true,.l0,.s [],.l 427 0 2])]),
 (435,.v 151 4 2 [.a (ofL [.s [65],.s [],.l 298 0 2,.l0]),.a (ofL [.s [77,97,105,110],.s [],.l0,.l 430 0 1])])]) 457
theorem cA41_ok:cA41.ok=true:=by kernel_rfl
theorem cA41_run:chkOut ((recs Tryz.prog env 100000).call cA41.f cA41.xs (cA41.ins.st cA41.n)) cA41.v cA41.outs cA41.m=true:=by kernel_rfl
end Go.Proofs.YtffcklfigpmlgaaGreatDoor
namespace Go.Proofs.YtffcklfigpmlgaaGreatDoor
open Go Go.AM
set_option maxRecDepth 100000
noncomputable def cB41:Chunk:=Chunk.mk 49 (ofL [.a (ofL [.l 435 0 2])]) (lowL ++ [(298,.v 126 2 2 [.a (ofL [.s [102],.s [65]]),.a (ofL [.s [110],.s [105,110,116]])]),
 (366,.v 325 5 1 [.a (ofL [.i .i64 7,.i .i64 0,.s [],.s [65],.l0])]),
 (424,.v 325 5 2 [.a (ofL [.i .i64 3,.i .i64 0,.s [],.s [97],.l0]),.a (ofL [.i .i64 7,.i .i64 0,.s [],.s [65],.l0])]),
 (427,.v 316 6 2 [.a (ofL [.i .i64 1,.s [97],.s [65],.l 366 0 1,.l0,.l0]),.a (ofL [.i .i64 3,.s [102],.s [],.l 424 0 2,.l0,.l0])]),
 (430,.v 154 5 1 [.a (ofL [.s [109,97,105,110],.b true,.l0,.s [],.l 427 0 2])]),
 (435,.v 151 4 2 [.a (ofL [.s [65],.s [],.l 298 0 2,.l0]),.a (ofL [.s [77,97,105,110],.s [],.l0,.l 430 0 1])])]) 458 (.t (ofL [.a (ofL [.l 634 0 2,.l 692 0 1,.i .i64 0]),.i .i64 0])) (lowL ++ [(623,.v 126 2 2 [.a (ofL [.s [102],.s [65]]),.a (ofL [.s [110],.s [105,110,116]])]),
 (632,.v 87 4 1 [.a (ofL [.s [109,97,105,110],.b true,.l0,.s []])]),
 (634,.v 85 4 2 [.a (ofL [.s [65],.s [],.l 623 0 2,.l0]),.a (ofL [.s [77,97,105,110],.s [],.l0,.l 632 0 1])]),
 (674,.v 126 2 3 [.a (ofL [.s [97],.s [65]]),.a (ofL [.s [36,48],.s [65]]),.a (ofL [.s [36,49],.s [65]])]),
 (683,.v 92 10 5 [.a (ofL [.i .i64 6,.i .i64 1,.i .i64 0,.i .i64 0,.i .i64 0,.s [65],.s [],.l0,.i .i64 0,.i .i64 (-1)]),.a (ofL [.i .i64 3,.i .i64 0,.i .i64 1,.i .i64 0,.i .i64 0,.s [],.s [],.l0,.i .i64 0,.i .i64 (-1)]),.a (ofL [.i .i64 6,.i .i64 2,.i .i64 0,.i .i64 0,.i .i64 0,.s [65],.s [],.l0,.i .i64 0,.i .i64 (-1)]),.a (ofL [.i .i64 8,.i .i64 0,.i .i64 0,.i .i64 2,.i .i64 0,.s [],.s [102],.l0,.i .i64 0,.i .i64 (-1)]),.a (ofL [.i .i64 13,.i .i64 0,.i .i64 (-1),.i .i64 0,.i .i64 0,.s [],.s [],.l0,.i .i64 0,.i .i64 (-1)])]),
 (692,.v 90 7 1 [.a (ofL [.s [77,97,105,110],.s [109,97,105,110],.b true,.i .i64 0,.l 674 0 3,.s [],.l 683 0 5])])]) 693
theorem cB41_ok:cB41.ok=true:=by kernel_rfl
theorem cB41_run:chkOut ((recs Tryz.prog env 100000).call cB41.f cB41.xs (cB41.ins.st cB41.n)) cB41.v cB41.outs cB41.m=true:=by kernel_rfl
end Go.Proofs.YtffcklfigpmlgaaGreatDoor
namespace Go.Proofs.YtffcklfigpmlgaaGreatDoor
open Go Go.AM
set_option maxRecDepth 100000
noncomputable def cC41:Chunk:=Chunk.mk 50 (ofL [.a (ofL [.l 634 0 2,.l 692 0 1,.i .i64 0])]) (lowL ++ [(623,.v 126 2 2 [.a (ofL [.s [102],.s [65]]),.a (ofL [.s [110],.s [105,110,116]])]),
 (632,.v 87 4 1 [.a (ofL [.s [109,97,105,110],.b true,.l0,.s []])]),
 (634,.v 85 4 2 [.a (ofL [.s [65],.s [],.l 623 0 2,.l0]),.a (ofL [.s [77,97,105,110],.s [],.l0,.l 632 0 1])]),
 (674,.v 126 2 3 [.a (ofL [.s [97],.s [65]]),.a (ofL [.s [36,48],.s [65]]),.a (ofL [.s [36,49],.s [65]])]),
 (683,.v 92 10 5 [.a (ofL [.i .i64 6,.i .i64 1,.i .i64 0,.i .i64 0,.i .i64 0,.s [65],.s [],.l0,.i .i64 0,.i .i64 (-1)]),.a (ofL [.i .i64 3,.i .i64 0,.i .i64 1,.i .i64 0,.i .i64 0,.s [],.s [],.l0,.i .i64 0,.i .i64 (-1)]),.a (ofL [.i .i64 6,.i .i64 2,.i .i64 0,.i .i64 0,.i .i64 0,.s [65],.s [],.l0,.i .i64 0,.i .i64 (-1)]),.a (ofL [.i .i64 8,.i .i64 0,.i .i64 0,.i .i64 2,.i .i64 0,.s [],.s [102],.l0,.i .i64 0,.i .i64 (-1)]),.a (ofL [.i .i64 13,.i .i64 0,.i .i64 (-1),.i .i64 0,.i .i64 0,.s [],.s [],.l0,.i .i64 0,.i .i64 (-1)])]),
 (692,.v 90 7 1 [.a (ofL [.s [77,97,105,110],.s [109,97,105,110],.b true,.i .i64 0,.l 674 0 3,.s [],.l 683 0 5])])]) 694 (.t (ofL [.a (ofL [.l 896 0 1,.l0,.l 1245 0 5,.l 1244 0 4]),.i .i64 0])) (lowL ++ [(623,.v 126 2 2 [.a (ofL [.s [102],.s [65]]),.a (ofL [.s [110],.s [105,110,116]])]),
 (632,.v 87 4 1 [.a (ofL [.s [109,97,105,110],.b true,.l0,.s []])]),
 (634,.v 85 4 2 [.a (ofL [.s [65],.s [],.l 623 0 2,.l0]),.a (ofL [.s [77,97,105,110],.s [],.l0,.l 632 0 1])]),
 (674,.v 126 2 3 [.a (ofL [.s [97],.s [65]]),.a (ofL [.s [36,48],.s [65]]),.a (ofL [.s [36,49],.s [65]])]),
 (683,.v 92 10 5 [.a (ofL [.i .i64 6,.i .i64 1,.i .i64 0,.i .i64 0,.i .i64 0,.s [65],.s [],.l0,.i .i64 0,.i .i64 (-1)]),.a (ofL [.i .i64 3,.i .i64 0,.i .i64 1,.i .i64 0,.i .i64 0,.s [],.s [],.l0,.i .i64 0,.i .i64 (-1)]),.a (ofL [.i .i64 6,.i .i64 2,.i .i64 0,.i .i64 0,.i .i64 0,.s [65],.s [],.l0,.i .i64 0,.i .i64 (-1)]),.a (ofL [.i .i64 8,.i .i64 0,.i .i64 0,.i .i64 2,.i .i64 0,.s [],.s [102],.l0,.i .i64 0,.i .i64 (-1)]),.a (ofL [.i .i64 13,.i .i64 0,.i .i64 (-1),.i .i64 0,.i .i64 0,.s [],.s [],.l0,.i .i64 0,.i .i64 (-1)])]),
 (692,.v 90 7 1 [.a (ofL [.s [77,97,105,110],.s [109,97,105,110],.b true,.i .i64 0,.l 674 0 3,.s [],.l 683 0 5])]),
 (896,.v 3 1 1 [.i .i64 0]),
 (1234,.v 28 1 9 [.l 1236 0 1,.l 1238 0 1,.l 1240 0 1,.l0,.l0,.l 1242 0 1,.l0,.l0,.l0]),
 (1236,.v 3 1 1 [.i .i64 0]),
 (1238,.v 3 1 1 [.i .i64 0]),
 (1240,.v 3 1 1 [.i .i64 1]),
 (1242,.v 3 1 1 [.i .i64 1]),
 (1244,.v 28 1 4 [.l 1242 0 1,.l0,.l0,.l0]),
 (1245,.al 1234 0)]) 1249
theorem cC41_ok:cC41.ok=true:=by kernel_rfl
theorem cC41_run:chkOut ((recs Tryz.prog env 100000).call cC41.f cC41.xs (cC41.ins.st cC41.n)) cC41.v cC41.outs cC41.m=true:=by kernel_rfl
end Go.Proofs.YtffcklfigpmlgaaGreatDoor
namespace Go.Proofs.YtffcklfigpmlgaaGreatDoor
open Go Go.AM
set_option maxRecDepth 100000
noncomputable def env2:AM.Env:=⟨fun f=>cond (Nat.beq f 48) (some cA41.prim) (cond (Nat.beq f 49) (some cB41.prim) (cond (Nat.beq f 50) (some cC41.prim) (env.prim f))),env.noop⟩
noncomputable def cL41:Chunk:=Chunk.mk 19 .nl lowL 11 (.b true) lowL 1686
theorem cL41_ok:cL41.okR=true:=by kernel_rfl
theorem cL41_run:chkOut ((recs Tryz.prog env2 100000).call cL41.f cL41.xs (cL41.ins.st cL41.n)) cL41.v cL41.outs cL41.m=true:=by kernel_rfl
end Go.Proofs.YtffcklfigpmlgaaGreatDoor
