/-
  The closed example is parsed.
  The closed example is lowered.
  The closed example awake() of dataflowlaw20 returns true, as the evaluator runs it.
-/
import Derived.Test.YtkbmnfijeknenaaGreatDoorLive20
import Derived.KernelRfl
import Derived.Test.YtkbmnfijeknenaaGreatDoorAmD
namespace Go.Proofs.YtkbmnfijeknenaaGreatDoor
open Go Go.AM
set_option maxRecDepth 100000
noncomputable def cA20:Chunk:=Chunk.mk 47 (ofL [.s [99,108,97,115,115,32,65,32,123,32,100,101,102,32,109,40,41,58,32,65,32,123,32,114,101,116,117,114,110,32,116,104,105,115,59,32,125,32,125,32,99,108,97,115,115,32,66,32,101,120,116,101,110,100,115,32,65,32,123,32,100,101,102,32,109,40,41,58,32,65,32,123,32,114,101,116,117,114,110,32,116,104,105,115,59,32,125,32,125,32,99,108,97,115,115,32,77,97,105,110,32,123,32,115,116,97,116,105,99,32,100,101,102,32,109,97,105,110,40,41,32,123,32,118,97,114,32,97,58,32,65,32,61,32,110,101,119,32,65,40,41,59,32,97,32,61,32,97,46,109,40,41,59,32,125,32,125]]) (lowM ++ []) 9 (.t (ofL [.a (ofL [.l 613 0 3]),.i .i64 0,.i .i64 0])) (lowM ++ [(407,.v 303 5 1 [.a (ofL [.i .i64 4,.i .i64 0,.s [],.s [],.l0])]),
 (410,.v 294 6 1 [.a (ofL [.i .i64 8,.s [],.s [],.l 407 0 1,.l0,.l0])]),
 (413,.v 179 5 1 [.a (ofL [.s [109],.b false,.l0,.s [65],.l 410 0 1])]),
 (475,.v 303 5 1 [.a (ofL [.i .i64 4,.i .i64 0,.s [],.s [],.l0])]),
 (478,.v 294 6 1 [.a (ofL [.i .i64 8,.s [],.s [],.l 475 0 1,.l0,.l0])]),
 (481,.v 179 5 1 [.a (ofL [.s [109],.b false,.l0,.s [65],.l 478 0 1])]),
 (548,.v 303 5 1 [.a (ofL [.i .i64 7,.i .i64 0,.s [],.s [65],.l0])]),
 (592,.v 303 5 1 [.a (ofL [.i .i64 3,.i .i64 0,.s [],.s [97],.l0])]),
 (602,.v 303 5 1 [.a (ofL [.i .i64 9,.i .i64 0,.s [],.s [109],.l 592 0 1])]),
 (605,.v 294 6 2 [.a (ofL [.i .i64 1,.s [97],.s [65],.l 548 0 1,.l0,.l0]),.a (ofL [.i .i64 2,.s [97],.s [],.l 602 0 1,.l0,.l0])]),
 (608,.v 179 5 1 [.a (ofL [.s [109,97,105,110],.b true,.l0,.s [],.l 605 0 2])]),
 (613,.v 176 4 3 [.a (ofL [.s [65],.s [],.l0,.l 413 0 1]),.a (ofL [.s [66],.s [65],.l0,.l 481 0 1]),.a (ofL [.s [77,97,105,110],.s [],.l0,.l 608 0 1])])]) 651
theorem cA20_ok:cA20.ok=true:=by kernel_rfl
theorem cA20_run:chkOut ((recs Tryz.prog env 100000).call cA20.f cA20.xs (cA20.ins.st cA20.n)) cA20.v cA20.outs cA20.m=true:=by kernel_rfl
end Go.Proofs.YtkbmnfijeknenaaGreatDoor
namespace Go.Proofs.YtkbmnfijeknenaaGreatDoor
open Go Go.AM
set_option maxRecDepth 100000
noncomputable def cB20:Chunk:=Chunk.mk 48 (ofL [.a (ofL [.l 613 0 3])]) (lowM ++ [(407,.v 303 5 1 [.a (ofL [.i .i64 4,.i .i64 0,.s [],.s [],.l0])]),
 (410,.v 294 6 1 [.a (ofL [.i .i64 8,.s [],.s [],.l 407 0 1,.l0,.l0])]),
 (413,.v 179 5 1 [.a (ofL [.s [109],.b false,.l0,.s [65],.l 410 0 1])]),
 (475,.v 303 5 1 [.a (ofL [.i .i64 4,.i .i64 0,.s [],.s [],.l0])]),
 (478,.v 294 6 1 [.a (ofL [.i .i64 8,.s [],.s [],.l 475 0 1,.l0,.l0])]),
 (481,.v 179 5 1 [.a (ofL [.s [109],.b false,.l0,.s [65],.l 478 0 1])]),
 (548,.v 303 5 1 [.a (ofL [.i .i64 7,.i .i64 0,.s [],.s [65],.l0])]),
 (592,.v 303 5 1 [.a (ofL [.i .i64 3,.i .i64 0,.s [],.s [97],.l0])]),
 (602,.v 303 5 1 [.a (ofL [.i .i64 9,.i .i64 0,.s [],.s [109],.l 592 0 1])]),
 (605,.v 294 6 2 [.a (ofL [.i .i64 1,.s [97],.s [65],.l 548 0 1,.l0,.l0]),.a (ofL [.i .i64 2,.s [97],.s [],.l 602 0 1,.l0,.l0])]),
 (608,.v 179 5 1 [.a (ofL [.s [109,97,105,110],.b true,.l0,.s [],.l 605 0 2])]),
 (613,.v 176 4 3 [.a (ofL [.s [65],.s [],.l0,.l 413 0 1]),.a (ofL [.s [66],.s [65],.l0,.l 481 0 1]),.a (ofL [.s [77,97,105,110],.s [],.l0,.l 608 0 1])])]) 652 (.t (ofL [.a (ofL [.l 942 0 3,.l 1089 0 3,.i .i64 2]),.i .i64 0])) (lowM ++ [(924,.v 79 4 1 [.a (ofL [.s [109],.b false,.l0,.s [65]])]),
 (932,.v 79 4 1 [.a (ofL [.s [109],.b false,.l0,.s [65]])]),
 (940,.v 79 4 1 [.a (ofL [.s [109,97,105,110],.b true,.l0,.s []])]),
 (942,.v 134 4 3 [.a (ofL [.s [65],.s [],.l0,.l 924 0 1]),.a (ofL [.s [66],.s [65],.l0,.l 932 0 1]),.a (ofL [.s [77,97,105,110],.s [],.l0,.l 940 0 1])]),
 (964,.v 140 2 2 [.a (ofL [.s [116,104,105,115],.s [65]]),.a (ofL [.s [36,48],.s [110,117,108,108]])]),
 (970,.v 57 10 3 [.a (ofL [.i .i64 13,.i .i64 0,.i .i64 0,.i .i64 0,.i .i64 0,.s [],.s [],.l0,.i .i64 0,.i .i64 (-1)]),.a (ofL [.i .i64 2,.i .i64 1,.i .i64 0,.i .i64 0,.i .i64 0,.s [],.s [],.l0,.i .i64 0,.i .i64 (-1)]),.a (ofL [.i .i64 13,.i .i64 0,.i .i64 1,.i .i64 0,.i .i64 0,.s [],.s [],.l0,.i .i64 0,.i .i64 (-1)])]),
 (998,.v 140 2 2 [.a (ofL [.s [116,104,105,115],.s [66]]),.a (ofL [.s [36,48],.s [110,117,108,108]])]),
 (1004,.v 57 10 3 [.a (ofL [.i .i64 13,.i .i64 0,.i .i64 0,.i .i64 0,.i .i64 0,.s [],.s [],.l0,.i .i64 0,.i .i64 (-1)]),.a (ofL [.i .i64 2,.i .i64 1,.i .i64 0,.i .i64 0,.i .i64 0,.s [],.s [],.l0,.i .i64 0,.i .i64 (-1)]),.a (ofL [.i .i64 13,.i .i64 0,.i .i64 1,.i .i64 0,.i .i64 0,.s [],.s [],.l0,.i .i64 0,.i .i64 (-1)])]),
 (1071,.v 140 2 3 [.a (ofL [.s [97],.s [65]]),.a (ofL [.s [36,48],.s [65]]),.a (ofL [.s [36,49],.s [65]])]),
 (1080,.v 57 10 5 [.a (ofL [.i .i64 6,.i .i64 1,.i .i64 0,.i .i64 0,.i .i64 0,.s [65],.s [],.l0,.i .i64 0,.i .i64 (-1)]),.a (ofL [.i .i64 3,.i .i64 0,.i .i64 1,.i .i64 0,.i .i64 0,.s [],.s [],.l0,.i .i64 0,.i .i64 (-1)]),.a (ofL [.i .i64 9,.i .i64 2,.i .i64 0,.i .i64 0,.i .i64 0,.s [65],.s [109],.l0,.i .i64 0,.i .i64 (-1)]),.a (ofL [.i .i64 3,.i .i64 0,.i .i64 2,.i .i64 0,.i .i64 0,.s [],.s [],.l0,.i .i64 0,.i .i64 (-1)]),.a (ofL [.i .i64 13,.i .i64 0,.i .i64 (-1),.i .i64 0,.i .i64 0,.s [],.s [],.l0,.i .i64 0,.i .i64 (-1)])]),
 (1089,.v 55 7 3 [.a (ofL [.s [65],.s [109],.b false,.i .i64 1,.l 964 0 2,.s [65],.l 970 0 3]),.a (ofL [.s [66],.s [109],.b false,.i .i64 1,.l 998 0 2,.s [65],.l 1004 0 3]),.a (ofL [.s [77,97,105,110],.s [109,97,105,110],.b true,.i .i64 0,.l 1071 0 3,.s [],.l 1080 0 5])])]) 1090
theorem cB20_ok:cB20.ok=true:=by kernel_rfl
theorem cB20_run:chkOut ((recs Tryz.prog env 100000).call cB20.f cB20.xs (cB20.ins.st cB20.n)) cB20.v cB20.outs cB20.m=true:=by kernel_rfl
end Go.Proofs.YtkbmnfijeknenaaGreatDoor
namespace Go.Proofs.YtkbmnfijeknenaaGreatDoor
open Go Go.AM
set_option maxRecDepth 100000
noncomputable def env20:AM.Env:=⟨fun f=>cond (Nat.beq f 47) (some cA20.prim) (cond (Nat.beq f 48) (some cB20.prim) (env.prim f)),env.noop⟩
theorem aw20_run:allTrue ((recs Tryz.prog env20 100000).call 12 .nl (lowM.st lowN))=true:=by kernel_rfl
end Go.Proofs.YtkbmnfijeknenaaGreatDoor
