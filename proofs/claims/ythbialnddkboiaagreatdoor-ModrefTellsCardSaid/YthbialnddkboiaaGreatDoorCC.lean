/-
  The evaluator's helpers for the analysis of the closed example: the check, the growing call graph's lists, the constraints and their solutions are recorded.
  The closed example is analysed.
-/
import Derived.Test.YthbialnddkboiaaGreatDoorOR
import Derived.Test.YthbialnddkboiaaGreatDoorCL
import Derived.Test.YthbialnddkboiaaGreatDoorChk1
import Derived.Test.YthbialnddkboiaaGreatDoorChk2
import Derived.Test.YthbialnddkboiaaGreatDoorCS
import Derived.KernelRfl
namespace Go.Proofs.YthbialnddkboiaaGreatDoor
open Go Go.AM
noncomputable def envL:AM.Env:=⟨fun f=>cond (Nat.beq f 41) (some cK26.primR) (cond (Nat.beq f 44) (some (orP cL1.primR cL2.primR)) (cond (Nat.beq f 45) (some (orP cK1.primR cK2.primR)) (cond (Nat.beq f 46) (some (orP cS1.primR cS2.primR)) (env.prim f)))),env.noop⟩
end Go.Proofs.YthbialnddkboiaaGreatDoor
namespace Go.Proofs.YthbialnddkboiaaGreatDoor
open Go Go.AM
set_option maxRecDepth 100000
noncomputable def cC26:Chunk:=Chunk.mk 18 (ofL [.a (ofL [.l 1318 0 2,.l 1552 0 3,.i .i64 2])]) (lowL ++ [(1296,.v 149 2 1 [.a (ofL [.s [102],.s [65]])]),
 (1302,.v 9 1 1 [.s [65]]),
 (1308,.v 91 4 2 [.a (ofL [.s [112,117,116],.b false,.l 1302 0 1,.s []]),.a (ofL [.s [103,101,116],.b false,.l0,.s [65]])]),
 (1316,.v 91 4 1 [.a (ofL [.s [109,97,105,110],.b true,.l0,.s []])]),
 (1318,.v 88 4 2 [.a (ofL [.s [65],.s [],.l 1296 0 1,.l 1308 0 2]),.a (ofL [.s [77,97,105,110],.s [],.l0,.l 1316 0 1])]),
 (1328,.v 149 2 2 [.a (ofL [.s [116,104,105,115],.s [65]]),.a (ofL [.s [112],.s [65]])]),
 (1345,.v 74 10 2 [.a (ofL [.i .i64 8,.i .i64 0,.i .i64 0,.i .i64 1,.i .i64 0,.s [],.s [102],.l0,.i .i64 0,.i .i64 (-1)]),.a (ofL [.i .i64 13,.i .i64 0,.i .i64 (-1),.i .i64 0,.i .i64 0,.s [],.s [],.l0,.i .i64 0,.i .i64 (-1)])]),
 (1399,.v 149 2 3 [.a (ofL [.s [116,104,105,115],.s [65]]),.a (ofL [.s [36,48],.s [65]]),.a (ofL [.s [36,49],.s [110,117,108,108]])]),
 (1405,.v 74 10 4 [.a (ofL [.i .i64 7,.i .i64 1,.i .i64 0,.i .i64 0,.i .i64 0,.s [],.s [102],.l0,.i .i64 0,.i .i64 (-1)]),.a (ofL [.i .i64 13,.i .i64 0,.i .i64 1,.i .i64 0,.i .i64 0,.s [],.s [],.l0,.i .i64 0,.i .i64 (-1)]),.a (ofL [.i .i64 2,.i .i64 2,.i .i64 0,.i .i64 0,.i .i64 0,.s [],.s [],.l0,.i .i64 0,.i .i64 (-1)]),.a (ofL [.i .i64 13,.i .i64 0,.i .i64 2,.i .i64 0,.i .i64 0,.s [],.s [],.l0,.i .i64 0,.i .i64 (-1)])]),
 (1495,.v 3 1 1 [.i .i64 1]),
 (1531,.v 149 2 5 [.a (ofL [.s [97],.s [65]]),.a (ofL [.s [98],.s [65]]),.a (ofL [.s [36,48],.s [65]]),.a (ofL [.s [36,49],.s [65]]),.a (ofL [.s [36,50],.s [65]])]),
 (1540,.v 74 10 8 [.a (ofL [.i .i64 6,.i .i64 2,.i .i64 0,.i .i64 0,.i .i64 0,.s [65],.s [],.l0,.i .i64 0,.i .i64 (-1)]),.a (ofL [.i .i64 3,.i .i64 0,.i .i64 2,.i .i64 0,.i .i64 0,.s [],.s [],.l0,.i .i64 0,.i .i64 (-1)]),.a (ofL [.i .i64 6,.i .i64 3,.i .i64 0,.i .i64 0,.i .i64 0,.s [65],.s [],.l0,.i .i64 0,.i .i64 (-1)]),.a (ofL [.i .i64 3,.i .i64 1,.i .i64 3,.i .i64 0,.i .i64 0,.s [],.s [],.l0,.i .i64 0,.i .i64 (-1)]),.a (ofL [.i .i64 9,.i .i64 (-1),.i .i64 0,.i .i64 0,.i .i64 0,.s [65],.s [112,117,116],.l 1495 0 1,.i .i64 0,.i .i64 (-1)]),.a (ofL [.i .i64 9,.i .i64 4,.i .i64 0,.i .i64 0,.i .i64 0,.s [65],.s [103,101,116],.l0,.i .i64 0,.i .i64 (-1)]),.a (ofL [.i .i64 3,.i .i64 1,.i .i64 4,.i .i64 0,.i .i64 0,.s [],.s [],.l0,.i .i64 0,.i .i64 (-1)]),.a (ofL [.i .i64 13,.i .i64 0,.i .i64 (-1),.i .i64 0,.i .i64 0,.s [],.s [],.l0,.i .i64 0,.i .i64 (-1)])]),
 (1552,.v 72 7 3 [.a (ofL [.s [65],.s [112,117,116],.b false,.i .i64 2,.l 1328 0 2,.s [],.l 1345 0 2]),.a (ofL [.s [65],.s [103,101,116],.b false,.i .i64 1,.l 1399 0 3,.s [65],.l 1405 0 4]),.a (ofL [.s [77,97,105,110],.s [109,97,105,110],.b true,.i .i64 0,.l 1531 0 5,.s [],.l 1540 0 8])])]) 1554 (.t (ofL [.a (ofL [.l 2814 0 3,.l 2821 0 2,.l 4065 0 16,.l 4064 0 2]),.i .i64 0])) (lowL ++ [(1296,.v 149 2 1 [.a (ofL [.s [102],.s [65]])]),
 (1302,.v 9 1 1 [.s [65]]),
 (1308,.v 91 4 2 [.a (ofL [.s [112,117,116],.b false,.l 1302 0 1,.s []]),.a (ofL [.s [103,101,116],.b false,.l0,.s [65]])]),
 (1316,.v 91 4 1 [.a (ofL [.s [109,97,105,110],.b true,.l0,.s []])]),
 (1318,.v 88 4 2 [.a (ofL [.s [65],.s [],.l 1296 0 1,.l 1308 0 2]),.a (ofL [.s [77,97,105,110],.s [],.l0,.l 1316 0 1])]),
 (1328,.v 149 2 2 [.a (ofL [.s [116,104,105,115],.s [65]]),.a (ofL [.s [112],.s [65]])]),
 (1345,.v 74 10 2 [.a (ofL [.i .i64 8,.i .i64 0,.i .i64 0,.i .i64 1,.i .i64 0,.s [],.s [102],.l0,.i .i64 0,.i .i64 (-1)]),.a (ofL [.i .i64 13,.i .i64 0,.i .i64 (-1),.i .i64 0,.i .i64 0,.s [],.s [],.l0,.i .i64 0,.i .i64 (-1)])]),
 (1399,.v 149 2 3 [.a (ofL [.s [116,104,105,115],.s [65]]),.a (ofL [.s [36,48],.s [65]]),.a (ofL [.s [36,49],.s [110,117,108,108]])]),
 (1405,.v 74 10 4 [.a (ofL [.i .i64 7,.i .i64 1,.i .i64 0,.i .i64 0,.i .i64 0,.s [],.s [102],.l0,.i .i64 0,.i .i64 (-1)]),.a (ofL [.i .i64 13,.i .i64 0,.i .i64 1,.i .i64 0,.i .i64 0,.s [],.s [],.l0,.i .i64 0,.i .i64 (-1)]),.a (ofL [.i .i64 2,.i .i64 2,.i .i64 0,.i .i64 0,.i .i64 0,.s [],.s [],.l0,.i .i64 0,.i .i64 (-1)]),.a (ofL [.i .i64 13,.i .i64 0,.i .i64 2,.i .i64 0,.i .i64 0,.s [],.s [],.l0,.i .i64 0,.i .i64 (-1)])]),
 (1495,.v 3 1 1 [.i .i64 1]),
 (1531,.v 149 2 5 [.a (ofL [.s [97],.s [65]]),.a (ofL [.s [98],.s [65]]),.a (ofL [.s [36,48],.s [65]]),.a (ofL [.s [36,49],.s [65]]),.a (ofL [.s [36,50],.s [65]])]),
 (1540,.v 74 10 8 [.a (ofL [.i .i64 6,.i .i64 2,.i .i64 0,.i .i64 0,.i .i64 0,.s [65],.s [],.l0,.i .i64 0,.i .i64 (-1)]),.a (ofL [.i .i64 3,.i .i64 0,.i .i64 2,.i .i64 0,.i .i64 0,.s [],.s [],.l0,.i .i64 0,.i .i64 (-1)]),.a (ofL [.i .i64 6,.i .i64 3,.i .i64 0,.i .i64 0,.i .i64 0,.s [65],.s [],.l0,.i .i64 0,.i .i64 (-1)]),.a (ofL [.i .i64 3,.i .i64 1,.i .i64 3,.i .i64 0,.i .i64 0,.s [],.s [],.l0,.i .i64 0,.i .i64 (-1)]),.a (ofL [.i .i64 9,.i .i64 (-1),.i .i64 0,.i .i64 0,.i .i64 0,.s [65],.s [112,117,116],.l 1495 0 1,.i .i64 0,.i .i64 (-1)]),.a (ofL [.i .i64 9,.i .i64 4,.i .i64 0,.i .i64 0,.i .i64 0,.s [65],.s [103,101,116],.l0,.i .i64 0,.i .i64 (-1)]),.a (ofL [.i .i64 3,.i .i64 1,.i .i64 4,.i .i64 0,.i .i64 0,.s [],.s [],.l0,.i .i64 0,.i .i64 (-1)]),.a (ofL [.i .i64 13,.i .i64 0,.i .i64 (-1),.i .i64 0,.i .i64 0,.s [],.s [],.l0,.i .i64 0,.i .i64 (-1)])]),
 (1552,.v 72 7 3 [.a (ofL [.s [65],.s [112,117,116],.b false,.i .i64 2,.l 1328 0 2,.s [],.l 1345 0 2]),.a (ofL [.s [65],.s [103,101,116],.b false,.i .i64 1,.l 1399 0 3,.s [65],.l 1405 0 4]),.a (ofL [.s [77,97,105,110],.s [109,97,105,110],.b true,.i .i64 0,.l 1531 0 5,.s [],.l 1540 0 8])]),
 (2814,.v 3 1 3 [.i .i64 0,.i .i64 1,.i .i64 2]),
 (2821,.v 194 3 2 [.a (ofL [.i .i64 2,.i .i64 4,.i .i64 0]),.a (ofL [.i .i64 2,.i .i64 5,.i .i64 1])]),
 (4040,.v 28 1 18 [.l 4042 0 1,.l 4044 0 1,.l0,.l0,.l 4046 0 1,.l 4048 0 1,.l0,.l 4050 0 1,.l0,.l 4052 0 1,.l 4054 0 1,.l 4056 0 1,.l 4058 0 1,.l 4060 0 1,.l0,.l0,.l 4062 0 1,.l0]),
 (4042,.v 3 1 1 [.i .i64 0]),
 (4044,.v 3 1 1 [.i .i64 1]),
 (4046,.v 3 1 1 [.i .i64 0]),
 (4048,.v 3 1 1 [.i .i64 1]),
 (4050,.v 3 1 1 [.i .i64 1]),
 (4052,.v 3 1 1 [.i .i64 0]),
 (4054,.v 3 1 1 [.i .i64 1]),
 (4056,.v 3 1 1 [.i .i64 0]),
 (4058,.v 3 1 1 [.i .i64 1]),
 (4060,.v 3 1 1 [.i .i64 1]),
 (4062,.v 3 1 1 [.i .i64 1]),
 (4064,.v 28 1 2 [.l 4062 0 1,.l0]),
 (4065,.al 4040 0)]) 4069
theorem cC26_ok:cC26.okR=true:=by kernel_rfl
theorem cC26_run:chkOut ((recs Tryz.prog envL 100000).call cC26.f cC26.xs (cC26.ins.st cC26.n)) cC26.v cC26.outs cC26.m=true:=by kernel_rfl
end Go.Proofs.YthbialnddkboiaaGreatDoor
