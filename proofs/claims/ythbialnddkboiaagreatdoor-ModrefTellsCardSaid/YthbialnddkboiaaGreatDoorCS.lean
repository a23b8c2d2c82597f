/-
  The constraints solved, the first time.
  The constraints solved, the second time.
-/
import Derived.Test.YthbialnddkboiaaGreatDoorLive0
import Derived.KernelRfl
namespace Go.Proofs.YthbialnddkboiaaGreatDoor
open Go Go.AM
set_option maxRecDepth 100000
noncomputable def cS1:Chunk:=Chunk.mk 46 (ofL [.a (ofL [.i .i64 16,.i .i64 2,.i .i64 1,.l 2645 0 5])]) (lowL ++ [(2645,.v 213 5 5 [.a (ofL [.i .i64 1,.i .i64 0,.i .i64 11,.i .i64 0,.l0]),.a (ofL [.i .i64 1,.i .i64 1,.i .i64 12,.i .i64 0,.l0]),.a (ofL [.i .i64 2,.i .i64 11,.i .i64 9,.i .i64 0,.l0]),.a (ofL [.i .i64 2,.i .i64 12,.i .i64 10,.i .i64 0,.l0]),.a (ofL [.i .i64 2,.i .i64 13,.i .i64 10,.i .i64 0,.l0])])]) 2687 (.t (ofL [.a (ofL [.l 2786 0 16,.l 2785 0 2]),.i .i64 0])) (lowL ++ [(2645,.v 213 5 5 [.a (ofL [.i .i64 1,.i .i64 0,.i .i64 11,.i .i64 0,.l0]),.a (ofL [.i .i64 1,.i .i64 1,.i .i64 12,.i .i64 0,.l0]),.a (ofL [.i .i64 2,.i .i64 11,.i .i64 9,.i .i64 0,.l0]),.a (ofL [.i .i64 2,.i .i64 12,.i .i64 10,.i .i64 0,.l0]),.a (ofL [.i .i64 2,.i .i64 13,.i .i64 10,.i .i64 0,.l0])]),
 (2775,.v 28 1 18 [.l0,.l0,.l0,.l0,.l0,.l0,.l0,.l0,.l0,.l 2777 0 1,.l 2779 0 1,.l 2781 0 1,.l 2783 0 1,.l0,.l0,.l0,.l0,.l0]),
 (2777,.v 3 1 1 [.i .i64 0]),
 (2779,.v 3 1 1 [.i .i64 1]),
 (2781,.v 3 1 1 [.i .i64 0]),
 (2783,.v 3 1 1 [.i .i64 1]),
 (2785,.v 28 1 2 [.l0,.l0]),
 (2786,.al 2775 0)]) 2787
theorem cS1_ok:cS1.okR=true:=by kernel_rfl
theorem cS1_run:chkOut ((recs Tryz.prog env 100000).call cS1.f cS1.xs (cS1.ins.st cS1.n)) cS1.v cS1.outs cS1.m=true:=by kernel_rfl
end Go.Proofs.YthbialnddkboiaaGreatDoor
namespace Go.Proofs.YthbialnddkboiaaGreatDoor
open Go Go.AM
set_option maxRecDepth 100000
noncomputable def cS2:Chunk:=Chunk.mk 46 (ofL [.a (ofL [.i .i64 16,.i .i64 2,.i .i64 1,.l 3544 0 15])]) (lowL ++ [(3544,.v 213 5 15 [.a (ofL [.i .i64 1,.i .i64 0,.i .i64 11,.i .i64 0,.l0]),.a (ofL [.i .i64 1,.i .i64 1,.i .i64 12,.i .i64 0,.l0]),.a (ofL [.i .i64 2,.i .i64 3,.i .i64 15,.i .i64 0,.l0]),.a (ofL [.i .i64 2,.i .i64 5,.i .i64 7,.i .i64 0,.l0]),.a (ofL [.i .i64 2,.i .i64 6,.i .i64 7,.i .i64 0,.l0]),.a (ofL [.i .i64 2,.i .i64 7,.i .i64 13,.i .i64 0,.l0]),.a (ofL [.i .i64 2,.i .i64 8,.i .i64 15,.i .i64 0,.l0]),.a (ofL [.i .i64 2,.i .i64 10,.i .i64 1,.i .i64 0,.l0]),.a (ofL [.i .i64 2,.i .i64 11,.i .i64 9,.i .i64 0,.l0]),.a (ofL [.i .i64 2,.i .i64 12,.i .i64 10,.i .i64 0,.l0]),.a (ofL [.i .i64 2,.i .i64 13,.i .i64 10,.i .i64 0,.l0]),.a (ofL [.i .i64 3,.i .i64 4,.i .i64 5,.i .i64 0,.l0]),.a (ofL [.i .i64 4,.i .i64 1,.i .i64 0,.i .i64 0,.l0]),.a (ofL [.i .i64 5,.i .i64 9,.i .i64 0,.i .i64 0,.l 3783 0 2]),.a (ofL [.i .i64 5,.i .i64 9,.i .i64 4,.i .i64 0,.l 3785 0 2])]),
 (3783,.v 3 1 2 [.i .i64 0,.i .i64 1]),
 (3785,.v 3 1 2 [.i .i64 0,.i .i64 1])]) 3790 (.t (ofL [.a (ofL [.l 4065 0 16,.l 4064 0 2]),.i .i64 0])) (lowL ++ [(3544,.v 213 5 15 [.a (ofL [.i .i64 1,.i .i64 0,.i .i64 11,.i .i64 0,.l0]),.a (ofL [.i .i64 1,.i .i64 1,.i .i64 12,.i .i64 0,.l0]),.a (ofL [.i .i64 2,.i .i64 3,.i .i64 15,.i .i64 0,.l0]),.a (ofL [.i .i64 2,.i .i64 5,.i .i64 7,.i .i64 0,.l0]),.a (ofL [.i .i64 2,.i .i64 6,.i .i64 7,.i .i64 0,.l0]),.a (ofL [.i .i64 2,.i .i64 7,.i .i64 13,.i .i64 0,.l0]),.a (ofL [.i .i64 2,.i .i64 8,.i .i64 15,.i .i64 0,.l0]),.a (ofL [.i .i64 2,.i .i64 10,.i .i64 1,.i .i64 0,.l0]),.a (ofL [.i .i64 2,.i .i64 11,.i .i64 9,.i .i64 0,.l0]),.a (ofL [.i .i64 2,.i .i64 12,.i .i64 10,.i .i64 0,.l0]),.a (ofL [.i .i64 2,.i .i64 13,.i .i64 10,.i .i64 0,.l0]),.a (ofL [.i .i64 3,.i .i64 4,.i .i64 5,.i .i64 0,.l0]),.a (ofL [.i .i64 4,.i .i64 1,.i .i64 0,.i .i64 0,.l0]),.a (ofL [.i .i64 5,.i .i64 9,.i .i64 0,.i .i64 0,.l 3783 0 2]),.a (ofL [.i .i64 5,.i .i64 9,.i .i64 4,.i .i64 0,.l 3785 0 2])]),
 (3783,.v 3 1 2 [.i .i64 0,.i .i64 1]),
 (3785,.v 3 1 2 [.i .i64 0,.i .i64 1]),
 (4040,.v 28 1 18 [.l 4042 0 1,.l 4044 0 1,.l0,.l0,.l 4046 0 1,.l 4048 0 1,.l0,.l 4050 0 1,.l0,.l 4052 0 1,.l 4054 0 1,.l 4056 0 1,.l 4058 0 1,.l 4060 0 1,.l0,.l0,.l 4062 0 1,.l0]),
 (4042,.v 3 1 1 [.i .i64 0]),
 (4044,.v 3 1 1 [.i .i64 1]),
 (4046,.v 3 1 1 [.i .i64 0]),
 (4048,.v 3 1 1 [.i .i64 1]),
 (4050,.v 3 1 1 [.i .i64 1]),
 (4052,.v 3 1 1 [.i .i64 0]),
 (4054,.v 3 1 1 [.i .i64 1]),
 (4056,.v 3 1 1 [.i .i64 0]),
 (4058,.v 3 1 1 [.i .i64 1]),
 (4060,.v 3 1 1 [.i .i64 1]),
 (4062,.v 3 1 1 [.i .i64 1]),
 (4064,.v 28 1 2 [.l 4062 0 1,.l0]),
 (4065,.al 4040 0)]) 4066
theorem cS2_ok:cS2.okR=true:=by kernel_rfl
theorem cS2_run:chkOut ((recs Tryz.prog env 100000).call cS2.f cS2.xs (cS2.ins.st cS2.n)) cS2.v cS2.outs cS2.m=true:=by kernel_rfl
end Go.Proofs.YthbialnddkboiaaGreatDoor
