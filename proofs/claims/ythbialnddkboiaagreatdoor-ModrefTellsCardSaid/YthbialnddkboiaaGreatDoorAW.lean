/-
  The closed example awake() of dataflowlaw26 returns true, as the evaluator runs it.
  The closed example awake() of dataflowlaw26 returns true.
-/
import Derived.Test.YthbialnddkboiaaGreatDoorCha26
import Derived.Test.YthbialnddkboiaaGreatDoorChb26
import Derived.Test.YthbialnddkboiaaGreatDoorCC
import Derived.Test.YthbialnddkboiaaGreatDoorCO
import Derived.Test.YthbialnddkboiaaGreatDoorAmD
import Derived.Test.YthbialnddkboiaaGreatDoorLivc
namespace Go.Proofs.YthbialnddkboiaaGreatDoor
open Go Go.AM
set_option maxRecDepth 100000
noncomputable def env26:AM.Env:=⟨fun f=>cond (Nat.beq f 16) (some cA26.prim) (cond (Nat.beq f 17) (some cB26.prim) (cond (Nat.beq f 18) (some cC26.primR) (cond (Nat.beq f 41) (some cK26.primR) (cond (Nat.beq f 22) (some cO26.primR) (cond (Nat.beq f 48) (some cG26.primR) (env.prim f)))))),env.noop⟩
theorem aw26_run:allTrue ((recs Tryz.prog env26 100000).call 6 .nl (lowL.st lowN))=true:=by kernel_rfl
end Go.Proofs.YthbialnddkboiaaGreatDoor
namespace Go.Proofs.YthbialnddkboiaaGreatDoor
open Go Go.AM Go.RowKit
set_option maxRecDepth 100000
structure AW (w:World):Prop where
 mr:∃ t fr,w.heap[0]? = some (.cells (mks.map Value.string).toArray t fr)
 kw:∃ t fr,w.heap[1]? = some (.cells (kwsP.map Value.string).toArray t fr)
 fm:∃ t fr,w.heap[2]? = some (.cells (fms.map Value.string).toArray t fr)
 z:lowN≤w.heap.size
theorem AW.below {w w':World} (h:AW w) (hb:Below w.heap.size w w'):AW w' :=
 ⟨held_below h.mr hb,held_below h.kw hb,held_below h.fm hb,Nat.le_trans h.z hb.size⟩
theorem AW.low {w:World} (h:AW w):LowOk lowL w:=by
 intro r l hm
 unfold lowL at hm
 simp only [List.mem_cons,List.mem_nil_iff,or_false,Prod.mk.injEq] at hm
 rcases hm with ⟨rfl,rfl⟩ | ⟨rfl,rfl⟩ | ⟨rfl,rfl⟩
 ·exact ⟨by decide,rfl,low_strs (l:=fms) h.fm (by kernel_rfl) rfl⟩
 ·exact ⟨by decide,rfl,low_strs (l:=mks) h.mr (by kernel_rfl) rfl⟩
 ·exact ⟨by decide,rfl,low_strs (l:=kwsP) h.kw (by kernel_rfl) rfl⟩
theorem cA26_call (B:Bds):CallOk1 Tryz.prog B 16 cA26.prim:=Chunk.callOk cA26 cA26_ok cA26_run mixed noopOk named env_ok
theorem cB26_call (B:Bds):CallOk1 Tryz.prog B 17 cB26.prim:=Chunk.callOk cB26 cB26_ok cB26_run mixed noopOk named env_ok
theorem cK26_call (B:Bds):CallOk1 Tryz.prog B 41 cK26.primR:=Chunk.callOkR cK26 cK26_ok cK26_run mixed noopOk named env_ok
theorem envK_ok:∀ B f g,envK.prim f=some g→CallOk1 Tryz.prog B f g:=by
 intro B f g h
 rcases cond_prim h with ⟨rfl,h⟩ | h
 ·cases h;exact cK26_call B
 ·exact env_ok B f g h
theorem cL1_call (B:Bds):CallOk1 Tryz.prog B 44 cL1.primR:=Chunk.callOkR cL1 cL1_ok cL1_run mixed noopOk named env_ok
theorem cL2_call (B:Bds):CallOk1 Tryz.prog B 44 cL2.primR:=Chunk.callOkR cL2 cL2_ok cL2_run mixed noopOk named env_ok
theorem cK1_call (B:Bds):CallOk1 Tryz.prog B 45 cK1.primR:=Chunk.callOkR cK1 cK1_ok cK1_run mixed noopOk named envK_ok
theorem cK2_call (B:Bds):CallOk1 Tryz.prog B 45 cK2.primR:=Chunk.callOkR cK2 cK2_ok cK2_run mixed noopOk named envK_ok
theorem cS1_call (B:Bds):CallOk1 Tryz.prog B 46 cS1.primR:=Chunk.callOkR cS1 cS1_ok cS1_run mixed noopOk named env_ok
theorem cS2_call (B:Bds):CallOk1 Tryz.prog B 46 cS2.primR:=Chunk.callOkR cS2 cS2_ok cS2_run mixed noopOk named env_ok
theorem envL_ok:∀ B f g,envL.prim f=some g→CallOk1 Tryz.prog B f g:=by
 intro B f g h
 rcases cond_prim h with ⟨rfl,h⟩ | h
 ·cases h;exact cK26_call B
 rcases cond_prim h with ⟨rfl,h⟩ | h
 ·cases h;exact orP_ok (cL1_call B) (cL2_call B)
 rcases cond_prim h with ⟨rfl,h⟩ | h
 ·cases h;exact orP_ok (cK1_call B) (cK2_call B)
 rcases cond_prim h with ⟨rfl,h⟩ | h
 ·cases h;exact orP_ok (cS1_call B) (cS2_call B)
 ·exact env_ok B f g h
theorem cC26_call (B:Bds):CallOk1 Tryz.prog B 18 cC26.primR:=Chunk.callOkR cC26 cC26_ok cC26_run mixed noopOk named envL_ok
theorem cO26_call (B:Bds):CallOk1 Tryz.prog B 22 cO26.primR:=Chunk.callOkR cO26 cO26_ok cO26_run mixed noopOk named env_ok
theorem cG26_call (B:Bds):CallOk1 Tryz.prog B 48 cG26.primR:=Chunk.callOkR cG26 cG26_ok cG26_run mixed noopOk named envK_ok
theorem env26_ok:∀ B f g,env26.prim f=some g→CallOk1 Tryz.prog B f g:=by
 intro B f g h
 rcases cond_prim h with ⟨rfl,h⟩ | h
 ·cases h;exact cA26_call B
 rcases cond_prim h with ⟨rfl,h⟩ | h
 ·cases h;exact cB26_call B
 rcases cond_prim h with ⟨rfl,h⟩ | h
 ·cases h;exact cC26_call B
 rcases cond_prim h with ⟨rfl,h⟩ | h
 ·cases h;exact cK26_call B
 rcases cond_prim h with ⟨rfl,h⟩ | h
 ·cases h;exact cO26_call B
 rcases cond_prim h with ⟨rfl,h⟩ | h
 ·cases h;exact cG26_call B
 ·exact env_ok B f g h
theorem awake26 (w:World) (h:AW w):Calls Tryz.prog 6 #[] w (Ret w (.bool true)):=closed_true (G:=env26) mixed noopOk named env26_ok aw26_run h.low h.z
end Go.Proofs.YthbialnddkboiaaGreatDoor
