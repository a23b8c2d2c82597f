/-
  The closed example awake() of dataflowlaw20 returns true.
-/
import Derived.Test.YtkbmnfijeknenaaGreatDoorLivc
import Derived.Test.YtkbmnfijeknenaaGreatDoorLA
namespace Go.Proofs.YtkbmnfijeknenaaGreatDoor
open Go Go.AM Go.RowKit
set_option maxRecDepth 100000
structure AW (w:World):Prop where
 mr:∃ t fr,w.heap[1]? = some (.cells (mks.map Value.string).toArray t fr)
 kw:∃ t fr,w.heap[2]? = some (.cells (kwsP.map Value.string).toArray t fr)
 z:lowN≤w.heap.size
theorem AW.below {w w':World} (h:AW w) (hb:Below w.heap.size w w'):AW w' :=
 ⟨held_below h.mr hb,held_below h.kw hb,Nat.le_trans h.z hb.size⟩
theorem AW.low {w:World} (h:AW w):LowOk lowM w:=by
 intro r l hm
 unfold lowM at hm
 simp only [List.mem_cons,List.mem_nil_iff,or_false,Prod.mk.injEq] at hm
 rcases hm with ⟨rfl,rfl⟩ | ⟨rfl,rfl⟩
 ·exact ⟨by decide,rfl,low_strs (l:=mks) h.mr (by kernel_rfl) rfl⟩
 ·exact ⟨by decide,rfl,low_strs (l:=kwsP) h.kw (by kernel_rfl) rfl⟩
theorem cA20_call (B:Bds):CallOk1 Tryz.prog B 47 cA20.prim:=Chunk.callOk cA20 cA20_ok cA20_run mixed noopOk named env_ok
theorem cB20_call (B:Bds):CallOk1 Tryz.prog B 48 cB20.prim:=Chunk.callOk cB20 cB20_ok cB20_run mixed noopOk named env_ok
theorem env20_ok:∀ B f g,env20.prim f=some g→CallOk1 Tryz.prog B f g:=by
 intro B f g h
 rcases cond_prim h with ⟨rfl,h⟩ | h
 ·cases h;exact cA20_call B
 rcases cond_prim h with ⟨rfl,h⟩ | h
 ·cases h;exact cB20_call B
 ·exact env_ok B f g h
theorem awake20 (w:World) (h:AW w):Calls Tryz.prog 12 #[] w (Ret w (.bool true)):=closed_true (G:=env20) mixed noopOk named env20_ok aw20_run h.low h.z
end Go.Proofs.YtkbmnfijeknenaaGreatDoor
