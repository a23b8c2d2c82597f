/-
  The closed example awake() returns true, as the evaluator runs it.
  The closed example awake() of dataflowlaw41 returns true.
-/
import Derived.Test.YtffcklfigpmlgaaGreatDoorCL
import Derived.Test.YtffcklfigpmlgaaGreatDoorDup
import Derived.Test.YtffcklfigpmlgaaGreatDoorLV
import Derived.Test.YtffcklfigpmlgaaGreatDoorQP
import Derived.Test.YtffcklfigpmlgaaGreatDoorQL
namespace Go.Proofs.YtffcklfigpmlgaaGreatDoor
open Go Go.AM
set_option maxRecDepth 100000
def tab33:List (List Nat × AV):=[([114,101,115,117,108,116],.t (.cn (.i .i64 2) (.cn (.i .i64 0) (.cn (.b true) .nl)))),([97,114,103,57],.t (.cn (.i .i64 1) (.cn (.i .i64 9) (.cn (.b true) .nl)))),([97,114,103,48,49],.t (.cn (.i .i64 0) (.cn (.i .i64 0) (.cn (.b false) .nl))))]
noncomputable def env3:AM.Env:=⟨fun f=>cond (Nat.beq f 41) (some dupPrim) (cond (Nat.beq f 19) (some cL41.primR) (cond (Nat.beq f 46) (some (tabPrim tab33)) (cond (Nat.beq f 389) (some idxPrim) (cond (Nat.beq f 80) (some ixPrim) (cond (Nat.beq f 132) (some cntPrim) none))))),env.noop⟩
theorem aw41_run:allTrue ((recs Tryz.prog env3 100000).call 7 .nl (lowL.st lowN))=true:=by kernel_rfl
end Go.Proofs.YtffcklfigpmlgaaGreatDoor
namespace Go.Proofs.YtffcklfigpmlgaaGreatDoor
open Go Go.AM Go.RowKit
set_option maxRecDepth 100000
structure AW (w:World):Prop where
 mr:∃ t fr,w.heap[5]? = some (.cells (mks.map Value.string).toArray t fr)
 kw:∃ t fr,w.heap[0]? = some (.cells (kwsP.map Value.string).toArray t fr)
 fm:∃ t fr,w.heap[6]? = some (.cells (fms.map Value.string).toArray t fr)
 z:lowN≤w.heap.size
theorem AW.below {w w':World} (h:AW w) (hb:Below w.heap.size w w'):AW w' :=
 ⟨held_below h.mr hb,held_below h.kw hb,held_below h.fm hb,Nat.le_trans h.z hb.size⟩
theorem AW.key {w:World} (h:AW w):KW w:=by
 obtain ⟨t,fr,h⟩:=h.kw
 exact ⟨t,fr,h⟩
theorem AW.low {w:World} (h:AW w):LowOk lowL w:=by
 intro r l hm
 unfold lowL at hm
 simp only [List.mem_cons,List.mem_nil_iff,or_false,Prod.mk.injEq] at hm
 rcases hm with ⟨rfl,rfl⟩ | ⟨rfl,rfl⟩ | ⟨rfl,rfl⟩
 ·exact ⟨by decide,rfl,low_strs (l:=fms) h.fm (by kernel_rfl) rfl⟩
 ·exact ⟨by decide,rfl,low_strs (l:=mks) h.mr (by kernel_rfl) rfl⟩
 ·exact ⟨by decide,rfl,low_strs (l:=kwsP) h.kw (by kernel_rfl) rfl⟩
theorem map_nat_inj:∀ {l m:List UInt8},l.map (·.toNat)=m.map (·.toNat)→l=m
 | [],[],_=>rfl
 | [],_ :: _,h=>by cases h
 | _ :: _,[],h=>by cases h
 | a :: l,b :: m,h=>by
   simp only [List.map_cons,List.cons.injEq] at h
   rw [UInt8.toNat_inj.1 h.1,map_nat_inj h.2]
theorem tab_ok {l:List UInt8} {v:AV} (hl:l.length≤65536) (hv:∀ E,VRel E v (rootV l)):∀ (z:ByteArray) (w:World),z.data.toList.map (·.toNat)=l.map (·.toNat)→Calls Tryz.prog 46 #[.string z] w fun e w'=>∃ u,e = .returned u∧(∀ E,VRel E v u)∧Below w.heap.size w w':=by
 intro z w hz
 have h:=parseRoot33 l w hl
 rw [← map_nat_inj hz,mkB_self] at h
 refine h.mono ?_
 rintro e w' ⟨rfl,hb⟩
 exact ⟨_,rfl,fun E=>by rw [map_nat_inj hz];exact hv E,hb⟩
theorem ixSaid:IxSaid Tryz.prog 80:=⟨Tryz.strings_Index_one,enters Tryz.func80 rfl⟩
theorem cntSaid:CntSaid Tryz.prog 132:=⟨Tryz.strings_Count_one,enters Tryz.func132 rfl⟩
theorem cA41_call (B:Bds):CallOk1 Tryz.prog B 48 cA41.prim:=Chunk.callOk cA41 cA41_ok cA41_run mixed noopOk named env_ok
theorem cB41_call (B:Bds):CallOk1 Tryz.prog B 49 cB41.prim:=Chunk.callOk cB41 cB41_ok cB41_run mixed noopOk named env_ok
theorem cC41_call (B:Bds):CallOk1 Tryz.prog B 50 cC41.prim:=Chunk.callOk cC41 cC41_ok cC41_run mixed noopOk named env_ok
theorem env2_ok:∀ B f g,env2.prim f=some g→CallOk1 Tryz.prog B f g:=by
 intro B f g h
 rcases cond_prim h with ⟨rfl,h⟩ | h
 ·cases h;exact cA41_call B
 rcases cond_prim h with ⟨rfl,h⟩ | h
 ·cases h;exact cB41_call B
 rcases cond_prim h with ⟨rfl,h⟩ | h
 ·cases h;exact cC41_call B
 ·exact env_ok B f g h
theorem cL41_call (B:Bds):CallOk1 Tryz.prog B 19 cL41.primR:=Chunk.callOkR cL41 cL41_ok cL41_run mixed noopOk named env2_ok
theorem tab33_ok (B:Bds):CallOk1 Tryz.prog B 46 (tabPrim tab33):=by
 refine tabPrim_ok (enters Tryz.func46 rfl) ?_
 intro p hp
 unfold tab33 at hp
 simp only [List.mem_cons,List.mem_nil_iff,or_false] at hp
 rcases hp with rfl | rfl | rfl
 ·refine tab_ok (l:=[114,101,115,117,108,116]) (by decide) fun E=>?_
  simp only [VRel,LRel]
  exact ⟨_,rfl,_,_,rfl,rfl,_,_,rfl,rfl,_,_,rfl,rfl,rfl⟩
 ·refine tab_ok (l:=[97,114,103,57]) (by decide) fun E=>?_
  simp only [VRel,LRel]
  exact ⟨_,rfl,_,_,rfl,rfl,_,_,rfl,rfl,_,_,rfl,rfl,rfl⟩
 ·refine tab_ok (l:=[97,114,103,48,49]) (by decide) fun E=>?_
  simp only [VRel,LRel]
  exact ⟨_,rfl,_,_,rfl,rfl,_,_,rfl,rfl,_,_,rfl,rfl,rfl⟩
theorem env3_ok:∀ B f g,env3.prim f=some g→CallOk1 Tryz.prog B f g:=by
 intro B f g h
 rcases cond_prim h with ⟨rfl,h⟩ | h
 ·cases h;exact dupPrim_ok (enters Tryz.func41 rfl) B
 rcases cond_prim h with ⟨rfl,h⟩ | h
 ·cases h;exact cL41_call B
 rcases cond_prim h with ⟨rfl,h⟩ | h
 ·cases h;exact tab33_ok B
 rcases cond_prim h with ⟨rfl,h⟩ | h
 ·cases h;exact idxPrim_ok idxSaid
 rcases cond_prim h with ⟨rfl,h⟩ | h
 ·cases h;exact ixPrim_ok ixSaid
 rcases cond_prim h with ⟨rfl,h⟩ | h
 ·cases h;exact cntPrim_ok cntSaid
 ·cases h
theorem awake41 (w:World) (h:AW w):Calls Tryz.prog 7 #[] w (Ret w (.bool true)):=closed_true (G:=env3) mixed noopOk named env3_ok aw41_run h.low h.z
end Go.Proofs.YtffcklfigpmlgaaGreatDoor
