/-
  What the claims of this seat share: the listed variables, a world for the witness.
-/
import Derived.Test.YtjnbddedmbhiaaaGreatDoorCards
import Derived.Test.YtjnbddedmbhiaaaGreatDoorTie
import Derived.Test.YtjnbddedmbhiaaaGreatDoorPk49
import Derived.Stop.LaidErr
namespace Go.Proofs.YtjnbddedmbhiaaaGreatDoor
open Go.ChangeShapes Go.WideShapes Go.ChangeAt Go.RowKit Go.xg Go.Deep
set_option maxRecDepth 100000

theorem own:ownKnob Tryz.prog.godebug=none:=by kernel_rfl
theorem laidOut:laidOutB Tryz.prog=true:=by kernel_rfl
theorem tO{P:Program}{n:String}{d:DataW Unit}{r:List (String × DataW Unit)}{W:World}(h:laidMet P ((n,d)::r) W):laidMet P r W:=by
 obtain⟨ps,⟨g,t,cs,fuel,p,q,_,_,_,_,hr,rfl⟩,hnd,hrows⟩:=h
 exact⟨q,hr,(List.nodup_append.1 hnd).2.1,fun b off hm=>hrows b off (by simp[hm])⟩
theorem F6{W:World}{n:String}{d:DataW Unit}{rest:List (String × DataW Unit)}{g t k:Nat}{l:List ByteArray}(h:laidMet Tryz.prog ((n,d)::rest) W)(hg:Tryz.prog.globalNamed n=some g)(ht:(Tryz.prog.globals[g]?).map (·.type)=some t)
 (hu:Tryz.prog.underlying t=some (.array k 9)) (hc:Tryz.prog.cellsOf t=k) (hd:d = .agg (l.map fun s=>.lit (.string s.data.toList))):∃t fr,W.heap[g]? = some (.cells (l.map Value.string).toArray t fr):=by
 obtain⟨ps,⟨g',t',cs,fuel,p,q,hg',ht',hvar,hdd,_,_⟩,_⟩:=h
 obtain rfl:=Option.some.inj (hg.symm.trans hg')
 obtain rfl:=Option.some.inj (ht.symm.trans ht')
 rw[hd]at hdd
 have hcs:=y0A hu Tryz.underlying9 lg hc hdd
 simp only[World.var?,hg,Option.bind_some]at hvar
 split at hvar
 ·rename_i c t fr hh
  refine⟨t,fr,?_⟩
  rw[hh]
  have:c=(l.map Value.string).toArray:=by
   have e:c=cs:=by simpa using hvar
   subst e
   rw[<-hcs]
  rw[this]
 ·cases hvar
theorem y1K{W:World}{n1 n2 n3 n4 n5:String}{d1 d2 d3 d4 d5:DataW Unit}{rest:List (String × DataW Unit)}
 (h : laidMet Tryz.prog ((n1, d1) :: (n2, d2) :: (n3, d3) :: (n4, d4) :: (n5, d5) :: ("dataflow/lex.keywords", Rows.laid_dataflow_lex_keywords) :: ("dataflow/lex.marks", Rows.laid_dataflow_lex_marks) :: ("dataflow/ir.forms", Rows.laid_dataflow_ir_forms) :: rest) W) (hs : W.ShapedOpen Tryz.prog) : AW W := by
 have h6:=tO (tO (tO (tO (tO h))))
 have h7:=tO h6
 have h8:=tO h7
 refine⟨?_,?_,?_,?_⟩
 ·exact F6 (l:=Az) h7 (by kernel_rfl) (by kernel_rfl) Tryz.underlying288 (by kernel_rfl) (by kernel_rfl)
 ·exact F6 (l:=AR) h6 (by kernel_rfl) (by kernel_rfl) Tryz.underlying266 (by kernel_rfl) (by kernel_rfl)
 ·exact F6 (l:=Bg) h8 (by kernel_rfl) (by kernel_rfl) Tryz.underlying266 (by kernel_rfl) (by kernel_rfl)
 ·obtain⟨cs,hh,_,_⟩:=hs.1 8 (Array.replicate 64 (.int .u8 0)) 331 (of_decide_eq_true (by kernel_rfl)) (by kernel_rfl)
  have:=(Array.getElem?_eq_some_iff.1 hh).1
  show 9<=_
  omega
def AX(k:IntKind)(l:List Int):Array Value:=(l.map (Value.int k)).toArray
def firstArr:Array Value:=(Go.Pinned.utf8FirstZ.map fun(n:Nat)=>Value.int .u8 (n:Int)).toArray
def accArr:Array Value:=AX .u8 [128,191,160,191,128,159,144,191,128,143,0,0,0,0,0,0,0,0,0,0,0,0,0,0,0,0,0,0,0,0,0,0]
def Uy:Array Value:=AX .u64 [1,10,100,1000,10000,100000,1000000,10000000,100000000,1000000000,10000000000,100000000000,1000000000000,10000000000000,100000000000000,1000000000000000,10000000000000000,100000000000000000,1000000000000000000,10000000000000000000]
def ZN:Array Value:=AX .u8 [0,1,28,2,29,14,24,3,30,22,20,15,25,17,4,8,31,27,13,23,21,19,16,7,26,12,18,6,11,5,10,9]
def ZM:Array Value:=AX .u8 [0,1,56,2,57,49,28,3,61,58,42,50,38,29,17,4,62,47,59,36,45,43,51,22,53,39,33,30,24,18,12,5,63,55,48,27,60,41,37,16,46,35,44,21,52,32,23,11,54,26,40,15,34,20,31,10,25,14,19,9,13,8,7,6]
def qV(cs:Array Value):Obj->Obj
 | .cells _ t frozen=>.cells cs t frozen
 |o=>o
def KV:ByteArray:=⟨#[118,97,108,117,101,32,111,117,116,32,111,102,32,114,97,110,103,101]⟩
def JL:ByteArray:=⟨#[105,110,118,97,108,105,100,32,115,121,110,116,97,120]⟩
noncomputable def low:Nat:=(World.holding Tryz.prog default ⟨#[],#[],[]⟩).heap.size
noncomputable def Fw(os:Os):World :=
 { World.holding Tryz.prog os ⟨#[.cells #[.string KV] 329,.cells #[.string JL] 329],#[],[]⟩with heap:=((((((((World.holding Tryz.prog os ⟨#[.cells #[.string KV] 329,.cells #[.string JL] 329],#[],[]⟩).heap.modify 1 (qV (AR.map Value.string).toArray)).modify 6 (qV Uy)).modify 2 (qV (Az.map Value.string).toArray)).modify 0 (qV (Bg.map Value.string).toArray)).modify 7 (qV ZN)).modify 8 (qV ZM)).modify 4 (qV #[.iface 327 (.pointer (some ⟨low+1,0,none⟩))])).modify 5 (qV #[.iface 327 (.pointer (some ⟨low,0,none⟩))]) }
end Go.Proofs.YtjnbddedmbhiaaaGreatDoor
