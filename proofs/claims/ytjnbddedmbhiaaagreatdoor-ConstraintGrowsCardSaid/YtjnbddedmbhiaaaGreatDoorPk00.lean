/-
  Names (ported from seat r4): letters, digits, keywords, identifiers of the reference.
-/
import Derived.Test.YtjnbddedmbhiaaaGreatDoorProg
import Derived.WalkKit
import Derived.WalkSpells
import Derived.WalkLawsBesides
import Derived.BigQuiet
import Derived.Lib.Hide
import Derived.RowKit
import Derived.Deep.DeepCutAuto
import Derived.Deep.QuietTactic
import Derived.StillTailTactics
import Derived.Deep.CutBlock
import Derived.Outline
import Derived.Laws.Tables
import Derived.Laws.CopyOwn
import Derived.Laws.AppendOwnNone
import Derived.WideShapes
namespace Go.Proofs.YtjnbddedmbhiaaaGreatDoor
open Go.RowKit


theorem eO{k:IntKind}{a b:Int}(h:a=b):Ending.returned (.int k a) = .returned (.int k b):=by rw[h]
theorem ed{a b:Bool}(h:a=b):Ending.returned (.bool a) = .returned (.bool b):=by rw[h]

def Same(w:World)(v:Value)(e:Ending)(w':World):Prop:=e = .returned v/\w=w'
def aj(w:World)(v:Value)(e:Ending)(w':World):Prop:=e = .returned v/\Below w.heap.size w w'

def mo(c:Int):Bool:=(decide (97<=c)&&decide (c<=122))||(decide (65<=c)&&decide (c<=90))
def BG(c:Int):Bool:=decide (48<=c)&&decide (c<=57)
def qf(c:Int):Bool:=mo c||BG c||c==95

def mD:List ByteArray:=[⟨#[99,108,97,115,115]⟩,⟨#[101,120,116,101,110,100,115]⟩,⟨#[118,97,114]⟩,⟨#[100,101,102]⟩,⟨#[115,116,97,116,105,99]⟩,⟨#[105,102]⟩,⟨#[101,108,115,101]⟩,⟨#[119,104,105,108,101]⟩,⟨#[116,114,121]⟩,⟨#[99,97,116,99,104]⟩,⟨#[116,104,114,111,119]⟩,⟨#[114,101,116,117,114,110]⟩,⟨#[110,101,119]⟩,⟨#[110,117,108,108]⟩,⟨#[116,104,105,115]⟩,⟨#[105,110,112,117,116]⟩,⟨#[105,110,116]⟩]
def yG:Array Value:=(mD.map Value.string).toArray
def tQ(s:ByteArray):Bool:=mD.any fun k=>k.toList==s.toList
def yF(s:ByteArray)(k:Nat):Bool:=(mD.take k).any fun x=>x.toList==s.toList
theorem Xx(s:ByteArray)(k:Nat)(h:k<17):yF s (k+1)=(yF s k||(mD.getD k ByteArray.empty).toList==s.toList):=by
 have h':k<mD.length:=h
 unfold yF
 rw[List.take_succ_eq_append_getElem h',List.any_append]
 simp[h']
theorem Xy{s:ByteArray}{k:Nat}(h:k<17)(e:(mD.getD k ByteArray.empty).toList=s.toList):tQ s=true:=by
 have h':k<mD.length:=h
 unfold tQ
 rw[List.any_eq_true]
 refine⟨mD[k],List.getElem_mem h',?_⟩
 simp[h']at e
 simp[e]

def DT(s:ByteArray)(k:Nat):Prop:=∀j (h:j<s.size),j<k->qf s[j].toNat=true
def di(s:ByteArray):Bool:=decide (0<s.size)&&decide (s.size<=32)&&mo (s.data[0]?.getD 0).toNat&&s.data.toList.all (fun c=>qf c.toNat) && !tQ s
theorem Yn{s:ByteArray}(h:s.size=0):di s=false:=by simp[di,h]
theorem Ym{s:ByteArray}(h:32<s.size):di s=false:=by
 have:¬ s.size<=32:=by omega
 simp[di,this]
theorem Ck{s:ByteArray}(h:0<s.size):s.data[0]?.getD 0=s[0]:=by
 have h':0<s.data.size:=h
 rw[Array.getElem?_eq_getElem h'];rfl
theorem Yl{s:ByteArray}(h:0<s.size)(hl:mo s[0].toNat=false):di s=false:=by
 unfold di
 rw[Ck h,hl]
 simp
theorem Yk{s:ByteArray}{k:Nat}(h:k<s.size)(hl:qf s[k].toNat=false):di s=false:=by
 have:(s.data.toList.all fun c=>qf c.toNat)=false:=by
  rw[List.all_eq_false]
  exact⟨s[k],by simp[ByteArray.getElem_eq_getElem_data],by simp[hl]⟩
 simp[di,this]
theorem Yj{s:ByteArray}(h:tQ s=true):di s=false:=by simp[di,h]
theorem Yi{s:ByteArray}(h:0<s.size)(h2:s.size<=32)(hl:mo s[0].toNat=true)(hp:DT s s.size)(hk:tQ s=false):di s=true:=by
 have:(s.data.toList.all fun c=>qf c.toNat)=true:=by
  rw[List.all_eq_true]
  intro c hc
  obtain⟨j,hj,rfl⟩:=List.getElem_of_mem hc
  have hj':j<s.size:=by simpa using hj
  have:=hp j hj' hj'
  simpa[ByteArray.getElem_eq_getElem_data]using this
 unfold di
 rw[Ck h,hl,this,hk]
 simp[h,h2]
theorem nil_of_size{s:ByteArray}(h:s.size=0):s.toList=[]:=by
 rw[ByteArray.toList_eq]
 apply List.eq_nil_of_length_eq_zero
 simpa using h
theorem Md{s:ByteArray}(h:¬ s.size=0):¬ s.toList=[]:=by
 rw[ByteArray.toList_eq]
 intro e
 exact h (by simpa using congrArg List.length e)

end Go.Proofs.YtjnbddedmbhiaaaGreatDoor
namespace Go.ak

abbrev Str:=ByteArray
def aD(a b:Str):Bool:=a.toList==b.toList
structure bQ where
 name:Str
 type:Str
structure aH where
 name:Str
 stat:Bool
 params:List Str
 result:Str
structure ae where
 name:Str
 aO:Str
 fields:List bQ
 methods:List aH
structure Ins where
 op:Int
 dst:Int
 a:Int
 b:Int
 n:Int
 cls:Str
 name:Str
 args:List Int
 goto:Int
 aZ:Int
structure aA where
 cls:Str
 name:Str
 stat:Bool
 params:Int
 vars:List bQ
 result:Str
 code:List Ins
structure aQ where
 h:List ae
 fs:List aA
 main:Int

-- hierarchies
def fw(s:Str):List ae->Nat->Int
 |[],_=>-1
 |c::l,k=>if aD c.name s=true then(k:Int)else fw s l (k+1)
def aI(h:List ae)(s:Str):Int:=fw s h 0
def dE(h:List ae)(s:Str):Option ae:=h.find? (fun c=>aD c.name s)
def fT(l:List Str)(s:Str):Bool:=l.any (fun x=>aD x s)
def mJ(s:Str):Bool:=s.toList.isEmpty
def jT(h:List ae):Nat->Str->List Str->List Str × Bool
 |0,_,out=>(out,false)
 |n+1,s,out=>match dE h s with
  |none=>(out,false)
  |some c=>if fT out s=true then(out,true)else if mJ c.aO=true then(out++[s],false)else jT h n c.aO (out++[s])
def Ca(h:List ae)(s:Str):List Str × Bool:=jT h (h.length+1) s []
def jo(h:List ae)(s:Str):List Str:=(Ca h s).1
def vS(h:List ae)(a b:Str):Bool:=fT (jo h a) b
def iC(l:List bQ)(s:Str):Option bQ:=l.find? (fun f=>aD f.name s)
def fE(l:List aH)(s:Str):Option aH:=l.find? (fun f=>aD f.name s)
def kr(h:List ae)(s:Str):List Str->Option (Str × bQ)
 |[]=>none
 |x::l=>match (dE h x).bind (fun c=>iC c.fields s)with
  |some f=>some (x,f)
  |none=>kr h s l
def nX(h:List ae)(c s:Str):Option (Str × bQ):=kr h s (jo h c)
def iY(h:List ae)(s:Str):List Str->Option (Str × aH)
 |[]=>none
 |x::l=>match (dE h x).bind (fun c=>fE c.methods s)with
  |some f=>some (x,f)
  |none=>iY h s l
def dN(h:List ae)(c s:Str):Option (Str × aH):=iY h s (jo h c)
def aY:Str:=⟨#[105,110,116]⟩
def tu:Str:=⟨#[110,117,108,108]⟩
end Go.ak
namespace Go.Proofs.YtjnbddedmbhiaaaGreatDoor
open Go.RowKit Go.ak

open Go.RowKit

def bF(w:World)(a:Option Addr)(l:List ByteArray):Prop :=
 ∀k (h:k<l.length),∃b off,a=some ⟨b,off,none⟩/\w.cell? ⟨b,off+k,none⟩=some (.string l[k])
theorem cell_below{w w':World}(hb:Below w.heap.size w w'){a:Addr}{v:Value}(h:w.cell? a=some v):w'.cell? a=some v:=by
 rw[hb.cell (World.block_lt_of_cell? w a h)];exact h
theorem bF.below{w w':World}{a:Option Addr}{l:List ByteArray}(h:bF w a l)(hb:Below w.heap.size w w'):bF w' a l:=by
 intro k hk
 obtain⟨b,off,ha,hc⟩:=h k hk
 exact⟨b,off,ha,cell_below hb hc⟩
def ah(W:World)(g:Nat)(cs:Array Value)(t:TypeId):Prop:=W.heap[g]? = some (.cells cs t (0,0))
theorem ah.cell{W:World}{g:Nat}{cs:Array Value}{t:TypeId}(h:ah W g cs t)(i:Nat)(hi:i<cs.size):W.cell? ⟨g,i,none⟩=some cs[i]:=by
 rw[cell_of_row _ _ _ _ _ _ h];simp[hi]
theorem ah.free{W:World}{g:Nat}{cs:Array Value}{t:TypeId}(h:ah W g cs t)(i:Nat):W.frozen? ⟨g,i,none⟩=false:=by
 unfold ah at h;unfold World.frozen?;rw[h];simp
theorem ah.lt{W:World}{g:Nat}{cs:Array Value}{t:TypeId}(h:ah W g cs t):g<W.heap.size:=(Array.getElem?_eq_some_iff.1 h).1
theorem ah.below{W W':World}{g:Nat}{cs:Array Value}{t:TypeId}(h:ah W g cs t)(hb:Below W.heap.size W W'):ah W' g cs t:=by
 unfold ah;rw[hb.block g h.lt];exact h
theorem ah.grown{W W':World}{g:Nat}{cs:Array Value}{t:TypeId}{row:Option Nat}(h:ah W g cs t)(hg:W.grownBy W' row)(hne:some g≠row):ah W' g cs t:=by
 unfold ah;rw[hg.block g h.lt hne];exact h
theorem ah.setRow{W:World}{g:Nat}{cs:Array Value}{t:TypeId}(h:ah W g cs t)(cs':Array Value):ah (W.setRow g cs') g cs' t:=setRow_heap W g cs cs' t (0,0) h
theorem ah.uY{W:World}{g g':Nat}{cs:Array Value}{t:TypeId}(h:ah W g cs t)(hne:g≠g')(cs':Array Value):ah (W.setRow g' cs') g cs t:=by
 unfold ah;rw[setRow_other W g' g cs' hne];exact h
theorem ah.set{W:World}{g:Nat}{cs:Array Value}{t:TypeId}(h:ah W g cs t)(i:Nat)(v:Value):ah (W.setCell ⟨g,i,none⟩ v) g (cs.setIfInBounds i v) t:=by
 unfold ah at *
 simp only[World.setCell,Array.getElem?_modify,if_true,h,Option.map_some,Option.isSome_none]
 congr 2
theorem aL(w:World)(cs:Array Value)(t:TypeId):ah (w.alloc (.cells cs t)) w.heap.size cs t:=heap_alloc_new w _
theorem gH(w:World)(cs:Array Value)(t:TypeId)(o1:Obj):ah ((w.alloc o1).alloc (.cells cs t)) (w.heap.size+1) cs t:=by
 have:=aL (w.alloc o1) cs t
 simpa using this
theorem av(w:World)(o1:Obj):Below w.heap.size w (w.alloc o1):=(Below.refl _ _).alloc (Nat.le_refl _) _
theorem iH(w:World)(o1 o2:Obj):Below w.heap.size w ((w.alloc o1).alloc o2):=(av ..).alloc (by simp) _
theorem xB(w:World)(o1 o2 o3:Obj):Below w.heap.size w (((w.alloc o1).alloc o2).alloc o3):=(iH ..).alloc (by simp;omega) _
theorem addr_add(b off k:Nat):(⟨b,off,none⟩:Addr).add k=⟨b,off+k,none⟩:=by unfold Addr.add;split<;>simp_all
theorem qZ{w:World}{base:Nat}{v:Value}{l:List ByteArray}{n:Nat}(h:w.ownsRow base 9 1 v n (l.map Value.string)):n=l.length/\∃a cap,v = .slice a n cap/\n<=cap/\bF w a l:=by
 have hl:n=l.length:=by have:=h.1;simp at this;omega
 refine⟨hl,?_⟩
 rcases h.2 with ⟨rfl,h0⟩ | ⟨g,cap,cur,rfl,hb,hh,hn,_,hsz,ht⟩
 ·exact⟨none,0,by rw[h0],by omega,fun k hk=>by omega⟩
 ·refine⟨_,_,rfl,hn,fun k hk=>⟨g,0,rfl,?_⟩⟩
  have c:=h.cells (g:=g) rfl k (.string l[k]) (by simp[hk])
  rw[addr_add]at c
  exact c
theorem NM:(Tryz.prog.info? 9).map (fun i=>(i.zero,i.size,i.bytes))=some (some (.string ⟨#[]⟩),1,16):=by kernel_rfl
open Go.RowKit

theorem gD{w:World}{base:Nat}{e:TypeId}{s n:Nat}{v:Value}{xs:List Value}(h:w.ownsRow base e s v n xs){g:Nat}{cs:Array Value}{t:TypeId}{fr:Nat × Nat}(hg:w.heap[g]? = some (.cells cs t fr))(hne:t≠e):some g≠v.ownBlock:=by
 rcases h.2 with ⟨rfl,_⟩ | ⟨g',cap,cur,rfl,_,hh,_⟩
 ·simp[Value.ownBlock]
 ·simp only[Value.ownBlock,ne_eq,Option.some.injEq]
  rintro rfl
  rw[hg]at hh
  simp only[Option.some.injEq,Obj.cells.injEq]at hh
  exact hne hh.2.1
theorem oW(w:World)(g:Nat)(cs:Array Value):w.grownBy (w.setRow g cs) (some g) :=
 ⟨rfl,rfl,rfl,by simp,fun k _ hne=>setRow_other w g k cs (fun e=>hne (by rw[e]))⟩
theorem vY(w:World)(g i:Nat)(v:Value):w.grownBy (w.setCell ⟨g,i,none⟩ v) (some g):=by
 refine⟨rfl,rfl,rfl,by simp[World.setCell],fun k hk hne=>?_⟩
 simp only[World.setCell,Array.getElem?_modify]
 rw[if_neg (fun e=>hne (by rw[e]))]
theorem Cz{ops:Array Oper}{rest:List Oper}{o:Oper}{a:Act}{Q:Exit->Act->World->Prop}{w:World}(hgd:o.guard=none)(s x:Operand)
 (ho:o.op = .call { callee:=.builtin .append,args:=#[s,x],argTypes:=#[46,46] })
 (base:Nat) (v:Value) (l:List ByteArray) (hs:a.eval s=v) (hown:w.ownsRow base 9 1 v l.length (l.map Value.string))
 (g:Nat) (y:ByteArray) (hx:a.eval x = .slice (some ⟨g,0,none⟩) 1 1) (hg:ah w g #[.string y] 9)
 (hn:l.length<=1000000) (hbase:base<=w.heap.size)
 (h:∀v' w',w'.ownsRow base 9 1 v' (l++[y]).length ((l++[y]).map Value.string)->w.grownBy w' v.ownBlock->wpList Tryz.prog ops Q rest (a.put o.dst v') w'):wpList Tryz.prog ops Q (o::rest) a w:=by
 obtain⟨i0,hi,hz0,hz1,hz2⟩:=info_parts NM
 refine wpList_append_own w hgd s x 46 ho base 9 i0 (.string ⟨#[]⟩) 1 16 Tryz.underlying46 hi hz0 hz1 hz2 rfl (by decide) v l.length (l.map Value.string) hs hown ⟨g,0,none⟩ 1 1 [.string y] hx rfl ?_ (by intro u hu;rw[List.mem_singleton.1 hu];rfl) (by unfold maxLen;omega) (by omega) hbase ?_
 ·intro j u hu
  rw[addr_add,Nat.zero_add,cell_of_row _ _ _ _ _ _ hg]
  simpa using hu
 ·intro v' w' h1 h2 _
  refine h v' w' ?_ h2
  rw[List.map_append,List.length_append]
  exact h1
def Fr(b:Option Addr)(n:Nat):Prop:=∀g o,b=some ⟨g,o,none⟩->n<=g
theorem vC{w:World}{base n d:Nat}{b:Option Addr}{l:List ByteArray}(h:w.ownsRow base 9 1 (.slice b n d) n (l.map Value.string)):n<=d/\bF w b l:=by
 obtain⟨_,a,cap,he,h1,h2⟩:=qZ h
 cases he
 exact⟨h1,h2⟩
theorem gL{w w':World}{base e s n:Nat}{v:Value}{xs:List Value}(h:w.ownsRow base e s v n xs)(hb:Below w.heap.size w w'):w'.ownsRow base e s v n xs :=
 h.kept ⟨hb.os,hb.tape,hb.output,hb.size,fun k hk _=>hb.block k hk⟩ (row:=none) (by cases hv:Value.ownBlock _<;>simp)
open Go.RowKit

theorem y1T{ops:Array Oper}{rest:List Oper}{o:Oper}{a:Act}{Q:Exit->Act->World->Prop}{w:World}(hgd:o.guard=none)(s x:Operand)
 (ho:o.op = .call { callee:=.builtin .append,args:=#[s,x],argTypes:=#[46,46] })
 (base:Nat) (v:Value) (l:List ByteArray) (hs:a.eval s=v) (hown:w.ownsRow base 9 1 v l.length (l.map Value.string))
 (ad:Option Addr) (c:Nat) (m:List ByteArray) (hx:a.eval x = .slice ad m.length c) (hat:bF w ad m)
 (hn:l.length<=1000000) (hm:m.length<=1000000) (hbase:base<=w.heap.size)
 (h:∀v' w',w'.ownsRow base 9 1 v' (l++m).length ((l++m).map Value.string)->w.grownBy w' v.ownBlock->wpList Tryz.prog ops Q rest (a.put o.dst v') w'):wpList Tryz.prog ops Q (o::rest) a w:=by
 obtain⟨i0,hi,hz0,hz1,hz2⟩:=info_parts NM
 cases ad with
 |none =>
  have hm0:m=[]:=by
   cases m with
   |nil=>rfl
   |cons y m=>obtain⟨_,_,he,_⟩:=hat 0 (by simp);cases he
  subst hm0
  refine wpList_plain hgd fun K hK=>?_
  have hrun:∀ty,(Builtin.append_ #[46,46] ty #[v,.slice none 0 c]).run Tryz.prog w = .ok v w:=fun ty=>by
   rcases hown.2 with ⟨rfl,_⟩ | ⟨g,cap,cur,rfl,_,_,hnc,_⟩
   ·simp[Builtin.append_,run_underlying Tryz.underlying46,sizeOf,typeInfo,hi,Builtin.lenOf,Builtin.firstCells]
   ·simp[Builtin.append_,run_underlying Tryz.underlying46,sizeOf,typeInfo,hi,Builtin.lenOf,Builtin.firstCells,hnc,storeCells]
  unfold Oper.wp
  simp[execOp,ho,resolve,invoke,builtin,hs,hx,hrun,Result.andThen]
  exact hK _ _ (h v w (by simpa using hown) (World.grownBy.refl w _))
 |some adr =>
  refine wpList_append_own w hgd s x 46 ho base 9 i0 (.string ⟨#[]⟩) 1 16 Tryz.underlying46 hi hz0 hz1 hz2 rfl (by decide) v l.length (l.map Value.string) hs hown adr m.length c (m.map Value.string) hx (by simp) ?_ (by intro u hu;obtain⟨y,_,rfl⟩:=List.mem_map.1 hu;rfl) (by unfold maxLen;omega) (by omega) hbase ?_
  ·intro j u hu
   obtain⟨hj,rfl⟩:=List.getElem?_eq_some_iff.1 hu
   rw[List.length_map]at hj
   obtain⟨b,off,he,hc⟩:=hat j hj
   cases he
   rw[addr_add,hc]
   simp
  ·intro v' w' h1 h2 _
   refine h v' w' ?_ h2
   rw[List.map_append,List.length_append]
   exact h1

def aK(w:World)(a:Option Addr)(l:List bQ):Prop :=
 ∀k (h:k<l.length),∃b off,a=some ⟨b,off,none⟩/\w.cell? ⟨b,off+k*2,none⟩=some (.string l[k].name)/\w.cell? ⟨b,off+k*2+1,none⟩=some (.string l[k].type)
theorem aK.below{w w':World}{a:Option Addr}{l:List bQ}(h:aK w a l)(hb:Below w.heap.size w w'):aK w' a l:=by
 intro k hk
 obtain⟨b,off,ha,h0,h1⟩:=h k hk
 exact⟨b,off,ha,cell_below hb h0,cell_below hb h1⟩
def kH(w:World)(a:Option Addr)(l:List aH):Prop :=
 ∀k (h:k<l.length),∃b off pa pc,a=some ⟨b,off,none⟩/\w.cell? ⟨b,off+k*4,none⟩=some (.string l[k].name)/\w.cell? ⟨b,off+k*4+1,none⟩=some (.bool l[k].stat)/\w.cell? ⟨b,off+k*4+2,none⟩=some (.slice pa l[k].params.length pc)/\w.cell? ⟨b,off+k*4+3,none⟩=some (.string l[k].result)/\bF w pa l[k].params
theorem kH.below{w w':World}{a:Option Addr}{l:List aH}(h:kH w a l)(hb:Below w.heap.size w w'):kH w' a l:=by
 intro k hk
 obtain⟨b,off,pa,pc,ha,h0,h1,h2,h3,h4⟩:=h k hk
 exact⟨b,off,pa,pc,ha,cell_below hb h0,cell_below hb h1,cell_below hb h2,cell_below hb h3,h4.below hb⟩
def ay(w:World)(a:Option Addr)(l:List ae):Prop :=
 ∀k (h:k<l.length),∃b off fa fc ma mc,a=some ⟨b,off,none⟩/\w.cell? ⟨b,off+k*4,none⟩=some (.string l[k].name)/\w.cell? ⟨b,off+k*4+1,none⟩=some (.string l[k].aO)/\w.cell? ⟨b,off+k*4+2,none⟩=some (.slice fa l[k].fields.length fc)/\w.cell? ⟨b,off+k*4+3,none⟩=some (.slice ma l[k].methods.length mc)/\aK w fa l[k].fields/\kH w ma l[k].methods
theorem ay.below{w w':World}{a:Option Addr}{l:List ae}(h:ay w a l)(hb:Below w.heap.size w w'):ay w' a l:=by
 intro k hk
 obtain⟨b,off,fa,fc,ma,mc,ha,h0,h1,h2,h3,h4,h5⟩:=h k hk
 exact⟨b,off,fa,fc,ma,mc,ha,cell_below hb h0,cell_below hb h1,cell_below hb h2,cell_below hb h3,h4.below hb,h5.below hb⟩
def aM(w:World)(a:Option Addr)(l:List Int):Prop :=
 ∀k (h:k<l.length),∃b off,a=some ⟨b,off,none⟩/\w.cell? ⟨b,off+k,none⟩=some (.int .i64 l[k])
theorem aM.below{w w':World}{a:Option Addr}{l:List Int}(h:aM w a l)(hb:Below w.heap.size w w'):aM w' a l:=by
 intro k hk
 obtain⟨b,off,ha,h0⟩:=h k hk
 exact⟨b,off,ha,cell_below hb h0⟩
def dw(w:World)(a:Option Addr)(l:List Ins):Prop :=
 ∀k (h:k<l.length),∃b off ga gc,a=some ⟨b,off,none⟩/\w.cell? ⟨b,off+k*10,none⟩=some (.int .i64 l[k].op)/\w.cell? ⟨b,off+k*10+1,none⟩=some (.int .i64 l[k].dst)/\w.cell? ⟨b,off+k*10+2,none⟩=some (.int .i64 l[k].a)/\w.cell? ⟨b,off+k*10+3,none⟩=some (.int .i64 l[k].b)/\w.cell? ⟨b,off+k*10+4,none⟩=some (.int .i64 l[k].n)/\w.cell? ⟨b,off+k*10+5,none⟩=some (.string l[k].cls)/\w.cell? ⟨b,off+k*10+6,none⟩=some (.string l[k].name)/\w.cell? ⟨b,off+k*10+7,none⟩=some (.slice ga l[k].args.length gc)/\w.cell? ⟨b,off+k*10+8,none⟩=some (.int .i64 l[k].goto)/\w.cell? ⟨b,off+k*10+9,none⟩=some (.int .i64 l[k].aZ)/\aM w ga l[k].args
theorem dw.below{w w':World}{a:Option Addr}{l:List Ins}(h:dw w a l)(hb:Below w.heap.size w w'):dw w' a l:=by
 intro k hk
 obtain⟨b,off,ga,gc,ha,h0,h1,h2,h3,h4,h5,h6,h7,h8,h9,h10⟩:=h k hk
 exact⟨b,off,ga,gc,ha,cell_below hb h0,cell_below hb h1,cell_below hb h2,cell_below hb h3,cell_below hb h4,cell_below hb h5,cell_below hb h6,cell_below hb h7,cell_below hb h8,cell_below hb h9,h10.below hb⟩
def bR(w:World)(a:Option Addr)(l:List aA):Prop :=
 ∀k (h:k<l.length),∃b off va vc ca cc,a=some ⟨b,off,none⟩/\w.cell? ⟨b,off+k*7,none⟩=some (.string l[k].cls)/\w.cell? ⟨b,off+k*7+1,none⟩=some (.string l[k].name)/\w.cell? ⟨b,off+k*7+2,none⟩=some (.bool l[k].stat)/\w.cell? ⟨b,off+k*7+3,none⟩=some (.int .i64 l[k].params)/\w.cell? ⟨b,off+k*7+4,none⟩=some (.slice va l[k].vars.length vc)/\w.cell? ⟨b,off+k*7+5,none⟩=some (.string l[k].result)/\w.cell? ⟨b,off+k*7+6,none⟩=some (.slice ca l[k].code.length cc)/\aK w va l[k].vars/\dw w ca l[k].code
theorem bR.below{w w':World}{a:Option Addr}{l:List aA}(h:bR w a l)(hb:Below w.heap.size w w'):bR w' a l:=by
 intro k hk
 obtain⟨b,off,va,vc,ca,cc,ha,h0,h1,h2,h3,h4,h5,h6,h7,h8⟩:=h k hk
 exact⟨b,off,va,vc,ca,cc,ha,cell_below hb h0,cell_below hb h1,cell_below hb h2,cell_below hb h3,cell_below hb h4,cell_below hb h5,cell_below hb h6,h7.below hb,h8.below hb⟩
end Go.Proofs.YtjnbddedmbhiaaaGreatDoor
namespace Go.Proofs.YtjnbddedmbhiaaaGreatDoor
open Go.RowKit Go.ak

set_option maxHeartbeats 400000 in
theorem Fp(c:Int)(w:World):Calls Tryz.prog 178 #[.int .u8 c] w (Same w (.bool (mo c))):=by
 go_enter Tryz.func178,Tryz.ntmps178
 go_wp2
 all_goals go_ret
 all_goals refine⟨ed ?_,rfl⟩
 all_goals simp[mo, *]
 all_goals omega
set_option maxHeartbeats 400000 in
theorem ZL(c:Int)(w:World):Calls Tryz.prog 190 #[.int .u8 c] w (Same w (.bool (BG c))):=by
 go_enter Tryz.func190,Tryz.ntmps190
 go_wp2
 all_goals go_ret
 all_goals refine⟨ed ?_,rfl⟩
 all_goals simp[BG, *]
 all_goals omega
set_option maxHeartbeats 400000 in
theorem La(c:Int)(w:World):Calls Tryz.prog 180 #[.int .u8 c] w (Same w (.bool (qf c))):=by
 cases hl:mo c<;>cases hd:BG c
 all_goals
  go_enter Tryz.func180,Tryz.ntmps180
  go_wp2_with (first | (go_at_call 178;refine(Fp _ _).mono ?_;rintro e w' ⟨rfl,rfl⟩) | (go_at_call 190;refine(ZL _ _).mono ?_;rintro e w' ⟨rfl,rfl⟩))
  go_ret
  refine⟨ed ?_,rfl⟩
  simp[qf,hl,hd]
def KW(w:World):Prop:=∃t fr,w.heap[1]? = some (.cells yG t fr)
theorem KW.below{w w':World}(h:KW w)(hb:Below w.heap.size w w'):KW w':=by
 obtain⟨t,fr,h⟩:=h
 refine⟨t,fr,?_⟩
 rw[hb.block 1 (Array.getElem?_eq_some_iff.1 h).1,h]
theorem Yh:∀k,k<17->∀w,(Instr.index 266 (.agg yG) (.int .i64 (k:Nat))).run Tryz.prog w = .ok (.string (mD.getD k ByteArray.empty)) w
 |0,_,_=>by kernel_rfl
 |1,_,_=>by kernel_rfl
 |2,_,_=>by kernel_rfl
 |3,_,_=>by kernel_rfl
 |4,_,_=>by kernel_rfl
 |5,_,_=>by kernel_rfl
 |6,_,_=>by kernel_rfl
 |7,_,_=>by kernel_rfl
 |8,_,_=>by kernel_rfl
 |9,_,_=>by kernel_rfl
 |10,_,_=>by kernel_rfl
 |11,_,_=>by kernel_rfl
 |12,_,_=>by kernel_rfl
 |13,_,_=>by kernel_rfl
 |14,_,_=>by kernel_rfl
 |15,_,_=>by kernel_rfl
 |16,_,_=>by kernel_rfl
 |n+17,h,_=>absurd h (by omega)
set_option maxHeartbeats 400000 in
theorem FB(s:ByteArray)(w:World)(hk:KW w):Calls Tryz.prog 181 #[.string s] w (Same w (.bool (tQ s))):=by
 obtain⟨t,fr,hg⟩:=hk
 have HG:=Lib.hid hg;clear hg
 go_enter Tryz.func181,Tryz.ntmps181
 go_wp2_with (refine wpList_load_row rfl 266 _ rfl 1 rfl t _ fr _ HG.out Tryz.underlying266 rfl (by kernel_rfl) ?_)
 go_loop[6] (fun i=>∃k:Nat,k<=17/\i = .int .i64 k/\Hid (yF s k=false)) (fun i=>17-(intOf i).toNat)
 case atStart=>exact⟨0,Nat.zero_le _,rfl,rfl⟩
 case round =>
  obtain⟨k,hk,rfl,HI⟩:=hrel
  by_cases hlt:k<17
  ·have hix:=Yh k hlt
   have HS:=Lib.hid (Xx s k hlt)
   have HB:=Lib.hid (@Xy s k hlt)
   generalize mD.getD k ByteArray.empty=x at *
   by_cases hq:x.toList=s.toList
   ·have hq1:(s.toList==x.toList)=true:=by simp[hq]
    go_wp2
    go_ret
    exact⟨ed (HB.out hq).symm,rfl⟩
   ·have hq1:(s.toList==x.toList)=false:=by simp;exact fun e=>hq e.symm
    go_wp2
    go_round
    case rel =>
     refine⟨k+1,by omega,by go_num,?_⟩
     have h1:=HS.out
     rw[HI.out]at h1
     show yF s (k+1)=false
     rw[h1];simpa using hq
    case measure=>simp[intOf];omega
  ·go_wp2
   go_ret
   refine⟨ed ?_,rfl⟩
   obtain rfl:k=17:=by omega
   exact HI.out.symm
def y2k(s:ByteArray)(w:World)(e:Ending)(w':World):Prop:=w=w'/\∃k:Nat,k<=s.size/\DT s k/\(∀h:k<s.size,qf s[k].toNat=false)/\e = .returned (.int .i64 k)
set_option maxHeartbeats 400000 in
theorem Sw(s:ByteArray)(w:World)(hs:s.size<=1000000):Calls Tryz.prog 179 #[.string s,.func (.func 180) #[] #[]] w (y2k s w):=by
 go_enter Tryz.func179,Tryz.ntmps179
 go_wp2
 go_loop[5] (fun i=>∃k:Nat,k<=s.size/\i = .int .i64 k/\Hid (DT s k)) (fun i=>s.size-(intOf i).toNat)
 case atStart=>exact⟨0,Nat.zero_le _,rfl,fun j h hj=>absurd hj (by omega)⟩
 case round =>
  obtain⟨k,hk,rfl,HI⟩:=hrel
  by_cases hlt:k<s.size
  ·cases hp:qf s[k].toNat
   ·go_wp2_with (go_at_call 180;refine(La _ _).mono ?_;rintro e w' ⟨rfl,rfl⟩)
    go_ret
    exact⟨rfl,k,hk,HI.out,fun _=>hp,rfl⟩
   ·go_wp2_with (go_at_call 180;refine(La _ _).mono ?_;rintro e w' ⟨rfl,rfl⟩)
    go_round
    case rel =>
     refine⟨k+1,by omega,by go_num,fun j h hj=>?_⟩
     by_cases e:j=k
     ·subst e;exact hp
     ·exact HI.out j h (by omega)
    case measure=>simp[intOf];omega
  ·go_wp2
   go_ret
   exact⟨rfl,k,hk,HI.out,fun h=>absurd h hlt,rfl⟩
set_option maxHeartbeats 400000 in
set_option maxRecDepth 100000 in
theorem A8(s:ByteArray)(w:World)(hw:KW w):Calls Tryz.prog 119 #[.string s] w (Same w (.bool (di s))):=by
 have HW:=Lib.hid hw;clear hw
 by_cases h0:s.size=0
 ·have H:=Lib.hid (Yn h0)
  have e:=nil_of_size h0
  go_enter Tryz.func119,Tryz.ntmps119
  go_wp2
  go_ret
  exact⟨ed H.out.symm,rfl⟩
 have e:=Md h0
 have e2:s.toList.isEmpty=false:=by cases h:s.toList<;>simp_all
 by_cases h32:32<s.size
 ·have H:=Lib.hid (Ym h32)
  go_enter Tryz.func119,Tryz.ntmps119
  go_wp2
  go_ret
  exact⟨ed H.out.symm,rfl⟩
 have hp:0<s.size:=by omega
 cases hl:mo s[0].toNat
 ·have H:=Lib.hid (Yl hp hl)
  go_enter Tryz.func119,Tryz.ntmps119
  go_wp2_with (go_at_call 178;refine(Fp _ _).mono ?_;rintro e w' ⟨rfl,rfl⟩)
  go_ret
  exact⟨ed H.out.symm,rfl⟩
 have HL:=Lib.hid hl
 go_enter Tryz.func119,Tryz.ntmps119
 go_wp2_with (first | (go_at_call 178;refine(Fp _ _).mono ?_;rintro e w' ⟨rfl,rfl⟩))
 refine(Sw _ _ (by omega)).mono ?_
 rintro e w' ⟨rfl,k,hk,hp1,hp2,rfl⟩
 have HP1:=Lib.hid hp1;clear hp1
 have HP2:=Lib.hid hp2;clear hp2
 by_cases hks:k=s.size
 ·have hb:((k:Int)==(s.size:Int))=true:=by simp[hks]
  have HK:=Lib.hid hks;clear hks
  cases hkw:tQ s
  ·go_wp2_with (first | (go_at_call 181;refine(FB _ _ HW.out).mono ?_;rintro e w' ⟨rfl,rfl⟩))
   go_ret
   exact⟨ed (Yi hp (by omega) HL.out (HK.out▸HP1.out) hkw).symm,rfl⟩
  ·go_wp2_with (first | (go_at_call 181;refine(FB _ _ HW.out).mono ?_;rintro e w' ⟨rfl,rfl⟩))
   go_ret
   exact⟨ed (Yj hkw).symm,rfl⟩
 ·have hb:((k:Int)==(s.size:Int))=false:=by simp;omega
  go_wp2_with (first | (go_at_call 181;refine(FB _ _ HW.out).mono ?_;rintro e w' ⟨rfl,rfl⟩))
  go_ret
  have hlt:k<s.size:=by omega
  exact⟨ed (Yk hlt (HP2.out hlt)).symm,rfl⟩
end Go.Proofs.YtjnbddedmbhiaaaGreatDoor
namespace Go.ak

theorem toList_inj{a b:ByteArray}(h:a.toList=b.toList):a=b:=by
 rw[ByteArray.toList_eq,ByteArray.toList_eq]at h
 exact WideShapes.bytes_inj h
theorem rO{a b:Str}:aD a b=true↔a=b:=by
 unfold aD
 constructor
 ·intro h;exact toList_inj (by simpa using h)
 ·rintro rfl;simp
theorem O0(a:Str):aD a a=true:=rO.2 rfl
theorem FY{l:List Str}{s:Str}:fT l s=true↔s∈l:=by
 unfold fT
 rw[List.any_eq_true]
 constructor
 ·rintro⟨x,hx,h⟩;rw[<-rO.1 h];exact hx
 ·intro h;exact⟨s,h,O0 s⟩
theorem OE(s:Str):∀(h:List ae) (k:Nat),(dE h s=none/\fw s h k = -1)∨∃j,∃hj:j<h.length,fw s h k=(k+j:Nat)/\dE h s=some h[j]/\h[j].name=s
 |[],k=>.inl ⟨rfl,rfl⟩
 |c::h,k=>by
  by_cases e:aD c.name s=true
  ·refine .inr ⟨0,by simp,?_,?_,rO.1 e⟩
   ·show(if aD _ _=true then(k:Int)else _)=_;rw[if_pos e];rfl
   ·unfold dE;simp[e]
  ·have e':fw s (c::h) k=fw s h (k+1):=by
    show(if aD _ _=true then(k:Int)else _)=_;rw[if_neg e]
   have e2:dE (c::h) s=dE h s:=by unfold dE;simp[e]
   rw[e',e2]
   rcases OE s h (k+1)with ⟨h1,h2⟩ | ⟨j,hj,h1,h2,h3⟩
   ·exact .inl ⟨h1,h2⟩
   ·exact .inr ⟨j+1,by simp;omega,by rw[h1];omega,by rw[h2];simp,by simpa using h3⟩
theorem find_spec(h:List ae)(s:Str):(dE h s=none/\aI h s = -1)∨∃j,∃hj:j<h.length,aI h s=j/\dE h s=some h[j]/\h[j].name=s:=by
 rcases OE s h 0 with h1 | ⟨j,hj,h1,h2⟩
 ·exact .inl h1
 ·exact .inr ⟨j,hj,by unfold aI;rw[h1];simp,h2⟩
theorem yt{α:Type}[DecidableEq α]:∀{l m:List α},l.Nodup->(∀x∈l,x∈m)->l.length<=m.length
 |[],_,_,_=>Nat.zero_le _
 |x::l,m,hn,hs=>by
  have hx:x∈m:=hs x (by simp)
  have h1:=List.nodup_cons.1 hn
  have:=yt (l:=l) (m:=m.erase x) h1.2 (fun y hy=>(List.mem_erase_of_ne (show y≠x from fun e=>h1.1 (e▸hy))).2 (hs y (by simp[hy])))
  rw[List.length_erase_of_mem hx]at this
  have hp:0<m.length:=List.length_pos_of_mem hx
  simp;omega
structure mX(h:List ae)(l:List Str):Prop where
 nd:l.Nodup
 all:∀x∈l,∃c,dE h x=some c
theorem y0y{h:List ae}{n:Nat}{s:Str}{l:List Str}(e:dE h s=none):jT h (n+1) s l=(l,false):=by
 unfold jT;rw[e]
theorem y0z{h:List ae}{n:Nat}{s:Str}{l:List Str}{c:ae}(e:dE h s=some c)(hi:fT l s=true):jT h (n+1) s l=(l,true):=by
 unfold jT;rw[e];simp[hi]
theorem y0x{h:List ae}{n:Nat}{s:Str}{l:List Str}{c:ae}(e:dE h s=some c)(hi:fT l s=false)(hr:(c.aO.toList==[])=true):jT h (n+1) s l=(l++[s],false):=by
 have:mJ c.aO=true:=by unfold mJ;simpa using hr
 unfold jT;rw[e];simp[hi,this]
theorem y0w{h:List ae}{n:Nat}{s:Str}{l:List Str}{c:ae}(e:dE h s=some c)(hi:fT l s=false)(hr:(c.aO.toList==[])=false):jT h (n+1) s l=jT h n c.aO (l++[s]):=by
 have:mJ c.aO=false:=by
  unfold mJ
  cases hc:c.aO.toList with
  |nil=>rw[hc]at hr;simp at hr
  |cons=>rfl
 conv=>lhs;unfold jT
 rw[e];simp[hi,this]
theorem WM{h:List ae}{s:Str}{L:List Str}{k:Nat}(hk:k<L.length){c:ae}{g:aH}(e:dE h L[k]=some c)(e2:fE c.methods s=some g):iY h s (L.drop k)=some (L[k],g):=by
 rw[List.drop_eq_getElem_cons hk];unfold iY;rw[e];simp[e2]
theorem WK{h:List ae}{s:Str}{L:List Str}{k:Nat}(hk:k<L.length){c:ae}(e:dE h L[k]=some c)(e2:fE c.methods s=none):iY h s (L.drop k)=iY h s (L.drop (k+1)):=by
 rw[List.drop_eq_getElem_cons hk];conv=>lhs;unfold iY
 rw[e];simp[e2]
theorem Zo{h:List ae}{s:Str}{L:List Str}{k:Nat}(hk:k<L.length){c:ae}{g:bQ}(e:dE h L[k]=some c)(e2:iC c.fields s=some g):kr h s (L.drop k)=some (L[k],g):=by
 rw[List.drop_eq_getElem_cons hk];unfold kr;rw[e];simp[e2]
theorem Zn{h:List ae}{s:Str}{L:List Str}{k:Nat}(hk:k<L.length){c:ae}(e:dE h L[k]=some c)(e2:iC c.fields s=none):kr h s (L.drop k)=kr h s (L.drop (k+1)):=by
 rw[List.drop_eq_getElem_cons hk];conv=>lhs;unfold kr
 rw[e];simp[e2]
end Go.ak
namespace Go.ak

end Go.ak
