/-
  Rows of constraints. (Printed by genrows.py: rows('Cn','Con','Cn',..).)
-/
import Derived.Test.YtjnbddedmbhiaaaGreatDoorPk16
import Derived.Lib.Small
import Derived.Shelf.SlSortCmp.Insertion
namespace Go.ak
structure Cn where
 k:Int
 a:Int
 b:Int
 f:Int
 sa:Option Addr
 sc:Nat
 s:List Int
end Go.ak
namespace Go.Proofs.YtjnbddedmbhiaaaGreatDoor
open Go.RowKit Go.ak Go.AM

def uL(w:World)(a:Option Addr)(l:List Cn):Prop :=
 ∀k (h:k<l.length),∃b off,a=some ⟨b,off,none⟩/\w.cell? ⟨b,off+k*5,none⟩=some (.int .i64 l[k].k)/\w.cell? ⟨b,off+k*5+1,none⟩=some (.int .i64 l[k].a)/\w.cell? ⟨b,off+k*5+2,none⟩=some (.int .i64 l[k].b)/\w.cell? ⟨b,off+k*5+3,none⟩=some (.int .i64 l[k].f)/\w.cell? ⟨b,off+k*5+4,none⟩=some (.slice l[k].sa l[k].s.length l[k].sc)
theorem uL.below{w w':World}{a:Option Addr}{l:List Cn}(h:uL w a l)(hb:Below w.heap.size w w'):uL w' a l:=by
 intro k hk
 obtain⟨b,off,ha,h0,h1,h2,h3,h4⟩:=h k hk
 exact⟨b,off,ha,cell_below hb h0,cell_below hb h1,cell_below hb h2,cell_below hb h3,cell_below hb h4⟩
def eX(e:Cn):List Value:=[.int .i64 e.k,.int .i64 e.a,.int .i64 e.b,.int .i64 e.f,.slice e.sa e.s.length e.sc]
def bE(L:List Cn):List Value:=L.flatMap eX
theorem uf(L:List Cn):(bE L).length=L.length*5:=by
 unfold bE
 rw[List.length_flatMap]
 induction L with
 |nil=>rfl
 |cons x L ih=>rw[List.map_cons,List.sum_cons,ih,List.length_cons];simp[eX];omega
theorem ug:∀(L:List Cn) (j r:Nat) (hj:j<L.length),r<5->(bE L)[j*5+r]? = (eX L[j])[r]?
 |x::L,0,r,_,hr=>by
  show(eX x++bE L)[0*5+r]? = _
  rw[List.getElem?_append_left (by simp[eX];omega)]
  simp
 |x::L,j+1,r,hj,hr=>by
  have ih:=ug L j r (by simpa using hj) hr
  show(eX x++bE L)[(j+1)*5+r]? = _
  rw[List.getElem?_append_right (by simp[eX];omega)]
  have e:(j+1)*5+r-(eX x).length=j*5+r:=by simp[eX];omega
  rw[e,ih]
  simp
theorem Y9(L:List Cn)(e:Cn):bE (L++[e])=bE L++eX e:=by
 unfold bE
 rw[List.flatMap_append]
 simp
theorem NL:(Tryz.prog.info? 60).map (fun i=>(i.zero,i.size,i.bytes))=some (some (.agg #[.int .i64 0,.int .i64 0,.int .i64 0,.int .i64 0,.slice none 0 0]),5,56):=by kernel_rfl
theorem Lc{w:World}{base:Nat}{v:Value}{l:List Cn}{n:Nat}(h:w.ownsRow base 60 5 v n (bE l)):n=l.length/\∃a cap,v = .slice a n cap/\n<=cap/\uL w a l:=by
 have hl:n=l.length:=by have:=h.1;rw[uf]at this;omega
 refine⟨hl,?_⟩
 rcases h.2 with ⟨rfl,h0⟩ | ⟨g,cap,cur,rfl,hb,hh,hn,_,hsz,ht⟩
 ·exact⟨none,0,by rw[h0],by omega,fun k hk=>by omega⟩
 ·refine⟨_,_,rfl,hn,fun k hk=>⟨g,0,rfl,?_,?_,?_,?_,?_⟩⟩
  ·have c:=h.cells (g:=g) rfl (k*5+0) (.int .i64 l[k].k) (by rw[ug l k 0 hk (by omega)];rfl)
   rw[addr_add]at c
   exact c
  ·have c:=h.cells (g:=g) rfl (k*5+1) (.int .i64 l[k].a) (by rw[ug l k 1 hk (by omega)];rfl)
   rw[addr_add]at c
   exact c
  ·have c:=h.cells (g:=g) rfl (k*5+2) (.int .i64 l[k].b) (by rw[ug l k 2 hk (by omega)];rfl)
   rw[addr_add]at c
   exact c
  ·have c:=h.cells (g:=g) rfl (k*5+3) (.int .i64 l[k].f) (by rw[ug l k 3 hk (by omega)];rfl)
   rw[addr_add]at c
   exact c
  ·have c:=h.cells (g:=g) rfl (k*5+4) (.slice l[k].sa l[k].s.length l[k].sc) (by rw[ug l k 4 hk (by omega)];rfl)
   rw[addr_add]at c
   exact c
theorem Am{w:World}{base n d:Nat}{b:Option Addr}{l:List Cn}(h:w.ownsRow base 60 5 (.slice b n d) n (bE l)):n<=d/\uL w b l:=by
 obtain⟨_,a,cap,he,h1,h2⟩:=Lc h
 cases he
 exact⟨h1,h2⟩
theorem y1W{ops:Array Oper}{rest:List Oper}{o:Oper}{a:Act}{Q:Exit->Act->World->Prop}{w:World}(hgd:o.guard=none)(s x:Operand)
 (ho:o.op = .call { callee:=.builtin .append,args:=#[s,x],argTypes:=#[34,34] })
 (base:Nat) (v:Value) (l:List Cn) (hs:a.eval s=v) (hown:w.ownsRow base 60 5 v l.length (bE l))
 (g:Nat) (y:Cn) (hx:a.eval x = .slice (some ⟨g,0,none⟩) 1 1) (hg:ah w g #[.int .i64 y.k,.int .i64 y.a,.int .i64 y.b,.int .i64 y.f,.slice y.sa y.s.length y.sc] 60)
 (hn:l.length<=1000000) (hbase:base<=w.heap.size)
 (h:∀v' w',w'.ownsRow base 60 5 v' (l++[y]).length (bE (l++[y]))->w.grownBy w' v.ownBlock->wpList Tryz.prog ops Q rest (a.put o.dst v') w'):wpList Tryz.prog ops Q (o::rest) a w:=by
 obtain⟨i0,hi,hz0,hz1,hz2⟩:=info_parts NL
 refine wpList_append_own w hgd s x 34 ho base 60 i0 (.agg #[.int .i64 0,.int .i64 0,.int .i64 0,.int .i64 0,.slice none 0 0]) 5 56 Tryz.underlying34 hi hz0 hz1 hz2 rfl (by decide) v l.length (bE l) hs hown ⟨g,0,none⟩ 1 1 [.int .i64 y.k,.int .i64 y.a,.int .i64 y.b,.int .i64 y.f,.slice y.sa y.s.length y.sc] hx rfl ?_ (by intro u hu;simp at hu;rcases hu with rfl | rfl | rfl | rfl | rfl<;>rfl) (by unfold maxLen;omega) (by omega) hbase ?_
 ·intro j u hu
  rw[addr_add,Nat.zero_add,cell_of_row _ _ _ _ _ _ hg]
  simpa using hu
 ·intro v' w' h1 h2 _
  refine h v' w' ?_ h2
  rw[Y9,List.length_append]
  exact h1
end Go.Proofs.YtjnbddedmbhiaaaGreatDoor
namespace Go.Proofs.YtjnbddedmbhiaaaGreatDoor
open Go.RowKit Go.ak Go.AM

structure Sit where
 f:Int
 i:Int
 c:Str
def uX(f i:Nat)(c:Ins):List Sit:=if c.op=6 then [⟨f,i,c.cls⟩]else []
def kT(f:Nat)(code:List Ins)(n:Nat):List Sit:=(List.range n).flatMap (fun i=>code[i]?.elim [] (uX f i))
def iV(fs:List aA)(m:Nat):List Sit:=(List.range m).flatMap (fun f=>fs[f]?.elim [] (fun x=>kT f x.code x.code.length))
theorem Kj{f:Nat}{code:List Ins}{n:Nat}(hn:n<code.length):kT f code (n+1)=kT f code n++uX f n code[n]:=by
 unfold kT;rw[List.range_succ,List.flatMap_append];simp[hn]
theorem Ki{fs:List aA}{m:Nat}(hm:m<fs.length):iV fs (m+1)=iV fs m++kT m fs[m].code fs[m].code.length:=by
 unfold iV;rw[List.range_succ,List.flatMap_append];simp[hm]
theorem Ta(f i:Nat)(c:Ins):(uX f i c).length<=1:=by unfold uX;split<;>simp
theorem Kk{f:Nat}{code:List Ins}:∀{n:Nat},n<=code.length->(kT f code n).length<=n
 |0,_=>by simp[kT]
 |n+1,hn=>by
  rw[Kj (by omega),List.length_append]
  have:=Kk (f:=f) (code:=code) (n:=n) (by omega)
  have:=Ta f n code[n]
  omega
theorem zW{fs:List aA}:∀{m:Nat},m<=fs.length->(iV fs m).length<=lZ (fs.take m)
 |0,_=>by simp[iV]
 |m+1,hm=>by
  rw[Ki (by omega),List.length_append,Dt (by omega)]
  have:=zW (fs:=fs) (m:=m) (by omega)
  have:=Kk (f:=m) (code:=fs[m].code) (n:=fs[m].code.length) (Nat.le_refl _)
  omega
def bL(u:aQ):List Sit:=iV u.fs u.fs.length
def nQ(h:List ae)(sites:List Sit)(c:Str)(i:Nat):Bool:=sites[i]?.elim false (fun s=>jq h s.c c)
def dD(h:List ae)(sites:List Sit)(c:Str):List Int:=fU sites.length (nQ h sites c)
theorem XX{h:List ae}{sites:List Sit}{c:Str}{x:Int}:x∈dD h sites c↔∃(i:Nat) (hi:i<sites.length),x=(i:Int)/\jq h sites[i].c c=true:=by
 unfold dD
 rw[NU]
 constructor
 ·rintro⟨i,hi,hp,rfl⟩
  refine⟨i,hi,rfl,?_⟩
  unfold nQ at hp
  rw[List.getElem?_eq_getElem hi]at hp
  exact hp
 ·rintro⟨i,hi,rfl,hp⟩
  refine⟨i,hi,?_,rfl⟩
  unfold nQ
  rw[List.getElem?_eq_getElem hi]
  exact hp
def qx(h:List ae)(fs:List aA)(c m:Str)(g:Int):Bool:=match dN h c m with
 |some (x,_)=>dM fs x m==g
 |none=>false
def kW(h:List ae)(fs:List aA)(sites:List Sit)(c m:Str)(g:Int):List Int:=if g<0 then []else(dD h sites c).filter (fun x=>sites[x.toNat]?.elim false (fun s=>qx h fs s.c m g))
structure bD where
 s:Int
 f:Str
theorem P7{a b:bD}(h1:a.s=b.s)(h2:a.f=b.f):a=b:=by cases a;cases b;simp_all
instance:DecidableEq bD:=fun a b=>if h:a.s=b.s/\a.f=b.f then isTrue (P7 h.1 h.2)else isFalse (fun e=>h (by rw[e];exact⟨rfl,rfl⟩))
instance:Inhabited bD:=⟨⟨0,⟨#[]⟩⟩⟩
def dB(a b:bD):Prop:=a.s<b.s∨(a.s=b.s/\bl a.f<bl b.f)
instance (a b:bD):Decidable (dB a b):=by unfold dB;exact inferInstance
-- sorted and compacted
-- the cells of a field of sites
instance:Nonempty bD:=⟨⟨0,⟨#[]⟩⟩⟩
end Go.Proofs.YtjnbddedmbhiaaaGreatDoor
namespace Go.Proofs.YtjnbddedmbhiaaaGreatDoor
open Go.RowKit Go.ak

end Go.Proofs.YtjnbddedmbhiaaaGreatDoor
namespace Go.Proofs.YtjnbddedmbhiaaaGreatDoor
open Go.RowKit Go.ak Go.AM

end Go.Proofs.YtjnbddedmbhiaaaGreatDoor
namespace Go.Proofs.YtjnbddedmbhiaaaGreatDoor
open Go.RowKit Go.ak Go.AM Go.Sort

theorem N8{w:World}{g n:Nat}{os:Array Obj}(d:Array Value):w.grownBy (grow (putRow id (Sort.ahead w n) g 0 d) os) (some g):=by
 refine⟨rfl,rfl,rfl,by simp,fun k hk hne=>?_⟩
 rw[heap_grow_old _ _ (by simpa using hk)]
 have:g≠k:=fun e=>hne (by rw[e])
 simp[putRow,mapBlock,Sort.ahead,Array.getElem?_modify,this]
theorem heap_put{w:World}{g n:Nat}{os:Array Obj}{cur:Array Value}{e:TypeId}{fr:Nat × Nat}(d:Array Value)(hb:w.heap[g]? = some (.cells cur e fr)) :
 (grow (putRow id (Sort.ahead w n) g 0 d) os).heap[g]? = some (.cells (putCells id 0 d cur) e fr):=by
 have hg:g<w.heap.size:=(Array.getElem?_eq_some_iff.1 hb).1
 rw[heap_grow_old _ _ (by simpa using hg)]
 simp[putRow,mapBlock,Sort.ahead,Array.getElem?_modify,hb,onCells]
theorem R9(cur:Array Value)(ts:List Value)(h:ts.length<=cur.size):(putCells id 0 ts.toArray cur).toList.take ts.length=ts:=by
 apply List.ext_getElem?
 intro j
 by_cases hj:j<ts.length
 ·rw[List.getElem?_take_of_lt hj,Array.getElem?_toList]
  simp[putCells,hj,show j<cur.size by omega]
 ·rw[List.getElem?_take_eq_none (by omega),List.getElem?_eq_none (by omega)]
theorem UB.grow{u:aQ}{ha:Option Addr}{hc:Nat}{fa:Option Addr}{fc:Nat}{w wr w':World}{row:Option Nat}(k:UB u ha hc fa fc w wr)(h0:ay w ha u.h)(f0:bR w fa u.fs)(hg:wr.grownBy w' row)(hrow:∀q,row=some q->w.heap.size<q):UB u ha hc fa fc w w':=by
 have hb':=k.hb.grown hg k.hb.size (fun q hq=>Nat.le_of_lt (hrow q hq))
 exact⟨hb',k.b1.grown hg (fun e=>by have:=hrow _ e.symm;omega),h0.below hb',f0.below hb'⟩
theorem P5{κ:Type}[DecidableEq κ]{w:World}{b o:Nat}{v:Value}(hc:w.cell? ⟨b,o,none⟩=some v){g:Nat}{enc:κ->Value}{F:κ->Option Value}{n:Nat}(hm:bC w g enc F n):some b≠some g:=by
 obtain⟨l,ar,c,hg,_⟩:=hm.ex
 intro e
 cases e
 simp[World.cell?,hg]at hc

structure GR(W:World) where
 u:World
 h:∃q os,u=grow (W.drewN q) os
theorem GR.below{W:World}(o:GR W):Go.RowKit.Below W.heap.size W o.u:=by
 obtain⟨q,os,e⟩:=o.h
 rw[e]
 exact⟨rfl,rfl,rfl,by simp[grow],fun k hk=>heap_grow_old _ _ (by simpa using hk)⟩

end Go.Proofs.YtjnbddedmbhiaaaGreatDoor
namespace Go.Proofs.YtjnbddedmbhiaaaGreatDoor
open Go.RowKit Go.ak Go.AM

theorem Ba{a b c:World}{row:Option Nat}(hg:a.grownBy b row)(hb:Below b.heap.size b c):a.grownBy c row :=
 ⟨hb.os.trans hg.os,hb.tape.trans hg.tape,hb.output.trans hg.output,Nat.le_trans hg.size hb.size,fun k hk hne=>(hb.block k (Nat.lt_of_lt_of_le hk hg.size)).trans (hg.block k hk hne)⟩
theorem N7{a b c:World}{row row2:Option Nat}(hg:a.grownBy b row)(hh:b.grownBy c row2)(hr:∀q,row2=some q->a.heap.size<=q∨row=some q):a.grownBy c row :=
 ⟨hh.os.trans hg.os,hh.tape.trans hg.tape,hh.output.trans hg.output,Nat.le_trans hg.size hh.size,fun k hk hne=>(hh.block k (Nat.lt_of_lt_of_le hk hg.size) (fun e=>by
   rcases hr k e.symm with h | h
   ·omega
   ·exact hne h.symm)).trans (hg.block k hk hne)⟩
def iQ(w:World)(a:Option Addr)(l:List Sit):Prop :=
 ∀k (h:k<l.length),∃b off,a=some ⟨b,off,none⟩/\w.cell? ⟨b,off+k*3,none⟩=some (.int .i64 l[k].f)/\w.cell? ⟨b,off+k*3+1,none⟩=some (.int .i64 l[k].i)/\w.cell? ⟨b,off+k*3+2,none⟩=some (.string l[k].c)
theorem iQ.below{w w':World}{a:Option Addr}{l:List Sit}(h:iQ w a l)(hb:Below w.heap.size w w'):iQ w' a l:=by
 intro k hk
 obtain⟨b,off,ha,h0,h1,h2⟩:=h k hk
 exact⟨b,off,ha,cell_below hb h0,cell_below hb h1,cell_below hb h2⟩
def encS(e:Sit):List Value:=[.int .i64 e.f,.int .i64 e.i,.string e.c]
def eT(L:List Sit):List Value:=L.flatMap encS
theorem Y6(L:List Sit):(eT L).length=L.length*3:=by
 unfold eT
 rw[List.length_flatMap]
 induction L with
 |nil=>rfl
 |cons x L ih=>rw[List.map_cons,List.sum_cons,ih,List.length_cons];simp[encS];omega
theorem Bi:∀(L:List Sit) (j r:Nat) (hj:j<L.length),r<3->(eT L)[j*3+r]? = (encS L[j])[r]?
 |x::L,0,r,_,hr=>by
  show(encS x++eT L)[0*3+r]? = _
  rw[List.getElem?_append_left (by simp[encS];omega)]
  simp
 |x::L,j+1,r,hj,hr=>by
  have ih:=Bi L j r (by simpa using hj) hr
  show(encS x++eT L)[(j+1)*3+r]? = _
  rw[List.getElem?_append_right (by simp[encS];omega)]
  have e:(j+1)*3+r-(encS x).length=j*3+r:=by simp[encS];omega
  rw[e,ih]
  simp
theorem Y7(L:List Sit)(e:Sit):eT (L++[e])=eT L++encS e:=by
 unfold eT
 rw[List.flatMap_append]
 simp
theorem X4:(Tryz.prog.info? 101).map (fun i=>(i.zero,i.size,i.bytes))=some (some (.agg #[.int .i64 0,.int .i64 0,.string ⟨#[]⟩]),3,32):=by kernel_rfl
theorem DU{w:World}{base:Nat}{v:Value}{l:List Sit}{n:Nat}(h:w.ownsRow base 101 3 v n (eT l)):n=l.length/\∃a cap,v = .slice a n cap/\n<=cap/\iQ w a l:=by
 have hl:n=l.length:=by have:=h.1;rw[Y6]at this;omega
 refine⟨hl,?_⟩
 rcases h.2 with ⟨rfl,h0⟩ | ⟨g,cap,cur,rfl,hb,hh,hn,_,hsz,ht⟩
 ·exact⟨none,0,by rw[h0],by omega,fun k hk=>by omega⟩
 ·refine⟨_,_,rfl,hn,fun k hk=>⟨g,0,rfl,?_,?_,?_⟩⟩
  ·have c:=h.cells (g:=g) rfl (k*3+0) (.int .i64 l[k].f) (by rw[Bi l k 0 hk (by omega)];rfl)
   rw[addr_add]at c
   exact c
  ·have c:=h.cells (g:=g) rfl (k*3+1) (.int .i64 l[k].i) (by rw[Bi l k 1 hk (by omega)];rfl)
   rw[addr_add]at c
   exact c
  ·have c:=h.cells (g:=g) rfl (k*3+2) (.string l[k].c) (by rw[Bi l k 2 hk (by omega)];rfl)
   rw[addr_add]at c
   exact c
theorem Lb{w:World}{base n d:Nat}{b:Option Addr}{l:List Sit}(h:w.ownsRow base 101 3 (.slice b n d) n (eT l)):n<=d/\iQ w b l:=by
 obtain⟨_,a,cap,he,h1,h2⟩:=DU h
 cases he
 exact⟨h1,h2⟩
theorem y1V{ops:Array Oper}{rest:List Oper}{o:Oper}{a:Act}{Q:Exit->Act->World->Prop}{w:World}(hgd:o.guard=none)(s x:Operand)
 (ho:o.op = .call { callee:=.builtin .append,args:=#[s,x],argTypes:=#[74,74] })
 (base:Nat) (v:Value) (l:List Sit) (hs:a.eval s=v) (hown:w.ownsRow base 101 3 v l.length (eT l))
 (g:Nat) (y:Sit) (hx:a.eval x = .slice (some ⟨g,0,none⟩) 1 1) (hg:ah w g #[.int .i64 y.f,.int .i64 y.i,.string y.c] 101)
 (hn:l.length<=1000000) (hbase:base<=w.heap.size)
 (h:∀v' w',w'.ownsRow base 101 3 v' (l++[y]).length (eT (l++[y]))->w.grownBy w' v.ownBlock->wpList Tryz.prog ops Q rest (a.put o.dst v') w'):wpList Tryz.prog ops Q (o::rest) a w:=by
 obtain⟨i0,hi,hz0,hz1,hz2⟩:=info_parts X4
 refine wpList_append_own w hgd s x 74 ho base 101 i0 (.agg #[.int .i64 0,.int .i64 0,.string ⟨#[]⟩]) 3 32 Tryz.underlying74 hi hz0 hz1 hz2 rfl (by decide) v l.length (eT l) hs hown ⟨g,0,none⟩ 1 1 [.int .i64 y.f,.int .i64 y.i,.string y.c] hx rfl ?_ (by intro u hu;simp at hu;rcases hu with rfl | rfl | rfl<;>rfl) (by unfold maxLen;omega) (by omega) hbase ?_
 ·intro j u hu
  rw[addr_add,Nat.zero_add,cell_of_row _ _ _ _ _ _ hg]
  simpa using hu
 ·intro v' w' h1 h2 _
  refine h v' w' ?_ h2
  rw[Y7,List.length_append]
  exact h1
end Go.Proofs.YtjnbddedmbhiaaaGreatDoor
namespace Go.Proofs.YtjnbddedmbhiaaaGreatDoor
open Go.RowKit Go.ak Go.AM Go.Sort

end Go.Proofs.YtjnbddedmbhiaaaGreatDoor
namespace Go.Proofs.YtjnbddedmbhiaaaGreatDoor
open Go.RowKit Go.ak Go.AM

end Go.Proofs.YtjnbddedmbhiaaaGreatDoor
