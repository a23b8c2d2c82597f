/-
  Strings as lists of bytes; a row of one's own behind a call.
  Plain: call edges, their graph, and what they reach.
  Maps: how many entries there are, and how many are still to come, as numbers that the world tells.
  Call edges and edges in memory; rows of one's own that are told apart.
-/
import Derived.Test.YtffcklfigpmlgaaGreatDoorWA
import Derived.Sort.OwnSorted
import Derived.Lib.SlicesCompact
import Derived.Test.YtffcklfigpmlgaaGreatDoorUA
import Derived.Test.YtffcklfigpmlgaaGreatDoorMP
import Derived.Test.YtffcklfigpmlgaaGreatDoorTA
import Derived.Test.YtffcklfigpmlgaaGreatDoorWF
import Derived.Sort.OwnSortedInts
namespace Go.Proofs.YtffcklfigpmlgaaGreatDoor
open Go.RowKit Go.Unit0 Go.Sort

def bl (b:ByteArray):List UInt8:=b.data.toList
def mkB (l:List UInt8):ByteArray:=⟨l.toArray⟩
theorem mkB_bl (b:ByteArray):mkB (bl b)=b:=by cases b;rfl
theorem bl_mkB (l:List UInt8):bl (mkB l)=l:=rfl
theorem enc_mkB (l:List UInt8):encStr l = .string (mkB l):=rfl
theorem strs_enc (l:List ByteArray):l.map Value.string=(l.map bl).map encStr:=by
 rw [List.map_map]
 refine List.map_congr_left fun b _=>?_
 show Value.string b=encStr (bl b)
 rw [enc_mkB,mkB_bl]
theorem enc_strs (l:List (List UInt8)):l.map encStr=(l.map mkB).map Value.string:=by
 rw [List.map_map];rfl
def sortB (l:List ByteArray):List ByteArray:=((l.map bl).mergeSort fun x y=>decide (x≤y)).map mkB
def compB (l:List ByteArray):List ByteArray:=(Lib.compact (l.map bl)).map mkB
theorem sortB_len (l:List ByteArray):(sortB l).length=l.length:=by simp [sortB]
structure RowOut (w0 w:World) (l:List ByteArray) (a:Option Addr) (c:Nat) (w':World):Prop where
 hb:Below w0.heap.size w0 w'
 ow:w'.ownsRow w0.heap.size 9 1 (.slice a l.length c) l.length (l.map Value.string)
 fr:∀ g cs t,Blk w g cs t→t ≠ 9→Blk w' g cs t
theorem owns_take {w:World} {base e n m c:Nat} {a:Option Addr} {xs:List Value} (h:w.ownsRow base e 1 (.slice a n c) n xs) (hm:m≤n) (ha:a ≠ none):w.ownsRow base e 1 (.slice a m c) m (xs.take m):=by
 obtain ⟨h1,h2⟩:=h
 refine ⟨by rw [List.length_take];omega,?_⟩
 rcases h2 with ⟨e1,h0⟩ | ⟨g,cap,cur,e1,hbase,hh,hn,hcap,hsz,ht⟩
 ·cases e1;exact absurd rfl ha
 ·cases e1
  refine .inr ⟨g,c,cur,rfl,hbase,hh,by omega,hcap,hsz,?_⟩
  rw [← ht,List.take_take]
  congr 1
  omega
end Go.Proofs.YtffcklfigpmlgaaGreatDoor
namespace Go.Unit0
structure Cal where
 f:Int
 i:Int
 c:Int
abbrev Edg:=Int × Int
def rightC (n:Nat) (e:Cal):Bool:=decide (0≤e.f∧e.f < n∧0≤e.c∧e.c < n)
theorem rightC_iff {n:Nat} {e:Cal}:rightC n e=true ↔ 0≤e.f∧e.f < n∧0≤e.c∧e.c < n:=by simp [rightC]
theorem ord_unique {α:Type} {lt:α→α→Prop} (hi:∀ a,¬ lt a a) (ht:∀ a b c,lt a b→lt b c→lt a c):∀ (a b:List α),a.Pairwise lt→b.Pairwise lt→(∀ x,x ∈ a ↔ x ∈ b)→a=b
 | [],[],_,_,_=>rfl
 | [],y :: b,_,_,h=>absurd ((h y).2 (by simp)) (by simp)
 | x :: a,[],_,_,h=>absurd ((h x).1 (by simp)) (by simp)
 | x :: a,y :: b,ha,hb,h=>by
   rw [List.pairwise_cons] at ha hb
   have hxy:x=y:=by
    rcases List.mem_cons.1 ((h x).1 (by simp)) with e | e
    ·exact e
    ·rcases List.mem_cons.1 ((h y).2 (by simp)) with e2 | e2
     ·exact e2.symm
     ·exact absurd (ht _ _ _ (hb.1 x e) (ha.1 y e2)) (hi _)
   subst hxy
   rw [ord_unique hi ht a b ha.2 hb.2 fun z=>?_]
   constructor
   ·intro hz
    rcases List.mem_cons.1 ((h z).1 (List.mem_cons_of_mem _ hz)) with e | e
    ·subst e;exact absurd (ha.1 z hz) (hi _)
    ·exact e
   ·intro hz
    rcases List.mem_cons.1 ((h z).2 (List.mem_cons_of_mem _ hz)) with e | e
    ·subst e;exact absurd (hb.1 z hz) (hi _)
    ·exact e
-- edges in order
def ltE (a b:Edg):Prop:=a.1 < b.1 ∨ (a.1=b.1∧a.2 < b.2)
def edgeIn (n:Nat) (l:List Cal) (e:Edg):Prop:=∃ c ∈ l,rightC n c=true∧e=(c.f,c.c)
theorem edgeIn.range {n:Nat} {l:List Cal} {e:Edg} (h:edgeIn n l e):0≤e.1∧e.1 < n∧0≤e.2∧e.2 < n:=by
 obtain ⟨c,_,hr,rfl⟩:=h
 exact rightC_iff.1 hr
def GraphL (n:Nat) (l:List Cal) (L:List Edg):Prop:=L.Pairwise ltE∧∀ e,e ∈ L ↔ edgeIn n l e
-- what is reached
inductive Rch (n:Nat) (l:List Cal) (S:Int→Prop):Int→Prop
 | base {x:Int}:S x→Rch n l S x
 | step {c:Cal}:c ∈ l→rightC n c=true→Rch n l S c.f→Rch n l S c.c
def mainS (n:Nat) (m x:Int):Prop:=x=m∧0≤m∧m < n
theorem Rch.range {n:Nat} {l:List Cal} {S:Int→Prop} (hS:∀ x,S x→0≤x∧x < n) {x:Int} (h:Rch n l S x):0≤x∧x < n:=by
 induction h with
 | base h=>exact hS _ h
 | step _ hr _ _=>have:=rightC_iff.1 hr;exact ⟨this.2.2.1,this.2.2.2⟩
theorem Rch.congr {n:Nat} {l:List Cal} {S T:Int→Prop} (h:∀ x,S x ↔ T x) (x:Int):Rch n l S x ↔ Rch n l T x:=by
 constructor
 ·intro k
  induction k with
  | base h0=>exact .base ((h _).1 h0)
  | step hc hr _ ih=>exact .step hc hr ih
 ·intro k
  induction k with
  | base h0=>exact .base ((h _).2 h0)
  | step hc hr _ ih=>exact .step hc hr ih
-- marks
def At (bs:List Bool) (x:Int):Prop:=0≤x∧bs[x.toNat]? = some true
theorem at_set {bs:List Bool} {k:Nat} (hk:k < bs.length) (x:Int):At (bs.set k true) x ↔ x=k ∨ At bs x:=by
 unfold At
 rw [List.getElem?_set]
 constructor
 ·rintro ⟨h0,h1⟩
  by_cases e:k=x.toNat
  ·left;omega
  ·rw [if_neg e] at h1;exact .inr ⟨h0,h1⟩
 ·rintro (rfl | ⟨h0,h1⟩)
  ·refine ⟨by omega,?_⟩
   rw [if_pos (by omega),if_pos hk]
  ·refine ⟨h0,?_⟩
   by_cases e:k=x.toNat
   ·rw [if_pos e,if_pos hk]
   ·rw [if_neg e];exact h1
def cntF (bs:List Bool):Nat:=bs.count false
theorem cntF_set:∀ {bs:List Bool} {k:Nat},bs[k]? = some false→cntF (bs.set k true) + 1=cntF bs
 | [],k,h=>by simp at h
 | b :: bs,0,h=>by
   simp at h
   subst h
   simp [cntF]
 | b :: bs,k + 1,h=>by
   have ih:=cntF_set (bs:=bs) (k:=k) (by simpa using h)
   unfold cntF at *
   rw [List.set_cons_succ,List.count_cons,List.count_cons]
   omega
def markT (bs:List Bool) (k:Nat):List Int:=((List.range k).filter (fun i=>bs[i]? == some true)).map (fun i:Nat=>(i:Int))
def marked (bs:List Bool):List Int:=markT bs bs.length
theorem markT_len (bs:List Bool) (k:Nat):(markT bs k).length≤k:=by
 unfold markT
 rw [List.length_map]
 exact Nat.le_trans (List.length_filter_le _ _) (by simp)
theorem mem_marked {bs:List Bool} {x:Int}:x ∈ marked bs ↔ At bs x:=by
 unfold marked markT At
 simp only [List.mem_map,List.mem_filter,List.mem_range]
 constructor
 ·rintro ⟨i,⟨hi,h⟩,rfl⟩
  exact ⟨by omega,by simpa using h⟩
 ·rintro ⟨h0,h1⟩
  exact ⟨x.toNat,⟨(List.getElem?_eq_some_iff.1 h1).1,by simpa using h1⟩,by omega⟩
theorem marked_lt (bs:List Bool):(marked bs).Pairwise (· < ·):=by
 unfold marked markT
 rw [List.pairwise_map]
 exact (List.pairwise_lt_range.filter _).imp (fun h=>Int.ofNat_lt.2 h)
-- closures of marks
structure CI (n:Nat) (l:List Cal) (bs bs':List Bool):Prop where
 len:bs'.length=bs.length
 mono:∀ x,At bs x→At bs' x
 min:∀ x,At bs' x→Rch n l (At bs) x
theorem CI.refl (n:Nat) (l:List Cal) (bs:List Bool):CI n l bs bs:=⟨rfl,fun _ h=>h,fun _ h=>.base h⟩
theorem CI.step {n:Nat} {l:List Cal} {bs bs':List Bool} {c:Cal} (h:CI n l bs bs') (hc:c ∈ l) (hr:rightC n c=true) (hn:bs.length=n) (ha:At bs' c.f):CI n l bs (bs'.set c.c.toNat true):=by
 have hr':=rightC_iff.1 hr
 have hk:c.c.toNat < bs'.length:=by rw [h.len];omega
 refine ⟨by rw [List.length_set,h.len],fun x hx=>(at_set hk x).2 (.inr (h.mono x hx)),fun x hx=>?_⟩
 rcases (at_set hk x).1 hx with e | e
 ·obtain rfl:x=c.c:=by omega
  exact .step hc hr (h.min _ ha)
 ·exact h.min _ e
def ClosedB (n:Nat) (l:List Cal) (bs:List Bool):Prop:=∀ c ∈ l,rightC n c=true→At bs c.f→At bs c.c
theorem ClosedB.nil (n:Nat) (bs:List Bool):ClosedB n [] bs:=fun _ h=>by cases h
theorem ClosedB.snoc {n:Nat} {l:List Cal} {c:Cal} {bs:List Bool} (h:ClosedB n l bs) (hc:rightC n c=true→At bs c.f→At bs c.c):ClosedB n (l ++ [c]) bs:=fun d hd=>by
 rcases List.mem_append.1 hd with hd | hd
 ·exact h d hd
 ·rw [List.mem_singleton.1 hd];exact hc
theorem CI.done {n:Nat} {l:List Cal} {bs bs':List Bool} (h:CI n l bs bs') (hc:ClosedB n l bs') (x:Int):At bs' x ↔ Rch n l (At bs) x:=⟨h.min x,fun hx=>by
 induction hx with
 | base h0=>exact h.mono _ h0
 | step hcm hr _ ih=>exact hc _ hcm hr ih⟩
-- the reference's graph
def RowA (n:Nat) (l:List Cal) (a:Int) (bs:List Bool):Prop:=bs.length=n∧∀ x,At bs x ↔ ∃ c ∈ l,rightC n c=true∧c.f=a∧c.c=x
structure GI (n:Nat) (l:List Cal) (a:Nat) (L:List Edg):Prop where
 st:L.Pairwise ltE
 mem:∀ e,e ∈ L ↔ edgeIn n l e∧e.1 < a
 len:L.length≤a * n
theorem GI.nil (n:Nat) (l:List Cal):GI n l 0 []:=by
 refine ⟨.nil,fun e=>⟨fun h=>absurd h List.not_mem_nil,fun h=>?_⟩,by simp⟩
 have h2:=h.1.range
 have h3:=h.2
 omega
theorem GI.step {n:Nat} {l:List Cal} {a:Nat} {L:List Edg} {bs:List Bool} (h:GI n l a L) (hr:RowA n l a bs):GI n l (a + 1) (L ++ (marked bs).map (fun b=>((a:Int),b))):=by
 refine ⟨?_,fun e=>?_,?_⟩
 ·rw [List.pairwise_append]
  refine ⟨h.st,?_,fun x hx y hy=>?_⟩
  ·rw [List.pairwise_map]
   exact (marked_lt bs).imp (fun h=>.inr ⟨rfl,h⟩)
  ·obtain ⟨b,_,rfl⟩:=List.mem_map.1 hy
   exact .inl ((h.mem x).1 hx).2
 ·rw [List.mem_append,h.mem e,List.mem_map]
  constructor
  ·rintro (⟨h1,h2⟩ | ⟨b,hb,rfl⟩)
   ·exact ⟨h1,by omega⟩
   ·obtain ⟨c,hc,h1,h2,h3⟩:=(hr.2 b).1 (mem_marked.1 hb)
    exact ⟨⟨c,hc,h1,by rw [h2,h3]⟩,by show (a:Int) < _;omega⟩
  ·rintro ⟨h1,h2⟩
   by_cases e1:e.1 < a
   ·exact .inl ⟨h1,e1⟩
   ·obtain ⟨c,hc,hr',rfl⟩:=h1
    have e2:c.f=a:=by have:c.f < ((a + 1:Nat):Int):=h2;have:¬ c.f < (a:Int):=e1;omega
    exact .inr ⟨c.c,mem_marked.2 ((hr.2 _).2 ⟨c,hc,hr',e2,rfl⟩),by rw [e2]⟩
 ·rw [List.length_append,List.length_map,Nat.add_mul]
  have h1:=markT_len bs bs.length
  have h2:=hr.1
  have h3:=h.len
  have h4:(marked bs).length≤bs.length:=h1
  omega
theorem GI.done {n:Nat} {l:List Cal} {L:List Edg} (h:GI n l n L):GraphL n l L:=⟨h.st,fun e=>(h.mem e).trans ⟨fun h=>h.1,fun h=>⟨h,h.range.2.1⟩⟩⟩
-- the program's lists of callees
-- the program's search
structure RI (n:Nat) (l:List Cal) (m:Int) (S T:List Int):Prop where
 nd:S.Nodup
 sub:∀ x ∈ T,x ∈ S
 rch:∀ x ∈ S,Rch n l (mainS n m) x
 base:m ∈ S
theorem RI.start {n:Nat} {l:List Cal} {m:Int} (h0:0≤m) (h1:m < n):RI n l m [m] [m]:=⟨by simp,fun _ h=>h,fun x hx=>by rw [List.mem_singleton.1 hx];exact .base ⟨rfl,h0,h1⟩,by simp⟩
def ClosT (n:Nat) (l:List Cal) (S:List Int) (T:Int→Prop):Prop:=∀ c ∈ l,rightC n c=true→c.f ∈ S→¬ T c.f→c.c ∈ S
theorem RI.range {n:Nat} {l:List Cal} {m:Int} {S T:List Int} (h:RI n l m S T) {x:Int} (hx:x ∈ S):0≤x∧x < n:=(h.rch x hx).range (fun _ h=>by obtain ⟨rfl,h1,h2⟩:=h;exact ⟨h1,h2⟩)
theorem RI.done {n:Nat} {l:List Cal} {m:Int} {S:List Int} (h:RI n l m S []) (hc:ClosT n l S (fun _=>False)) (x:Int):x ∈ S ↔ Rch n l (mainS n m) x:=⟨h.rch x,fun hx=>by
 induction hx with
 | base hb=>rw [hb.1];exact h.base
 | step hcm hr _ ih=>exact hc _ hcm hr ih (fun h=>h)⟩
end Go.Unit0
namespace Go.AM
open Go.RowKit
section
variable {κ:Type} [DecidableEq κ]
end
section
variable {P:Program} {κ:Type} [DecidableEq κ] {ops:Array Oper} {rest:List Oper} {o:Oper} {a:Act} {Q:Exit→Act→World→Prop} {w:World}
end
end Go.AM
namespace Go.Proofs.YtffcklfigpmlgaaGreatDoor
open Go.RowKit Go.Unit0 Go.AM

def CalsAt (w:World) (a:Option Addr) (l:List Cal):Prop :=
 ∀ k (h:k < l.length),∃ b off,a=some ⟨b,off,none⟩∧w.cell? ⟨b,off + k * 3,none⟩=some (.int .i64 l[k].f)∧w.cell? ⟨b,off + k * 3 + 1,none⟩=some (.int .i64 l[k].i)∧w.cell? ⟨b,off + k * 3 + 2,none⟩=some (.int .i64 l[k].c)
theorem CalsAt.below {w w':World} {a:Option Addr} {l:List Cal} (h:CalsAt w a l) (hb:Below w.heap.size w w'):CalsAt w' a l:=by
 intro k hk
 obtain ⟨b,off,ha,h0,h1,h2⟩:=h k hk
 exact ⟨b,off,ha,cell_below hb h0,cell_below hb h1,cell_below hb h2⟩
def EdgsAt (w:World) (a:Option Addr) (l:List Edg):Prop :=
 ∀ k (h:k < l.length),∃ b off,a=some ⟨b,off,none⟩∧w.cell? ⟨b,off + k * 2,none⟩=some (.int .i64 l[k].1)∧w.cell? ⟨b,off + k * 2 + 1,none⟩=some (.int .i64 l[k].2)
theorem EdgsAt.below {w w':World} {a:Option Addr} {l:List Edg} (h:EdgsAt w a l) (hb:Below w.heap.size w w'):EdgsAt w' a l:=by
 intro k hk
 obtain ⟨b,off,ha,h0,h1⟩:=h k hk
 exact ⟨b,off,ha,cell_below hb h0,cell_below hb h1⟩
theorem owns_ints' {w:World} {base n d:Nat} {b:Option Addr} {l:List Int} (h:w.ownsRow base 3 1 (.slice b n d) n (l.map intV)):n≤d∧IntsAt w b l:=by
 obtain ⟨_,a,cap,he,h1,h2⟩:=owns_ints h
 cases he
 exact ⟨h1,h2⟩
theorem append_fresh (w:World) (base:Nat) (t ty e:TypeId) (i:TypeInfo) (z:Value) (size bytes:Nat) (ht:Tryz.prog.underlying t=some (.slice e)) (hi:Tryz.prog.info? e=some i) (hz:i.zero=some z)
 (hsize:i.size=size) (hby:i.bytes=bytes)
 (v:Value) (n:Nat) (xs:List Value) (hown:w.ownsRow base e size v n xs)
 (a:Addr) (m c:Nat) (hm:0 < m) (news:List Value) (hl:news.length=m * size) (hnews:∀ j u,news[j]? = some u→w.cell? (a.add j)=some u) (h1:∀ u ∈ news,u.oneCell' = true)
 (h63:n + m≤maxLen) (hbytes:(n + m) * bytes≤140737488355328) {v':Value} {w':World} (hr:(Builtin.append_ #[t,t] ty #[v,.slice (some a) m c]).run Tryz.prog w = .ok v' w') :
 v'.ownBlock=v.ownBlock ∨ v'.ownBlock=some w.heap.size:=by
 subst hsize
 subst hby
 have hsmall:n + m≤9223372036854775807:=by simp only [maxLen] at h63;omega
 rcases hown.2 with ⟨rfl,rfl⟩ | ⟨g,cap,cur,rfl,hbg,hg,hnc,hcm,hcs,htake⟩
 ·have h:=run_append_nil (P:=Tryz.prog) w t ty e i z ht hi hz a m c news hl hnews hm (by omega) (by have hb:=hbytes;simp only [Nat.zero_add] at hb;omega)
  rw [h] at hr
  cases hr
  exact .inr rfl
 ·by_cases hroom:n + m≤cap
  ·have h:=run_append_room (P:=Tryz.prog) w t ty e i ht hi g n cap cur hg a m c news hl hnews h1 hroom (by rw [hl,hcs,← Nat.add_mul];exact Nat.mul_le_mul_right _ hroom)
   rw [h] at hr
   cases hr
   exact .inl rfl
  ·have holds:∀ j u,xs[j]? = some u→w.cell? ((⟨g,0,none⟩:Addr).add j)=some u:=hown.cells (g:=g) rfl
   have h:=run_append_grow (P:=Tryz.prog) w t ty e i z ht hi hz ⟨g,0,none⟩ n cap xs hown.1 holds a m c news hl hnews (by omega) (by omega) (growslice_fits (by omega) hbytes)
   rw [h] at hr
   cases hr
   exact .inr rfl
theorem app_intF {ops:Array Oper} {rest:List Oper} {o:Oper} {a:Act} {Q:Exit→Act→World→Prop} {w:World} (hgd:o.guard=none) (s x:Operand)
 (ho:o.op = .call { callee:=.builtin .append,args:=#[s,x],argTypes:=#[28,28] })
 (base:Nat) (v:Value) (l:List Int) (hs:a.eval s=v) (hown:w.ownsRow base 3 1 v l.length (l.map intV))
 (g:Nat) (y:Int) (hx:a.eval x = .slice (some ⟨g,0,none⟩) 1 1) (hg:Blk w g #[.int .i64 y] 3)
 (hn:l.length≤1000000) (hbase:base≤w.heap.size)
 (h:∀ v' w',w'.ownsRow base 3 1 v' (l ++ [y]).length ((l ++ [y]).map intV)→w.grownBy w' v.ownBlock→(v'.ownBlock=v.ownBlock ∨ v'.ownBlock=some w.heap.size)→wpList Tryz.prog ops Q rest (a.put o.dst v') w'):wpList Tryz.prog ops Q (o :: rest) a w:=by
 obtain ⟨i0,hi,hz0,hz1,hz2⟩:=info_parts infoI
 refine wpList_plain hgd fun K hK=>?_
 have hnews:∀ j u,[intV y][j]? = some u→w.cell? ((⟨g,0,none⟩:Addr).add j)=some u:=by
  intro j u hu
  rw [addr_add,Nat.zero_add,cell_of_row _ _ _ _ _ _ hg]
  simpa [intV] using hu
 have h1:∀ u ∈ [intV y],u.oneCell' = true:=by intro u hu;rw [List.mem_singleton.1 hu];rfl
 obtain ⟨v',w',hr,h2,h3,_⟩:=run_append_own (P:=Tryz.prog) w base 28 o.type 3 i0 (.int .i64 0) 1 8 Tryz.underlying28 hi hz0 hz1 hz2 rfl (by decide) v l.length (l.map intV) hown ⟨g,0,none⟩ 1 1 [intV y] rfl hnews h1 (by unfold maxLen;omega) (by omega) hbase
 have h4:=append_fresh w base 28 o.type 3 i0 (.int .i64 0) 1 8 Tryz.underlying28 hi hz0 hz1 hz2 v l.length (l.map intV) hown ⟨g,0,none⟩ 1 1 (by omega) [intV y] rfl hnews h1 (by unfold maxLen;omega) (by omega) hr
 unfold Oper.wp execOp
 simp only [ho,resolve,invoke,builtin,Sem.run_bind,Sem.run_pure,Result.andThen_ok,List.map_toArray,List.map_cons,List.map_nil,hs,hx,hr]
 refine hK _ _ (h v' w' ?_ h3 h4)
 rw [List.map_append,List.length_append]
 exact h2
theorem blk_of_full {w:World} {base:Nat} {e:TypeId} {g n:Nat} {xs:List Value} (h:w.ownsRow base e 1 (.slice (some ⟨g,0,none⟩) n n) n xs):Blk w g xs.toArray e:=by
 rcases h.2 with ⟨he,_⟩ | ⟨g',cap,cur,he,_,hh,_,_,hsz,ht⟩
 ·cases he
 ·cases he
  unfold Blk
  rw [hh]
  have:cur=xs.toArray:=by
   apply Array.ext'
   rw [← ht,List.take_of_length_le (by rw [Array.length_toList,hsz];exact Nat.le_refl _)]
  rw [this]
structure AdjV (w:World) (base B:Nat) (ls:List (List Int)) (vs:List Value):Prop where
 ln:vs.length=ls.length
 bk:Blk w B vs.toArray 28
 ow:∀ (i:Nat) (h:i < vs.length) (h':i < ls.length),w.ownsRow base 3 1 vs[i] ls[i].length (ls[i].map intV)
 ap:∀ (i j:Nat) (hi:i < vs.length) (hj:j < vs.length) (g:Nat),i ≠ j→vs[i].ownBlock=some g→vs[j].ownBlock ≠ some g
theorem AdjV.below {w w':World} {base B:Nat} {ls:List (List Int)} {vs:List Value} (h:AdjV w base B ls vs) (hb:Below w.heap.size w w'):AdjV w' base B ls vs :=
 ⟨h.ln,h.bk.below hb,fun i hi hi'=>owns_below (h.ow i hi hi') hb,h.ap⟩
theorem AdjV.start {w:World} {base B n:Nat} (hb:Blk w B (List.replicate n (Value.slice none 0 0)).toArray 28):AdjV w base B (List.replicate n []) (List.replicate n (.slice none 0 0)) :=
 ⟨by simp,hb,fun i hi hi'=>by
   have e1:(List.replicate n (Value.slice none 0 0))[i] = .slice none 0 0:=by simp
   have e2:(List.replicate n ([]:List Int))[i] = []:=by simp
   rw [e1,e2]
   exact World.ownsRow_nil _ _ _ _,fun i j hi hj g _ e=>by
   have e1:(List.replicate n (Value.slice none 0 0))[i] = .slice none 0 0:=by simp
   rw [e1] at e
   simp [Value.ownBlock] at e⟩
theorem AdjV.put {w w1:World} {base B:Nat} {ls:List (List Int)} {vs:List Value} (h:AdjV w base B ls vs) (hB:B < base) {f:Nat} (hf:f < vs.length) (hf':f < ls.length) {v':Value} {y:Int}
 (_hbase:base≤w.heap.size) (ow:w1.ownsRow base 3 1 v' (ls[f] ++ [y]).length ((ls[f] ++ [y]).map intV)) (hg:w.grownBy w1 vs[f].ownBlock) (hfr:v'.ownBlock=vs[f].ownBlock ∨ v'.ownBlock=some w.heap.size) :
 AdjV (w1.setCell ⟨B,f,none⟩ v') base B (ls.set f (ls[f] ++ [y])) (vs.set f v'):=by
 have hne:∀ (v:Value) (n:Nat) (xs:List Value) (u:World),u.ownsRow base 3 1 v n xs→v.ownBlock ≠ some B:=fun v n xs u ho e=>by have:=(ho.lt B e).1;omega
 have bk1:Blk w1 B vs.toArray 28:=h.bk.grown hg (fun e=>hne _ _ _ _ (h.ow f hf hf') e.symm)
 refine ⟨by simp [h.ln],?_,fun i hi hi'=>?_,fun i j hi hj g hij=>?_⟩
 ·have:=bk1.set f v'
  simpa using this
 ·have hi1:i < vs.length:=by simpa using hi
  have hi2:i < ls.length:=by simpa using hi'
  rw [List.getElem_set,List.getElem_set]
  by_cases e:f=i
  ·rw [if_pos e,if_pos e]
   exact ownsRow_setCell_other ow (hne _ _ _ _ ow) _
  ·rw [if_neg e,if_neg e]
   have o1:=h.ow i hi1 hi2
   have o2:w1.ownsRow base 3 1 vs[i] ls[i].length (ls[i].map intV):=o1.kept hg (by
    cases hv:vs[i].ownBlock with
    | none=>exact .inl rfl
    | some q=>exact .inr (fun e2=>h.ap i f hi1 hf q (Ne.symm e) hv e2.symm))
   exact ownsRow_setCell_other o2 (hne _ _ _ _ o2) _
 ·have hi1:i < vs.length:=by simpa using hi
  have hj1:j < vs.length:=by simpa using hj
  rw [List.getElem_set,List.getElem_set]
  have old:∀ (k:Nat) (hk:k < vs.length) (q:Nat),vs[k].ownBlock=some q→q < w.heap.size:=fun k hk q e=>((h.ow k hk (by rw [← h.ln];exact hk)).lt q e).2
  by_cases e1:f=i
  ·have e2:¬ f=j:=fun e=>hij (e1.symm.trans e)
   rw [if_pos e1,if_neg e2]
   intro hv hv2
   rcases hfr with hr | hr
   ·exact h.ap f j hf hj1 g e2 (hr ▸ hv) hv2
   ·rw [hr] at hv
    have:=old j hj1 g hv2
    cases hv
    omega
  ·rw [if_neg e1]
   by_cases e2:f=j
   ·rw [if_pos e2]
    intro hv hv2
    rcases hfr with hr | hr
    ·exact h.ap f i hf hi1 g e1 (hr ▸ hv2) hv
    ·rw [hr] at hv2
     have:=old i hi1 g hv
     cases hv2
     omega
   ·rw [if_neg e2]
    exact h.ap i j hi1 hj1 g hij
end Go.Proofs.YtffcklfigpmlgaaGreatDoor
