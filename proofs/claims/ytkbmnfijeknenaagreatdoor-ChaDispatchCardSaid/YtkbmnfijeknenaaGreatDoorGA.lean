/-
  Plain: call edges, their graph, and what they reach.
  Maps: how many entries there are, and how many are still to come, as numbers that the world tells.
  Strings of one's own, sorted and compacted by the library.
  Call edges and edges in memory; rows of one's own that are told apart.
-/
import Derived.Test.YtkbmnfijeknenaaGreatDoorUA
import Derived.Test.YtkbmnfijeknenaaGreatDoorMP
import Derived.Test.YtkbmnfijeknenaaGreatDoorWA
import Derived.Test.YtkbmnfijeknenaaGreatDoorShelf
import Derived.Sort.OwnSorted
import Derived.Test.YtkbmnfijeknenaaGreatDoorTA
import Derived.Test.YtkbmnfijeknenaaGreatDoorWF
import Derived.Sort.OwnSortedInts
namespace Go.Unit0
structure Cal where
 f:Int
 i:Int
 c:Int
abbrev Edg:=Int × Int
def rightC (n:Nat) (e:Cal):Bool:=decide (0≤e.f∧e.f < n∧0≤e.c∧e.c < n)
theorem rightC_iff {n:Nat} {e:Cal}:rightC n e=true ↔ 0≤e.f∧e.f < n∧0≤e.c∧e.c < n:=by simp [rightC]
theorem ord_unique {α:Type} {lt:α→α→Prop} (hi:∀ a,¬ lt a a) (ht:∀ a b c,lt a b→lt b c→lt a c):∀ (a b:List α),a.Pairwise lt→b.Pairwise lt→(∀ x,x ∈ a ↔ x ∈ b)→a=b
 | [],[],_,_,_=>rfl
 | [],y :: b,_,_,h=>absurd ((h y).2 (by simp)) (by simp)
 | x :: a,[],_,_,h=>absurd ((h x).1 (by simp)) (by simp)
 | x :: a,y :: b,ha,hb,h=>by
   rw [List.pairwise_cons] at ha hb
   have hxy:x=y:=by
    rcases List.mem_cons.1 ((h x).1 (by simp)) with e | e
    ·exact e
    ·rcases List.mem_cons.1 ((h y).2 (by simp)) with e2 | e2
     ·exact e2.symm
     ·exact absurd (ht _ _ _ (hb.1 x e) (ha.1 y e2)) (hi _)
   subst hxy
   rw [ord_unique hi ht a b ha.2 hb.2 fun z=>?_]
   constructor
   ·intro hz
    rcases List.mem_cons.1 ((h z).1 (List.mem_cons_of_mem _ hz)) with e | e
    ·subst e;exact absurd (ha.1 z hz) (hi _)
    ·exact e
   ·intro hz
    rcases List.mem_cons.1 ((h z).2 (List.mem_cons_of_mem _ hz)) with e | e
    ·subst e;exact absurd (hb.1 z hz) (hi _)
    ·exact e
theorem perm_erase {α:Type}:∀ {l:List α} {j:Nat} {p:α},l[j]? = some p→l.Perm (p :: l.eraseIdx j)
 | [],j,p,h=>by simp at h
 | a :: l,0,p,h=>by
   simp at h
   subst h
   exact .refl _
 | a :: l,j + 1,p,h=>by
   have ih:=perm_erase (l:=l) (j:=j) (by simpa using h)
   exact (ih.cons a).trans (List.Perm.swap _ _ _)
-- edges in order
def ltE (a b:Edg):Prop:=a.1 < b.1 ∨ (a.1=b.1∧a.2 < b.2)
theorem ltE_irrefl (a:Edg):¬ ltE a a:=by unfold ltE;omega
theorem ltE_trans (a b c:Edg) (h1:ltE a b) (h2:ltE b c):ltE a c:=by unfold ltE at *;omega
theorem ltE_total {a b:Edg} (h1:¬ ltE a b) (h2:a ≠ b):ltE b a:=by
 unfold ltE at *
 have:¬ (a.1=b.1∧a.2=b.2):=fun h=>h2 (Prod.ext h.1 h.2)
 omega
def edgeIn (n:Nat) (l:List Cal) (e:Edg):Prop:=∃ c ∈ l,rightC n c=true∧e=(c.f,c.c)
theorem edgeIn.range {n:Nat} {l:List Cal} {e:Edg} (h:edgeIn n l e):0≤e.1∧e.1 < n∧0≤e.2∧e.2 < n:=by
 obtain ⟨c,_,hr,rfl⟩:=h
 exact rightC_iff.1 hr
def GraphL (n:Nat) (l:List Cal) (L:List Edg):Prop:=L.Pairwise ltE∧∀ e,e ∈ L ↔ edgeIn n l e
theorem graph_unique {n:Nat} {l:List Cal} {L M:List Edg} (h:GraphL n l L) (k:GraphL n l M):L=M :=
 ord_unique ltE_irrefl ltE_trans L M h.1 k.1 fun x=>(h.2 x).trans (k.2 x).symm
theorem graph_sorted {n:Nat} {l:List Cal} {Ls Ld:List Edg} (hn:Ls.Nodup) (hm:∀ e,e ∈ Ls ↔ edgeIn n l e) (hp:Ld.Perm Ls) (hs:Ld.Pairwise (fun a b=>¬ ltE b a)):GraphL n l Ld:=by
 refine ⟨?_,fun e=>(hp.mem_iff).trans (hm e)⟩
 have hn2:Ld.Nodup:=hp.nodup_iff.2 hn
 have:=List.pairwise_and_iff.2 ⟨hs,hn2⟩
 exact this.imp (fun h=>ltE_total h.1 (Ne.symm h.2))
-- what is reached
inductive Rch (n:Nat) (l:List Cal) (S:Int→Prop):Int→Prop
 | base {x:Int}:S x→Rch n l S x
 | step {c:Cal}:c ∈ l→rightC n c=true→Rch n l S c.f→Rch n l S c.c
def mainS (n:Nat) (m x:Int):Prop:=x=m∧0≤m∧m < n
def ReachL (n:Nat) (l:List Cal) (m:Int) (L:List Int):Prop:=L.Pairwise (· < ·)∧∀ x,x ∈ L ↔ Rch n l (mainS n m) x
theorem reach_unique {n:Nat} {l:List Cal} {m:Int} {L M:List Int} (h:ReachL n l m L) (k:ReachL n l m M):L=M :=
 ord_unique (fun a=>Int.lt_irrefl a) (fun _ _ _=>Int.lt_trans) L M h.1 k.1 fun x=>(h.2 x).trans (k.2 x).symm
theorem Rch.range {n:Nat} {l:List Cal} {S:Int→Prop} (hS:∀ x,S x→0≤x∧x < n) {x:Int} (h:Rch n l S x):0≤x∧x < n:=by
 induction h with
 | base h=>exact hS _ h
 | step _ hr _ _=>have:=rightC_iff.1 hr;exact ⟨this.2.2.1,this.2.2.2⟩
theorem Rch.congr {n:Nat} {l:List Cal} {S T:Int→Prop} (h:∀ x,S x ↔ T x) (x:Int):Rch n l S x ↔ Rch n l T x:=by
 constructor
 ·intro k
  induction k with
  | base h0=>exact .base ((h _).1 h0)
  | step hc hr _ ih=>exact .step hc hr ih
 ·intro k
  induction k with
  | base h0=>exact .base ((h _).2 h0)
  | step hc hr _ ih=>exact .step hc hr ih
-- marks
def At (bs:List Bool) (x:Int):Prop:=0≤x∧bs[x.toNat]? = some true
theorem at_set {bs:List Bool} {k:Nat} (hk:k < bs.length) (x:Int):At (bs.set k true) x ↔ x=k ∨ At bs x:=by
 unfold At
 rw [List.getElem?_set]
 constructor
 ·rintro ⟨h0,h1⟩
  by_cases e:k=x.toNat
  ·left;omega
  ·rw [if_neg e] at h1;exact .inr ⟨h0,h1⟩
 ·rintro (rfl | ⟨h0,h1⟩)
  ·refine ⟨by omega,?_⟩
   rw [if_pos (by omega),if_pos hk]
  ·refine ⟨h0,?_⟩
   by_cases e:k=x.toNat
   ·rw [if_pos e,if_pos hk]
   ·rw [if_neg e];exact h1
theorem at_none {n:Nat} (x:Int):¬ At (List.replicate n false) x:=by
 rintro ⟨_,h⟩
 rw [List.getElem?_replicate] at h
 split at h <;> simp at h
theorem at_lt {bs:List Bool} {x:Int} (h:At bs x):0≤x∧x < bs.length:=by
 have:=(List.getElem?_eq_some_iff.1 h.2).1
 exact ⟨h.1,by have:=h.1;omega⟩
theorem at_dec {bs:List Bool} {k:Nat} (hk:k < bs.length):(At bs k ↔ bs[k]=true):=by
 unfold At
 rw [Int.toNat_natCast,List.getElem?_eq_getElem hk]
 simp
def cntF (bs:List Bool):Nat:=bs.count false
theorem cntF_set:∀ {bs:List Bool} {k:Nat},bs[k]? = some false→cntF (bs.set k true) + 1=cntF bs
 | [],k,h=>by simp at h
 | b :: bs,0,h=>by
   simp at h
   subst h
   simp [cntF]
 | b :: bs,k + 1,h=>by
   have ih:=cntF_set (bs:=bs) (k:=k) (by simpa using h)
   unfold cntF at *
   rw [List.set_cons_succ,List.count_cons,List.count_cons]
   omega
def markT (bs:List Bool) (k:Nat):List Int:=((List.range k).filter (fun i=>bs[i]? == some true)).map (fun i:Nat=>(i:Int))
def marked (bs:List Bool):List Int:=markT bs bs.length
theorem markT_z (bs:List Bool):markT bs 0 = []:=rfl
theorem markT_t {bs:List Bool} {k:Nat} (h:bs[k]? = some true):markT bs (k + 1)=markT bs k ++ [(k:Int)]:=by
 unfold markT
 rw [List.range_succ,List.filter_append,List.map_append]
 simp [h]
theorem markT_f {bs:List Bool} {k:Nat} (h:bs[k]? = some false):markT bs (k + 1)=markT bs k:=by
 unfold markT
 rw [List.range_succ,List.filter_append,List.map_append]
 simp [h]
theorem markT_len (bs:List Bool) (k:Nat):(markT bs k).length≤k:=by
 unfold markT
 rw [List.length_map]
 exact Nat.le_trans (List.length_filter_le _ _) (by simp)
theorem mem_marked {bs:List Bool} {x:Int}:x ∈ marked bs ↔ At bs x:=by
 unfold marked markT At
 simp only [List.mem_map,List.mem_filter,List.mem_range]
 constructor
 ·rintro ⟨i,⟨hi,h⟩,rfl⟩
  exact ⟨by omega,by simpa using h⟩
 ·rintro ⟨h0,h1⟩
  exact ⟨x.toNat,⟨(List.getElem?_eq_some_iff.1 h1).1,by simpa using h1⟩,by omega⟩
theorem marked_lt (bs:List Bool):(marked bs).Pairwise (· < ·):=by
 unfold marked markT
 rw [List.pairwise_map]
 exact (List.pairwise_lt_range.filter _).imp (fun h=>Int.ofNat_lt.2 h)
-- closures of marks
structure CI (n:Nat) (l:List Cal) (bs bs':List Bool):Prop where
 len:bs'.length=bs.length
 mono:∀ x,At bs x→At bs' x
 min:∀ x,At bs' x→Rch n l (At bs) x
theorem CI.refl (n:Nat) (l:List Cal) (bs:List Bool):CI n l bs bs:=⟨rfl,fun _ h=>h,fun _ h=>.base h⟩
theorem CI.step {n:Nat} {l:List Cal} {bs bs':List Bool} {c:Cal} (h:CI n l bs bs') (hc:c ∈ l) (hr:rightC n c=true) (hn:bs.length=n) (ha:At bs' c.f):CI n l bs (bs'.set c.c.toNat true):=by
 have hr':=rightC_iff.1 hr
 have hk:c.c.toNat < bs'.length:=by rw [h.len];omega
 refine ⟨by rw [List.length_set,h.len],fun x hx=>(at_set hk x).2 (.inr (h.mono x hx)),fun x hx=>?_⟩
 rcases (at_set hk x).1 hx with e | e
 ·obtain rfl:x=c.c:=by omega
  exact .step hc hr (h.min _ ha)
 ·exact h.min _ e
def ClosedB (n:Nat) (l:List Cal) (bs:List Bool):Prop:=∀ c ∈ l,rightC n c=true→At bs c.f→At bs c.c
theorem ClosedB.nil (n:Nat) (bs:List Bool):ClosedB n [] bs:=fun _ h=>by cases h
theorem ClosedB.snoc {n:Nat} {l:List Cal} {c:Cal} {bs:List Bool} (h:ClosedB n l bs) (hc:rightC n c=true→At bs c.f→At bs c.c):ClosedB n (l ++ [c]) bs:=fun d hd=>by
 rcases List.mem_append.1 hd with hd | hd
 ·exact h d hd
 ·rw [List.mem_singleton.1 hd];exact hc
theorem CI.done {n:Nat} {l:List Cal} {bs bs':List Bool} (h:CI n l bs bs') (hc:ClosedB n l bs') (x:Int):At bs' x ↔ Rch n l (At bs) x:=⟨h.min x,fun hx=>by
 induction hx with
 | base h0=>exact h.mono _ h0
 | step hcm hr _ ih=>exact hc _ hcm hr ih⟩
-- the reference's graph
def RowA (n:Nat) (l:List Cal) (a:Int) (bs:List Bool):Prop:=bs.length=n∧∀ x,At bs x ↔ ∃ c ∈ l,rightC n c=true∧c.f=a∧c.c=x
theorem rowA_nil (n:Nat) (a:Int):RowA n [] a (List.replicate n false):=⟨by simp,fun x=>⟨fun h=>absurd h (at_none x),fun ⟨c,h,_⟩=>(by cases h)⟩⟩
theorem rowA_t {n:Nat} {l:List Cal} {a:Int} {bs:List Bool} {c:Cal} (h:RowA n l a bs) (hr:rightC n c=true) (hf:c.f=a):RowA n (l ++ [c]) a (bs.set c.c.toNat true):=by
 have hr':=rightC_iff.1 hr
 have hk:c.c.toNat < bs.length:=by rw [h.1];omega
 refine ⟨by rw [List.length_set,h.1],fun x=>?_⟩
 rw [at_set hk x,h.2 x]
 constructor
 ·rintro (e | ⟨d,hd,h1,h2,h3⟩)
  ·exact ⟨c,by simp,hr,hf,by omega⟩
  ·exact ⟨d,by simp [hd],h1,h2,h3⟩
 ·rintro ⟨d,hd,h1,h2,h3⟩
  rcases List.mem_append.1 hd with hd | hd
  ·exact .inr ⟨d,hd,h1,h2,h3⟩
  ·rw [List.mem_singleton.1 hd] at h3;left;omega
theorem rowA_f {n:Nat} {l:List Cal} {a:Int} {bs:List Bool} {c:Cal} (h:RowA n l a bs) (hn:¬ (rightC n c=true∧c.f=a)):RowA n (l ++ [c]) a bs:=by
 refine ⟨h.1,fun x=>?_⟩
 rw [h.2 x]
 constructor
 ·rintro ⟨d,hd,h1,h2,h3⟩
  exact ⟨d,by simp [hd],h1,h2,h3⟩
 ·rintro ⟨d,hd,h1,h2,h3⟩
  rcases List.mem_append.1 hd with hd | hd
  ·exact ⟨d,hd,h1,h2,h3⟩
  ·rw [List.mem_singleton.1 hd] at h1 h2;exact absurd ⟨h1,h2⟩ hn
structure GI (n:Nat) (l:List Cal) (a:Nat) (L:List Edg):Prop where
 st:L.Pairwise ltE
 mem:∀ e,e ∈ L ↔ edgeIn n l e∧e.1 < a
 len:L.length≤a * n
theorem GI.nil (n:Nat) (l:List Cal):GI n l 0 []:=by
 refine ⟨.nil,fun e=>⟨fun h=>absurd h List.not_mem_nil,fun h=>?_⟩,by simp⟩
 have h2:=h.1.range
 have h3:=h.2
 omega
theorem GI.step {n:Nat} {l:List Cal} {a:Nat} {L:List Edg} {bs:List Bool} (h:GI n l a L) (hr:RowA n l a bs):GI n l (a + 1) (L ++ (marked bs).map (fun b=>((a:Int),b))):=by
 refine ⟨?_,fun e=>?_,?_⟩
 ·rw [List.pairwise_append]
  refine ⟨h.st,?_,fun x hx y hy=>?_⟩
  ·rw [List.pairwise_map]
   exact (marked_lt bs).imp (fun h=>.inr ⟨rfl,h⟩)
  ·obtain ⟨b,_,rfl⟩:=List.mem_map.1 hy
   exact .inl ((h.mem x).1 hx).2
 ·rw [List.mem_append,h.mem e,List.mem_map]
  constructor
  ·rintro (⟨h1,h2⟩ | ⟨b,hb,rfl⟩)
   ·exact ⟨h1,by omega⟩
   ·obtain ⟨c,hc,h1,h2,h3⟩:=(hr.2 b).1 (mem_marked.1 hb)
    exact ⟨⟨c,hc,h1,by rw [h2,h3]⟩,by show (a:Int) < _;omega⟩
  ·rintro ⟨h1,h2⟩
   by_cases e1:e.1 < a
   ·exact .inl ⟨h1,e1⟩
   ·obtain ⟨c,hc,hr',rfl⟩:=h1
    have e2:c.f=a:=by have:c.f < ((a + 1:Nat):Int):=h2;have:¬ c.f < (a:Int):=e1;omega
    exact .inr ⟨c.c,mem_marked.2 ((hr.2 _).2 ⟨c,hc,hr',e2,rfl⟩),by rw [e2]⟩
 ·rw [List.length_append,List.length_map,Nat.add_mul]
  have h1:=markT_len bs bs.length
  have h2:=hr.1
  have h3:=h.len
  have h4:(marked bs).length≤bs.length:=h1
  omega
theorem GI.done {n:Nat} {l:List Cal} {L:List Edg} (h:GI n l n L):GraphL n l L:=⟨h.st,fun e=>(h.mem e).trans ⟨fun h=>h.1,fun h=>⟨h,h.range.2.1⟩⟩⟩
-- the program's lists of callees
def adjL (n:Nat) (L:List Edg):List (List Int):=(List.range n).map (fun f:Nat=>(L.filter (fun e=>e.1 == (f:Int))).map (·.2))
theorem adjL_len (n:Nat) (L:List Edg):(adjL n L).length=n:=by simp [adjL]
theorem adjL_get {n:Nat} {L:List Edg} {f:Nat} (hf:f < n):(adjL n L)[f]'(by rw [adjL_len];exact hf)=(L.filter (fun e=>e.1 == (f:Int))).map (·.2):=by simp [adjL]
theorem adjL_nil (n:Nat):adjL n []=List.replicate n []:=by
 apply List.ext_getElem (by simp [adjL])
 intro i h1 h2
 simp [adjL]
theorem adjL_snoc {n:Nat} {L:List Edg} {e:Edg} {f:Nat} (hf:f < n) (he:e.1=f):adjL n (L ++ [e])=(adjL n L).set f ((adjL n L)[f]'(by rw [adjL_len];exact hf) ++ [e.2]):=by
 apply List.ext_getElem (by simp [adjL])
 intro i h1 h2
 rw [List.getElem_set]
 have hi:i < n:=by simpa [adjL] using h1
 rw [adjL_get hi]
 by_cases h:f=i
 ·subst h
  rw [if_pos rfl,adjL_get hf,List.filter_append,List.map_append]
  simp [he]
 ·rw [if_neg h,adjL_get hi,List.filter_append,List.map_append]
  have:¬ e.1=(i:Int):=by omega
  simp [this]
theorem adjL_mem {n:Nat} {L:List Edg} {f:Nat} (hf:f < n) (x:Int):x ∈ (adjL n L)[f]'(by rw [adjL_len];exact hf) ↔ ((f:Int),x) ∈ L:=by
 rw [adjL_get hf]
 simp only [List.mem_map,List.mem_filter]
 constructor
 ·rintro ⟨e,⟨h1,h2⟩,rfl⟩
  have:e.1=(f:Int):=by simpa using h2
  rw [← this];exact h1
 ·intro h
  exact ⟨_,⟨h,by simp⟩,rfl⟩
theorem adjL_small {n:Nat} {L:List Edg} {f:Nat} (hf:f < n):((adjL n L)[f]'(by rw [adjL_len];exact hf)).length≤L.length:=by
 rw [adjL_get hf,List.length_map]
 exact List.length_filter_le _ _
-- the program's search
structure RI (n:Nat) (l:List Cal) (m:Int) (S T:List Int):Prop where
 nd:S.Nodup
 sub:∀ x ∈ T,x ∈ S
 rch:∀ x ∈ S,Rch n l (mainS n m) x
 base:m ∈ S
theorem RI.start {n:Nat} {l:List Cal} {m:Int} (h0:0≤m) (h1:m < n):RI n l m [m] [m]:=⟨by simp,fun _ h=>h,fun x hx=>by rw [List.mem_singleton.1 hx];exact .base ⟨rfl,h0,h1⟩,by simp⟩
def ClosT (n:Nat) (l:List Cal) (S:List Int) (T:Int→Prop):Prop:=∀ c ∈ l,rightC n c=true→c.f ∈ S→¬ T c.f→c.c ∈ S
theorem RI.range {n:Nat} {l:List Cal} {m:Int} {S T:List Int} (h:RI n l m S T) {x:Int} (hx:x ∈ S):0≤x∧x < n:=(h.rch x hx).range (fun _ h=>by obtain ⟨rfl,h1,h2⟩:=h;exact ⟨h1,h2⟩)
theorem RI.done {n:Nat} {l:List Cal} {m:Int} {S:List Int} (h:RI n l m S []) (hc:ClosT n l S (fun _=>False)) (x:Int):x ∈ S ↔ Rch n l (mainS n m) x:=⟨h.rch x,fun hx=>by
 induction hx with
 | base hb=>rw [hb.1];exact h.base
 | step hcm hr _ ih=>exact hc _ hcm hr ih (fun h=>h)⟩
end Go.Unit0
namespace Go.AM
open Go.RowKit
section
variable {κ:Type} [DecidableEq κ]
def leftN (w:World) (r:Nat):Nat:=match w.heap[r]? with
 | some (.mapIter (some g) _ seen _)=>(match w.heap[g]? with
   | some (.map ar _)=>(leftOf ar seen).size
   | _=>0)
 | _=>0
theorem IterF.leftN {w:World} {r g:Nat} {enc:κ→Value} {F:κ→Option Value} {n:Nat} {left:List (κ × Value)} (h:IterF w r g enc F n left):leftN w r=left.length:=by
 obtain ⟨l,ar,c,since,c0,seen,h1,h2,h3,h4,h5,h6,h7,h8,h9,h10,h11,_⟩:=h.ex
 have e:=congrArg List.length h11
 simp only [List.length_map,Array.length_toList] at e
 unfold AM.leftN
 simp only [h8,h1]
 exact e
def mapN (w:World) (g:Nat):Nat:=match w.heap[g]? with
 | some (.map ar _)=>ar.size
 | _=>0
theorem MapF.mapN {w:World} {g:Nat} {enc:κ→Value} {F:κ→Option Value} {n:Nat} (h:MapF w g enc F n):mapN w g≤n∧∃ ks:List κ,ks.Nodup∧(∀ k,k ∈ ks ↔ (F k).isSome=true)∧mapN w g=ks.length:=by
 obtain ⟨l,ar,c,h1,h2,h3,h4,h5,_⟩:=h.ex
 have e:=congrArg List.length h2
 simp only [List.length_map,Array.length_toList] at e
 have em:AM.mapN w g=l.length:=by unfold AM.mapN;simp only [h1];exact e
 refine ⟨by rw [em];exact h5,l.map (·.1),h3,fun k=>?_,by rw [em,List.length_map]⟩
 rw [h4 k]
 unfold lookL
 rw [Option.isSome_map,List.find?_isSome]
 constructor
 ·intro hk
  obtain ⟨p,hp,rfl⟩:=List.mem_map.1 hk
  exact ⟨p,hp,by simp⟩
 ·rintro ⟨p,hp,e⟩
  have:k=p.1:=by simpa using e
  rw [this]
  exact List.mem_map.2 ⟨p,hp,rfl⟩
end
section
variable {P:Program} {κ:Type} [DecidableEq κ] {ops:Array Oper} {rest:List Oper} {o:Oper} {a:Act} {Q:Exit→Act→World→Prop} {w:World}
theorem wpList_insertF (hg:o.guard=none) (m x v:Operand) (t:TypeId) (hop:o.op = .insert t m x v) {kt e:TypeId} {enc:κ→Value} (K:MKey P kt enc) (hu:P.underlying t=some (.map kt e)) (g:Nat) {F:κ→Option Value} {n:Nat}
 (hm:a.eval m = .map (some g)) (hown:MapF w g enc F n) (k:κ) (hx:a.eval x=enc k) (val:Value) (hv:a.eval v=val)
 (hK:∀ w',MapF w' g enc (fun k'=>if k' = k then some val else F k') (n + 1)→w.grownBy w' (some g)→w'.heap.size=w.heap.size→wpList P ops Q rest (a.put o.dst undef) w'):wpList P ops Q (o :: rest) a w:=by
 refine wpList_plain hg fun K' hK'=>?_
 obtain ⟨ar,c,hrun,r1⟩:=hown.update K hu k val
 unfold Oper.wp
 simp [execOp,hop,hm,hx,hv,hrun,Result.andThen]
 exact hK' _ _ (hK _ r1 (grown_put _) (by show (w.heap.setIfInBounds g _).size=_;simp))
end
end Go.AM
namespace Go.Proofs.YtkbmnfijeknenaaGreatDoor
open Go.RowKit Go.Unit0 Go.Sort

def bl (b:ByteArray):List UInt8:=b.data.toList
def mkB (l:List UInt8):ByteArray:=⟨l.toArray⟩
theorem mkB_bl (b:ByteArray):mkB (bl b)=b:=by cases b;rfl
theorem bl_mkB (l:List UInt8):bl (mkB l)=l:=rfl
theorem enc_mkB (l:List UInt8):encStr l = .string (mkB l):=rfl
theorem strs_enc (l:List ByteArray):l.map Value.string=(l.map bl).map encStr:=by
 rw [List.map_map]
 refine List.map_congr_left fun b _=>?_
 show Value.string b=encStr (bl b)
 rw [enc_mkB,mkB_bl]
theorem enc_strs (l:List (List UInt8)):l.map encStr=(l.map mkB).map Value.string:=by
 rw [List.map_map];rfl
def sortB (l:List ByteArray):List ByteArray:=((l.map bl).mergeSort fun x y=>decide (x≤y)).map mkB
def compB (l:List ByteArray):List ByteArray:=(Lib.compact (l.map bl)).map mkB
theorem sortB_len (l:List ByteArray):(sortB l).length=l.length:=by simp [sortB]
theorem compB_len (l:List ByteArray):(compB l).length≤l.length:=by
 have:=Lib.compact_length_le (l.map bl)
 simpa [compB] using this
structure RowOut (w0 w:World) (l:List ByteArray) (a:Option Addr) (c:Nat) (w':World):Prop where
 hb:Below w0.heap.size w0 w'
 ow:w'.ownsRow w0.heap.size 9 1 (.slice a l.length c) l.length (l.map Value.string)
 fr:∀ g cs t,Blk w g cs t→t ≠ 9→Blk w' g cs t
theorem sort_own (l:List ByteArray) (a:Option Addr) (c:Nat) (w0 w:World) (hb:Below w0.heap.size w0 w) (own:w.ownsRow w0.heap.size 9 1 (.slice a l.length c) l.length (l.map Value.string)) (hl:l.length≤1000000) :
 Calls Tryz.prog 68 #[.slice a l.length c] w (fun e w'=>e = .returned (.tuple #[])∧RowOut w0 w (sortB l) a c w'):=by
 have own0:=own
 obtain ⟨_,hown⟩:=own
 rcases hown with ⟨e,h0⟩ | ⟨g,cap,cur,e,hbase,hh,hn,hcap,hsz,ht⟩
 ·have hl0:l = []:=List.eq_nil_of_length_eq_zero h0
  subst hl0
  cases e
  have e0:sortB [] = []:=by simp [sortB]
  rw [e0]
  refine (Tryz.slices_Sort_string_none none 0 w).mono ?_
  rintro e w' ⟨rfl,rfl⟩
  exact ⟨rfl,hb,own0,fun _ _ _ h _=>h⟩
 ·cases e
  rw [strs_enc] at ht
  have hlen:(l.map bl).length=l.length:=List.length_map _
  have hH:=holds_of_block (ss:=l.map bl) hh (by rw [hlen,← ht,Nat.mul_one])
  have h:=Tryz.slices_Sort_string g 0 c (l.map bl) w hH (Array.getElem?_eq_some_iff.1 hh).1 (by omega)
  rw [hlen] at h
  refine h.mono ?_
  rintro e w' ⟨rfl,n,os,rfl⟩
  have hs:((l.map bl).mergeSort fun x y=>decide (x≤y)).length=(l.map bl).length:=by simp
  have ow:=ownsRow_sorted (n:=n) (os:=os) (ts:=(l.map bl).mergeSort fun x y=>decide (x≤y)) hs hbase hh (by omega) hcap hsz
  have hg:=grownBy_sorted (w:=w) (g:=g) (n:=n) (os:=os) ((l.map bl).mergeSort fun x y=>decide (x≤y)).toArray
  rw [enc_strs,hlen] at ow
  refine ⟨rfl,grow_below hb own0 hg,?_,fun g' cs t hB hne=>hB.grown hg (owns_ne own0 hB hne)⟩
  rw [sortB_len]
  exact ow
theorem owns_take {w:World} {base e n m c:Nat} {a:Option Addr} {xs:List Value} (h:w.ownsRow base e 1 (.slice a n c) n xs) (hm:m≤n) (ha:a ≠ none):w.ownsRow base e 1 (.slice a m c) m (xs.take m):=by
 obtain ⟨h1,h2⟩:=h
 refine ⟨by rw [List.length_take];omega,?_⟩
 rcases h2 with ⟨e1,h0⟩ | ⟨g,cap,cur,e1,hbase,hh,hn,hcap,hsz,ht⟩
 ·cases e1;exact absurd rfl ha
 ·cases e1
  refine .inr ⟨g,c,cur,rfl,hbase,hh,by omega,hcap,hsz,?_⟩
  rw [← ht,List.take_take]
  congr 1
  omega
theorem compact_own (l:List ByteArray) (a:Option Addr) (c:Nat) (w0 w:World) (hb:Below w0.heap.size w0 w) (own:w.ownsRow w0.heap.size 9 1 (.slice a l.length c) l.length (l.map Value.string)) (hl:l.length≤1000000) :
 Calls Tryz.prog 70 #[.slice a l.length c] w (fun e w'=>e = .returned (.slice a (compB l).length c)∧RowOut w0 w (compB l) a c w'):=by
 have own0:=own
 obtain ⟨_,hown⟩:=own
 rcases hown with ⟨e,h0⟩ | ⟨g,cap,cur,e,hbase,hh,hn,hcap,hsz,ht⟩
 ·have hl0:l = []:=List.eq_nil_of_length_eq_zero h0
  subst hl0
  cases e
  have e0:compB [] = []:=by simp [compB,Lib.compact,Lib.compactUpTo]
  rw [e0]
  refine (Tryz.slices_Compact_string_empty none 0 w).mono ?_
  rintro e w' ⟨rfl,rfl⟩
  exact ⟨rfl,hb,own0,fun _ _ _ h _=>h⟩
 ·cases e
  rw [strs_enc] at ht
  have hlen:(l.map bl).length=l.length:=List.length_map _
  have hH:=holds_of_block (ss:=l.map bl) hh (by rw [hlen,← ht,Nat.mul_one])
  have h:=Tryz.slices_Compact_string g 0 c (l.map bl) w hH (by omega) (by omega)
  rw [hlen] at h
  refine h.mono ?_
  rintro e w' ⟨rfl,n,rfl⟩
  have hcl:(Lib.compact (l.map bl)).length≤l.length:=by rw [← hlen];exact Lib.compact_length_le _
  generalize hts:Lib.compact (l.map bl) ++ List.replicate (l.length - (Lib.compact (l.map bl)).length) []=ts
  have hs:ts.length=(l.map bl).length:=by rw [← hts,hlen];simp;omega
  have ow:=ownsRow_sorted (n:=n) (os:=#[]) (ts:=ts) hs hbase hh (by omega) hcap hsz
  have hg:=grownBy_sorted (w:=w) (g:=g) (n:=n) (os:=#[]) ts.toArray
  rw [grow_empty] at ow hg
  rw [hlen] at ow
  have ht2:ts.take (Lib.compact (l.map bl)).length=Lib.compact (l.map bl):=by rw [← hts];simp
  have ow2:=owns_take ow hcl (by simp)
  rw [← List.map_take,ht2,enc_strs] at ow2
  refine ⟨by simp [compB],grow_below hb own0 hg,?_,fun g' cs t hB hne=>hB.grown hg (owns_ne own0 hB hne)⟩
  have:(compB l).length=(Lib.compact (l.map bl)).length:=by simp [compB]
  rw [this]
  exact ow2
end Go.Proofs.YtkbmnfijeknenaaGreatDoor
namespace Go.Proofs.YtkbmnfijeknenaaGreatDoor
open Go.RowKit Go.Unit0 Go.AM

def CalsAt (w:World) (a:Option Addr) (l:List Cal):Prop :=
 ∀ k (h:k < l.length),∃ b off,a=some ⟨b,off,none⟩∧w.cell? ⟨b,off + k * 3,none⟩=some (.int .i64 l[k].f)∧w.cell? ⟨b,off + k * 3 + 1,none⟩=some (.int .i64 l[k].i)∧w.cell? ⟨b,off + k * 3 + 2,none⟩=some (.int .i64 l[k].c)
theorem CalsAt.below {w w':World} {a:Option Addr} {l:List Cal} (h:CalsAt w a l) (hb:Below w.heap.size w w'):CalsAt w' a l:=by
 intro k hk
 obtain ⟨b,off,ha,h0,h1,h2⟩:=h k hk
 exact ⟨b,off,ha,cell_below hb h0,cell_below hb h1,cell_below hb h2⟩
def EdgsAt (w:World) (a:Option Addr) (l:List Edg):Prop :=
 ∀ k (h:k < l.length),∃ b off,a=some ⟨b,off,none⟩∧w.cell? ⟨b,off + k * 2,none⟩=some (.int .i64 l[k].1)∧w.cell? ⟨b,off + k * 2 + 1,none⟩=some (.int .i64 l[k].2)
theorem EdgsAt.below {w w':World} {a:Option Addr} {l:List Edg} (h:EdgsAt w a l) (hb:Below w.heap.size w w'):EdgsAt w' a l:=by
 intro k hk
 obtain ⟨b,off,ha,h0,h1⟩:=h k hk
 exact ⟨b,off,ha,cell_below hb h0,cell_below hb h1⟩
def encE (e:Edg):List Value:=[.int .i64 e.1,.int .i64 e.2]
def flatE (L:List Edg):List Value:=L.flatMap encE
theorem flatE_len (L:List Edg):(flatE L).length=L.length * 2:=by
 unfold flatE
 rw [List.length_flatMap]
 induction L with
 | nil=>rfl
 | cons x L ih=>rw [List.map_cons,List.sum_cons,ih,List.length_cons];simp [encE];omega
theorem flatE_get:∀ (L:List Edg) (j r:Nat) (hj:j < L.length),r < 2→(flatE L)[j * 2 + r]? = (encE L[j])[r]?
 | x :: L,0,r,_,hr=>by
   show (encE x ++ flatE L)[0 * 2 + r]? = _
   rw [List.getElem?_append_left (by simp [encE];omega)]
   simp
 | x :: L,j + 1,r,hj,hr=>by
   have ih:=flatE_get L j r (by simpa using hj) hr
   show (encE x ++ flatE L)[(j + 1) * 2 + r]? = _
   rw [List.getElem?_append_right (by simp [encE];omega)]
   have e:(j + 1) * 2 + r - (encE x).length=j * 2 + r:=by simp [encE];omega
   rw [e,ih]
   simp
theorem flatE_app (L:List Edg) (e:Edg):flatE (L ++ [e])=flatE L ++ [.int .i64 e.1,.int .i64 e.2]:=by
 unfold flatE
 rw [List.flatMap_append]
 rfl
theorem infoE:(Tryz.prog.info? 42).map (fun i=>(i.zero,i.size,i.bytes))=some (some (.agg #[.int .i64 0,.int .i64 0]),2,16):=by kernel_rfl
theorem owns_edgs {w:World} {base:Nat} {v:Value} {l:List Edg} {n:Nat} (h:w.ownsRow base 42 2 v n (flatE l)):n=l.length∧∃ a cap,v = .slice a n cap∧n≤cap∧EdgsAt w a l∧∀ b off,a=some ⟨b,off,none⟩→base≤b:=by
 have hl:n=l.length:=by have:=h.1;rw [flatE_len] at this;omega
 refine ⟨hl,?_⟩
 rcases h.2 with ⟨rfl,h0⟩ | ⟨g,cap,cur,rfl,hb,hh,hn,_,hsz,ht⟩
 ·exact ⟨none,0,by rw [h0],by omega,fun k hk=>by omega,fun _ _ e=>by cases e⟩
 ·refine ⟨_,_,rfl,hn,fun k hk=>⟨g,0,rfl,?_,?_⟩,fun b off e=>by cases e;exact hb⟩
  ·have c:=h.cells (g:=g) rfl (k * 2 + 0) (.int .i64 l[k].1) (by rw [flatE_get l k 0 hk (by omega)];rfl)
   rw [addr_add] at c
   exact c
  ·have c:=h.cells (g:=g) rfl (k * 2 + 1) (.int .i64 l[k].2) (by rw [flatE_get l k 1 hk (by omega)];rfl)
   rw [addr_add] at c
   exact c
theorem app_edge {ops:Array Oper} {rest:List Oper} {o:Oper} {a:Act} {Q:Exit→Act→World→Prop} {w:World} (hgd:o.guard=none) (s x:Operand)
 (ho:o.op = .call { callee:=.builtin .append,args:=#[s,x],argTypes:=#[37,37] })
 (base:Nat) (v:Value) (l:List Edg) (hs:a.eval s=v) (hown:w.ownsRow base 42 2 v l.length (flatE l))
 (g:Nat) (y:Edg) (hx:a.eval x = .slice (some ⟨g,0,none⟩) 1 1) (hg:Blk w g #[.int .i64 y.1,.int .i64 y.2] 42)
 (hn:l.length≤1000000) (hbase:base≤w.heap.size)
 (h:∀ v' w',w'.ownsRow base 42 2 v' (l ++ [y]).length (flatE (l ++ [y]))→w.grownBy w' v.ownBlock→wpList Tryz.prog ops Q rest (a.put o.dst v') w'):wpList Tryz.prog ops Q (o :: rest) a w:=by
 obtain ⟨i0,hi,hz0,hz1,hz2⟩:=info_parts infoE
 refine wpList_append_own w hgd s x 37 ho base 42 i0 (.agg #[.int .i64 0,.int .i64 0]) 2 16 Tryz.underlying37 hi hz0 hz1 hz2 rfl (by decide) v l.length (flatE l) hs hown ⟨g,0,none⟩ 1 1 [.int .i64 y.1,.int .i64 y.2] hx rfl ?_ (by intro u hu;simp at hu;rcases hu with rfl | rfl <;> rfl) (by unfold maxLen;omega) (by omega) hbase ?_
 ·intro j u hu
  rw [addr_add,Nat.zero_add,cell_of_row _ _ _ _ _ _ hg]
  simpa using hu
 ·intro v' w' h1 h2 _
  refine h v' w' ?_ h2
  rw [flatE_app,List.length_append]
  exact h1
theorem owns_ints' {w:World} {base n d:Nat} {b:Option Addr} {l:List Int} (h:w.ownsRow base 3 1 (.slice b n d) n (l.map intV)):n≤d∧IntsAt w b l:=by
 obtain ⟨_,a,cap,he,h1,h2⟩:=owns_ints h
 cases he
 exact ⟨h1,h2⟩
theorem append_fresh (w:World) (base:Nat) (t ty e:TypeId) (i:TypeInfo) (z:Value) (size bytes:Nat) (ht:Tryz.prog.underlying t=some (.slice e)) (hi:Tryz.prog.info? e=some i) (hz:i.zero=some z)
 (hsize:i.size=size) (hby:i.bytes=bytes)
 (v:Value) (n:Nat) (xs:List Value) (hown:w.ownsRow base e size v n xs)
 (a:Addr) (m c:Nat) (hm:0 < m) (news:List Value) (hl:news.length=m * size) (hnews:∀ j u,news[j]? = some u→w.cell? (a.add j)=some u) (h1:∀ u ∈ news,u.oneCell' = true)
 (h63:n + m≤maxLen) (hbytes:(n + m) * bytes≤140737488355328) {v':Value} {w':World} (hr:(Builtin.append_ #[t,t] ty #[v,.slice (some a) m c]).run Tryz.prog w = .ok v' w') :
 v'.ownBlock=v.ownBlock ∨ v'.ownBlock=some w.heap.size:=by
 subst hsize
 subst hby
 have hsmall:n + m≤9223372036854775807:=by simp only [maxLen] at h63;omega
 rcases hown.2 with ⟨rfl,rfl⟩ | ⟨g,cap,cur,rfl,hbg,hg,hnc,hcm,hcs,htake⟩
 ·have h:=run_append_nil (P:=Tryz.prog) w t ty e i z ht hi hz a m c news hl hnews hm (by omega) (by have hb:=hbytes;simp only [Nat.zero_add] at hb;omega)
  rw [h] at hr
  cases hr
  exact .inr rfl
 ·by_cases hroom:n + m≤cap
  ·have h:=run_append_room (P:=Tryz.prog) w t ty e i ht hi g n cap cur hg a m c news hl hnews h1 hroom (by rw [hl,hcs,← Nat.add_mul];exact Nat.mul_le_mul_right _ hroom)
   rw [h] at hr
   cases hr
   exact .inl rfl
  ·have holds:∀ j u,xs[j]? = some u→w.cell? ((⟨g,0,none⟩:Addr).add j)=some u:=hown.cells (g:=g) rfl
   have h:=run_append_grow (P:=Tryz.prog) w t ty e i z ht hi hz ⟨g,0,none⟩ n cap xs hown.1 holds a m c news hl hnews (by omega) (by omega) (growslice_fits (by omega) hbytes)
   rw [h] at hr
   cases hr
   exact .inr rfl
theorem app_intF {ops:Array Oper} {rest:List Oper} {o:Oper} {a:Act} {Q:Exit→Act→World→Prop} {w:World} (hgd:o.guard=none) (s x:Operand)
 (ho:o.op = .call { callee:=.builtin .append,args:=#[s,x],argTypes:=#[31,31] })
 (base:Nat) (v:Value) (l:List Int) (hs:a.eval s=v) (hown:w.ownsRow base 3 1 v l.length (l.map intV))
 (g:Nat) (y:Int) (hx:a.eval x = .slice (some ⟨g,0,none⟩) 1 1) (hg:Blk w g #[.int .i64 y] 3)
 (hn:l.length≤1000000) (hbase:base≤w.heap.size)
 (h:∀ v' w',w'.ownsRow base 3 1 v' (l ++ [y]).length ((l ++ [y]).map intV)→w.grownBy w' v.ownBlock→(v'.ownBlock=v.ownBlock ∨ v'.ownBlock=some w.heap.size)→wpList Tryz.prog ops Q rest (a.put o.dst v') w'):wpList Tryz.prog ops Q (o :: rest) a w:=by
 obtain ⟨i0,hi,hz0,hz1,hz2⟩:=info_parts infoI
 refine wpList_plain hgd fun K hK=>?_
 have hnews:∀ j u,[intV y][j]? = some u→w.cell? ((⟨g,0,none⟩:Addr).add j)=some u:=by
  intro j u hu
  rw [addr_add,Nat.zero_add,cell_of_row _ _ _ _ _ _ hg]
  simpa [intV] using hu
 have h1:∀ u ∈ [intV y],u.oneCell' = true:=by intro u hu;rw [List.mem_singleton.1 hu];rfl
 obtain ⟨v',w',hr,h2,h3,_⟩:=run_append_own (P:=Tryz.prog) w base 31 o.type 3 i0 (.int .i64 0) 1 8 Tryz.underlying31 hi hz0 hz1 hz2 rfl (by decide) v l.length (l.map intV) hown ⟨g,0,none⟩ 1 1 [intV y] rfl hnews h1 (by unfold maxLen;omega) (by omega) hbase
 have h4:=append_fresh w base 31 o.type 3 i0 (.int .i64 0) 1 8 Tryz.underlying31 hi hz0 hz1 hz2 v l.length (l.map intV) hown ⟨g,0,none⟩ 1 1 (by omega) [intV y] rfl hnews h1 (by unfold maxLen;omega) (by omega) hr
 unfold Oper.wp execOp
 simp only [ho,resolve,invoke,builtin,Sem.run_bind,Sem.run_pure,Result.andThen_ok,List.map_toArray,List.map_cons,List.map_nil,hs,hx,hr]
 refine hK _ _ (h v' w' ?_ h3 h4)
 rw [List.map_append,List.length_append]
 exact h2
theorem blk_of_full {w:World} {base:Nat} {e:TypeId} {g n:Nat} {xs:List Value} (h:w.ownsRow base e 1 (.slice (some ⟨g,0,none⟩) n n) n xs):Blk w g xs.toArray e:=by
 rcases h.2 with ⟨he,_⟩ | ⟨g',cap,cur,he,_,hh,_,_,hsz,ht⟩
 ·cases he
 ·cases he
  unfold Blk
  rw [hh]
  have:cur=xs.toArray:=by
   apply Array.ext'
   rw [← ht,List.take_of_length_le (by rw [Array.length_toList,hsz];exact Nat.le_refl _)]
  rw [this]
structure AdjV (w:World) (base B:Nat) (ls:List (List Int)) (vs:List Value):Prop where
 ln:vs.length=ls.length
 bk:Blk w B vs.toArray 31
 ow:∀ (i:Nat) (h:i < vs.length) (h':i < ls.length),w.ownsRow base 3 1 vs[i] ls[i].length (ls[i].map intV)
 ap:∀ (i j:Nat) (hi:i < vs.length) (hj:j < vs.length) (g:Nat),i ≠ j→vs[i].ownBlock=some g→vs[j].ownBlock ≠ some g
theorem AdjV.below {w w':World} {base B:Nat} {ls:List (List Int)} {vs:List Value} (h:AdjV w base B ls vs) (hb:Below w.heap.size w w'):AdjV w' base B ls vs :=
 ⟨h.ln,h.bk.below hb,fun i hi hi'=>owns_below (h.ow i hi hi') hb,h.ap⟩
theorem AdjV.start {w:World} {base B n:Nat} (hb:Blk w B (List.replicate n (Value.slice none 0 0)).toArray 31):AdjV w base B (List.replicate n []) (List.replicate n (.slice none 0 0)) :=
 ⟨by simp,hb,fun i hi hi'=>by
   have e1:(List.replicate n (Value.slice none 0 0))[i] = .slice none 0 0:=by simp
   have e2:(List.replicate n ([]:List Int))[i] = []:=by simp
   rw [e1,e2]
   exact World.ownsRow_nil _ _ _ _,fun i j hi hj g _ e=>by
   have e1:(List.replicate n (Value.slice none 0 0))[i] = .slice none 0 0:=by simp
   rw [e1] at e
   simp [Value.ownBlock] at e⟩
theorem AdjV.put {w w1:World} {base B:Nat} {ls:List (List Int)} {vs:List Value} (h:AdjV w base B ls vs) (hB:B < base) {f:Nat} (hf:f < vs.length) (hf':f < ls.length) {v':Value} {y:Int}
 (_hbase:base≤w.heap.size) (ow:w1.ownsRow base 3 1 v' (ls[f] ++ [y]).length ((ls[f] ++ [y]).map intV)) (hg:w.grownBy w1 vs[f].ownBlock) (hfr:v'.ownBlock=vs[f].ownBlock ∨ v'.ownBlock=some w.heap.size) :
 AdjV (w1.setCell ⟨B,f,none⟩ v') base B (ls.set f (ls[f] ++ [y])) (vs.set f v'):=by
 have hne:∀ (v:Value) (n:Nat) (xs:List Value) (u:World),u.ownsRow base 3 1 v n xs→v.ownBlock ≠ some B:=fun v n xs u ho e=>by have:=(ho.lt B e).1;omega
 have bk1:Blk w1 B vs.toArray 31:=h.bk.grown hg (fun e=>hne _ _ _ _ (h.ow f hf hf') e.symm)
 refine ⟨by simp [h.ln],?_,fun i hi hi'=>?_,fun i j hi hj g hij=>?_⟩
 ·have:=bk1.set f v'
  simpa using this
 ·have hi1:i < vs.length:=by simpa using hi
  have hi2:i < ls.length:=by simpa using hi'
  rw [List.getElem_set,List.getElem_set]
  by_cases e:f=i
  ·rw [if_pos e,if_pos e]
   exact ownsRow_setCell_other ow (hne _ _ _ _ ow) _
  ·rw [if_neg e,if_neg e]
   have o1:=h.ow i hi1 hi2
   have o2:w1.ownsRow base 3 1 vs[i] ls[i].length (ls[i].map intV):=o1.kept hg (by
    cases hv:vs[i].ownBlock with
    | none=>exact .inl rfl
    | some q=>exact .inr (fun e2=>h.ap i f hi1 hf q (Ne.symm e) hv e2.symm))
   exact ownsRow_setCell_other o2 (hne _ _ _ _ o2) _
 ·have hi1:i < vs.length:=by simpa using hi
  have hj1:j < vs.length:=by simpa using hj
  rw [List.getElem_set,List.getElem_set]
  have old:∀ (k:Nat) (hk:k < vs.length) (q:Nat),vs[k].ownBlock=some q→q < w.heap.size:=fun k hk q e=>((h.ow k hk (by rw [← h.ln];exact hk)).lt q e).2
  by_cases e1:f=i
  ·have e2:¬ f=j:=fun e=>hij (e1.symm.trans e)
   rw [if_pos e1,if_neg e2]
   intro hv hv2
   rcases hfr with hr | hr
   ·exact h.ap f j hf hj1 g e2 (hr ▸ hv) hv2
   ·rw [hr] at hv
    have:=old j hj1 g hv2
    cases hv
    omega
  ·rw [if_neg e1]
   by_cases e2:f=j
   ·rw [if_pos e2]
    intro hv hv2
    rcases hfr with hr | hr
    ·exact h.ap f i hf hi1 g e1 (hr ▸ hv2) hv
    ·rw [hr] at hv2
     have:=old i hi1 g hv
     cases hv2
     omega
   ·rw [if_neg e2]
    exact h.ap i j hi1 hj1 g hij
end Go.Proofs.YtkbmnfijeknenaaGreatDoor
