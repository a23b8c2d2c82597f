/-
  Plain: lists in an order: elements put in one by one; sorted and compacted.
  Plain: the names of the fields, the sites that a cell refers to, the cells and contents of sites, what is reached from sites.
  Numbers put in by the reference; sorted and compacted by the program.
  The program's known: the numbers that are sites, each once, ascending.
-/
import Derived.RowKit
import Derived.Lib.SlicesCompact
import Derived.Test.YtffcklfigpmlgaaGreatDoorNN
import Derived.Test.YtffcklfigpmlgaaGreatDoorXA
import Derived.Test.YtffcklfigpmlgaaGreatDoorGA
import Derived.Test.YtffcklfigpmlgaaGreatDoorHK
import Derived.Test.YtffcklfigpmlgaaGreatDoorShelf
import Derived.Lib.RowBridge
import Derived.Sort.OwnSorted
import Derived.Sort.OwnSortedInts
import Derived.Test.YtffcklfigpmlgaaGreatDoorMA
namespace Go.Proofs.YtffcklfigpmlgaaGreatDoor
open Go.RowKit

theorem ord_unique {α:Type} {lt:α→α→Prop} (hi:∀ a,¬ lt a a) (ht:∀ a b c,lt a b→lt b c→lt a c):∀ (a b:List α),a.Pairwise lt→b.Pairwise lt→(∀ x,x ∈ a ↔ x ∈ b)→a=b
 | [],[],_,_,_=>rfl
 | [],y :: b,_,_,h=>absurd ((h y).2 (by simp)) (by simp)
 | x :: a,[],_,_,h=>absurd ((h x).1 (by simp)) (by simp)
 | x :: a,y :: b,ha,hb,h=>by
   rw [List.pairwise_cons] at ha hb
   have hxy:x=y:=by
    rcases List.mem_cons.1 ((h x).1 (by simp)) with e | e
    ·exact e
    ·rcases List.mem_cons.1 ((h y).2 (by simp)) with e2 | e2
     ·exact e2.symm
     ·exact absurd (ht _ _ _ (hb.1 x e) (ha.1 y e2)) (hi _)
   subst hxy
   rw [ord_unique hi ht a b ha.2 hb.2 fun z=>?_]
   constructor
   ·intro hz
    rcases List.mem_cons.1 ((h z).1 (List.mem_cons_of_mem _ hz)) with e | e
    ·subst e;exact absurd (ha.1 z hz) (hi _)
    ·exact e
   ·intro hz
    rcases List.mem_cons.1 ((h z).2 (List.mem_cons_of_mem _ hz)) with e | e
    ·subst e;exact absurd (hb.1 z hz) (hi _)
    ·exact e

structure OrdOK {α:Type} (lt:α→α→Prop):Prop where
 irrefl:∀ a,¬ lt a a
 trans:∀ a b c,lt a b→lt b c→lt a c
 total:∀ a b,¬ lt a b→¬ lt b a→a=b
section
variable {α:Type} [DecidableEq α] {lt:α→α→Prop} [DecidableRel lt]
def oPut (lt:α→α→Prop) [DecidableRel lt]:List α→α→List α
 | [],c=>[c]
 | x :: l,c=>if lt x c then x :: oPut lt l c else if x=c then x :: l else c :: x :: l
theorem oPut_mem (c y:α):∀ l:List α,y ∈ oPut lt l c ↔ y=c ∨ y ∈ l
 | []=>by simp [oPut]
 | x :: l=>by
   unfold oPut
   split
   ·rw [List.mem_cons,oPut_mem c y l,List.mem_cons]
    constructor
    ·rintro (h | h | h) <;> simp [h]
    ·rintro (h | h | h) <;> simp [h]
   ·split
    ·rename_i e
     subst e
     simp
    ·rw [List.mem_cons]
theorem oPut_asc (h:OrdOK lt) (c:α):∀ l:List α,l.Pairwise lt→(oPut lt l c).Pairwise lt
 | [],_=>by simp [oPut]
 | x :: l,hl=>by
   unfold oPut
   have h':=List.pairwise_cons.1 hl
   split
   ·rename_i h1
    refine List.pairwise_cons.2 ⟨fun y hy=>?_,oPut_asc h c l h'.2⟩
    rcases (oPut_mem c y l).1 hy with e | e
    ·rw [e];exact h1
    ·exact h'.1 y e
   ·split
    ·exact hl
    ·rename_i h1 h2
     have h3:lt c x:=by
      by_cases h4:lt c x
      ·exact h4
      ·exact absurd (h.total _ _ h1 h4) h2
     refine List.pairwise_cons.2 ⟨fun y hy=>?_,hl⟩
     rcases List.mem_cons.1 hy with e | e
     ·rw [e];exact h3
     ·exact h.trans _ _ _ h3 (h'.1 y e)
theorem oPut_len (c:α):∀ l:List α,(oPut lt l c).length≤l.length + 1
 | []=>by simp [oPut]
 | x :: l=>by
   unfold oPut
   have:=oPut_len c l
   split
   ·simp;omega
   ·split <;> simp
theorem oPut_same (h:OrdOK lt) (c:α):∀ (l:List α) (k:Nat) (_:∀ j (hj:j < l.length),j < k→lt l[j] c) (hk:k < l.length),l[k]=c→oPut lt l c=l
 | [],k,_,hk,_=>by simp at hk
 | x :: l,0,_,_,e=>by
   have e':x=c:=by simpa using e
   subst e'
   unfold oPut
   rw [if_neg (h.irrefl _),if_pos rfl]
 | x :: l,k + 1,hl,hk,e=>by
   unfold oPut
   rw [if_pos (show lt x c from hl 0 (by simp) (by omega)),oPut_same h c l k (fun j hj hjk=>hl (j + 1) (by simpa using hj) (by omega)) (by simpa using hk) (by simpa using e)]
theorem oPut_new (c:α):∀ (l:List α) (k:Nat) (_:∀ j (hj:j < l.length),j < k→lt l[j] c) (_:k≤l.length) (_:∀ hk:k < l.length,¬ lt l[k] c∧l[k] ≠ c),oPut lt l c=l.take k ++ [c] ++ l.drop k
 | [],0,_,_,_=>by simp [oPut]
 | [],k + 1,_,hk,_=>by simp at hk
 | x :: l,0,_,_,e=>by
   have:=e (by simp)
   unfold oPut
   rw [if_neg (by simpa using this.1),if_neg (by simpa using this.2)]
   simp
 | x :: l,k + 1,h,hk,e=>by
   unfold oPut
   rw [if_pos (show lt x c from h 0 (by simp) (by omega)),oPut_new c l k (fun j hj hjk=>h (j + 1) (by simpa using hj) (by omega)) (by simpa using hk) (fun hk=>show ¬ lt l[k] c∧l[k] ≠ c from e (by simpa using hk))]
   simp
def oPuts (lt:α→α→Prop) [DecidableRel lt] (a b:List α):List α:=b.foldl (oPut lt) a
theorem oPuts_mem (y:α):∀ (b a:List α),y ∈ oPuts lt a b ↔ y ∈ a ∨ y ∈ b
 | [],a=>by simp [oPuts]
 | c :: b,a=>by
   show y ∈ oPuts lt (oPut lt a c) b ↔ _
   rw [oPuts_mem y b,oPut_mem,List.mem_cons]
   constructor
   ·rintro ((h | h) | h) <;> simp [h]
   ·rintro (h | h | h) <;> simp [h]
theorem oPuts_asc (h:OrdOK lt):∀ (b a:List α),a.Pairwise lt→(oPuts lt a b).Pairwise lt
 | [],_,ha=>ha
 | c :: b,a,ha=>oPuts_asc h b (oPut lt a c) (oPut_asc h c a ha)
theorem oPuts_len:∀ (b a:List α),(oPuts lt a b).length≤a.length + b.length
 | [],a=>by simp [oPuts]
 | c :: b,a=>by
   show (oPuts lt (oPut lt a c) b).length≤_
   have h1:=oPuts_len b (oPut lt a c)
   have h2:=oPut_len (lt:=lt) c a
   simp;omega
theorem oPuts_snoc (a b:List α) (c:α):oPuts lt a (b ++ [c])=oPut lt (oPuts lt a b) c:=by unfold oPuts;rw [List.foldl_append];rfl
variable [Inhabited α]
theorem oCompact_strict (h:OrdOK lt) (d:Array α) (hd:∀ i j,i < j→j < d.size→¬ lt d[j]! d[i]!):∀ m,m≤d.size→(Lib.compactUpTo d m).Pairwise lt∧(∀ x,x ∈ Lib.compactUpTo d m ↔ ∃ j,j < m∧d[j]! = x)
 | 0,_=>⟨by simp [Lib.compactUpTo],fun x=>by simp [Lib.compactUpTo]⟩
 | m + 1,hm=>by
   obtain ⟨h1,h2⟩:=oCompact_strict h d hd m (by omega)
   rw [Lib.compactUpTo_succ]
   cases hk:Lib.keeps d m with
   | true =>
     rw [if_pos rfl]
     have hlt:∀ x ∈ Lib.compactUpTo d m,lt x d[m]!:=fun x hx=>by
      obtain ⟨j,hj,rfl⟩:=(h2 x).1 hx
      have hk':m=0 ∨ d[m]! ≠ d[m - 1]!:=by simpa [Lib.keeps] using hk
      rcases hk' with e | e
      ·omega
      ·have h4:lt d[m - 1]! d[m]!:=by
        by_cases h5:lt d[m - 1]! d[m]!
        ·exact h5
        ·exact absurd (h.total _ _ (hd (m - 1) m (by omega) (by omega)) h5) e
       by_cases e3:j=m - 1
       ·rw [e3];exact h4
       ·have h6:=hd j (m - 1) (by omega) (by omega)
        by_cases h7:lt d[j]! d[m - 1]!
        ·exact h.trans _ _ _ h7 h4
        ·rw [h.total _ _ h7 h6];exact h4
     refine ⟨?_,fun x=>?_⟩
     ·rw [List.pairwise_append]
      exact ⟨h1,by simp,fun a ha b hb=>by rw [List.mem_singleton.1 hb];exact hlt a ha⟩
     ·rw [List.mem_append,h2,List.mem_singleton]
      constructor
      ·rintro (⟨j,hj,e⟩ | e)
       ·exact ⟨j,by omega,e⟩
       ·exact ⟨m,by omega,e.symm⟩
      ·rintro ⟨j,hj,e⟩
       by_cases e2:j < m
       ·exact .inl ⟨j,e2,e⟩
       ·obtain rfl:j=m:=by omega
        exact .inr e.symm
   | false =>
     rw [if_neg (by simp),List.append_nil]
     refine ⟨h1,fun x=>?_⟩
     rw [h2]
     have hk':m ≠ 0∧d[m]! = d[m - 1]!:=by simpa [Lib.keeps] using hk
     constructor
     ·rintro ⟨j,hj,e⟩;exact ⟨j,by omega,e⟩
     ·rintro ⟨j,hj,e⟩
      by_cases e2:j < m
      ·exact ⟨j,e2,e⟩
      ·obtain rfl:j=m:=by omega
       exact ⟨j - 1,by omega,by rw [← hk'.2];exact e⟩
theorem oCompact_spec (h:OrdOK lt) (L:List α) (hs:L.Pairwise (fun a b=>¬ lt b a)):(Lib.compact L).Pairwise lt∧∀ x,x ∈ Lib.compact L ↔ x ∈ L:=by
 have hd:∀ i j,i < j→j < L.toArray.size→¬ lt L.toArray[j]! L.toArray[i]!:=fun i j hij hj=>by
  have hj':j < L.length:=by simpa using hj
  rw [getElem!_pos _ i (by simp;omega),getElem!_pos _ j (by simpa using hj)]
  simpa using List.pairwise_iff_getElem.1 hs i j (by omega) hj' hij
 obtain ⟨h1,h2⟩:=oCompact_strict h L.toArray hd L.length (by simp)
 refine ⟨h1,fun x=>?_⟩
 refine (h2 x).trans ?_
 constructor
 ·rintro ⟨j,hj,rfl⟩
  rw [getElem!_pos _ j (by simpa using hj)];simp
 ·intro hx
  obtain ⟨j,hj,rfl⟩:=List.getElem_of_mem hx
  exact ⟨j,hj,by rw [getElem!_pos _ j (by simpa using hj)];simp⟩
theorem oPuts_compact (h:OrdOK lt) (l L:List α) (hp:L.Perm l) (hs:L.Pairwise (fun a b=>¬ lt b a)):oPuts lt [] l=Lib.compact L :=
 ord_unique h.irrefl h.trans _ _ (oPuts_asc h l [] List.Pairwise.nil) (oCompact_spec h L hs).1 (fun x=>by rw [oPuts_mem,(oCompact_spec h L hs).2,hp.mem_iff];simp)
end
-- numbers
theorem ordInt:OrdOK (fun a b:Int=>a < b):=⟨fun a h=>by omega,fun a b c h1 h2=>by omega,fun a b h1 h2=>by omega⟩
-- lists of numbers
-- how far two lists agree
end Go.Proofs.YtffcklfigpmlgaaGreatDoor
namespace Go.Proofs.YtffcklfigpmlgaaGreatDoor
open Go.RowKit Go.Unit0 Go.AM

theorem bl_inj41 {a b:List Str} (h:a.map bl=b.map bl):a=b:=by
 have e:∀ l:List Str,(l.map bl).map mkB=l:=fun l=>by rw [List.map_map];exact List.map_id'' mkB_bl l
 rw [← e a,h,e b]
theorem compB_bl (l:List Str):(compB (sortB l)).map bl=Lib.compact (sortBL (l.map bl)):=by
 have e:∀ m:List BL,(m.map mkB).map bl=m:=fun m=>by rw [List.map_map];exact List.map_id'' bl_mkB m
 unfold compB sortB
 rw [e,e];rfl
def setB (l:List Str):List Str:=compB (sortB l)
theorem setB_asc (l:List Str):((setB l).map bl).Pairwise (· < ·):=by unfold setB;rw [compB_bl];exact (csort_spec _).1
theorem bl_one {x y:Str} (e:bl x=bl y):x=y:=by rw [← mkB_bl x,e,mkB_bl]
theorem setB_mem (l:List Str) (x:Str):x ∈ setB l ↔ x ∈ l:=by
 have h:=(csort_spec (l.map bl)).2 (bl x)
 rw [← compB_bl] at h
 have inj:∀ m:List Str,bl x ∈ m.map bl ↔ x ∈ m:=fun m=>by
  rw [List.mem_map]
  constructor
  ·rintro ⟨y,hy,e⟩
   rw [← bl_one e];exact hy
  ·intro h;exact ⟨x,h,rfl⟩
 rw [inj,inj] at h
 exact h
theorem setB_len (l:List Str):(setB l).length≤l.length:=by
 have:=compB_len (sortB l)
 rw [sortB_len] at this
 exact this
theorem setB_ref {r l:List Str} (hr:r.map bl=foldL (l.map bl)):r=setB l:=bl_inj41 (by rw [hr];unfold setB;rw [compB_bl];exact fold_csort _)
theorem fldNames_le {m:Nat}:∀ {h:List Cls},(∀ x ∈ h,x.fields.length≤m)→(fldNames h).length≤h.length * m
 | [],_=>by simp [fldNames]
 | c :: h,k=>by
   have ih:=fldNames_le (h:=h) (fun x hx=>k x (List.mem_cons_of_mem _ hx))
   have hc:=k c (List.mem_cons_self ..)
   have e:fldNames (c :: h)=c.fields.map (·.name) ++ fldNames h:=by simp [fldNames]
   rw [e,List.length_append,List.length_map,List.length_cons,Nat.add_mul]
   omega
def nmF (s:Str):List Str→Nat→Int
 | [],_=>-1
 | x :: l,k=>if (x.toList == s.toList)=true then (k:Int) else nmF s l (k + 1)
def nmI (l:List Str) (s:Str):Int:=nmF s l 0
theorem nm_hit {s:Str} {l:List Str} {k:Nat} (hk:k < l.length) (e:(l[k].toList == s.toList)=true):nmF s (l.drop k) k=k:=by
 rw [List.drop_eq_getElem_cons hk];show (if _ then (k:Int) else _)=_;rw [if_pos e]
theorem nm_miss {s:Str} {l:List Str} {k:Nat} (hk:k < l.length) (e:(l[k].toList == s.toList)=false):nmF s (l.drop k) k=nmF s (l.drop (k + 1)) (k + 1):=by
 rw [List.drop_eq_getElem_cons hk];show (if _ then (k:Int) else _)=_;rw [if_neg (by simp [e])]
theorem nm_end {s:Str} {l:List Str} {k:Nat} (hk:l.length≤k):nmF s (l.drop k) k = -1:=by
 rw [List.drop_eq_nil_of_le hk];rfl
theorem nmF_spec (s:Str):∀ (l:List Str) (k:Nat),(nmF s l k = -1∧∀ j (hj:j < l.length),l[j] ≠ s) ∨ ∃ (j:Nat) (hj:j < l.length),nmF s l k=((k + j:Nat):Int)∧l[j]=s
 | [],k=>.inl ⟨rfl,fun j hj=>absurd hj (by simp)⟩
 | x :: l,k=>by
   by_cases e:(x.toList == s.toList)=true
   ·refine .inr ⟨0,by simp,?_,?_⟩
    ·show (if _ then (k:Int) else _)=_;rw [if_pos e];simp
    ·exact toList_inj (by simpa using e)
   ·have e1:nmF s (x :: l) k=nmF s l (k + 1):=by
     show (if _ then (k:Int) else _)=_;rw [if_neg e]
    rw [e1]
    rcases nmF_spec s l (k + 1) with ⟨h1,h2⟩ | ⟨j,hj,h1,h2⟩
    ·refine .inl ⟨h1,fun j hj=>?_⟩
     cases j with
     | zero=>intro e2;exact e (by have e2:x=s:=e2;rw [e2];simp)
     | succ j=>exact h2 j (by simpa using hj)
    ·exact .inr ⟨j + 1,by simp;omega,by rw [h1];omega,by simpa using h2⟩
theorem nmI_spec (l:List Str) (s:Str):(nmI l s = -1∧s ∉ l) ∨ ∃ (j:Nat) (hj:j < l.length),nmI l s=(j:Int)∧l[j]=s:=by
 rcases nmF_spec s l 0 with ⟨h1,h2⟩ | ⟨j,hj,h1,h2⟩
 ·refine .inl ⟨h1,fun hm=>?_⟩
  obtain ⟨j,hj,e⟩:=List.getElem_of_mem hm
  exact h2 j hj e
 ·exact .inr ⟨j,hj,by unfold nmI;rw [h1];simp,h2⟩
-- numbers put in
def iPut (l:List Int) (x:Int):List Int:=oPut (fun a b:Int=>a < b) l x
def iPuts (a b:List Int):List Int:=oPuts (fun a b:Int=>a < b) a b
theorem iPuts_mem (a b:List Int) (y:Int):y ∈ iPuts a b ↔ y ∈ a ∨ y ∈ b:=oPuts_mem y b a
theorem iPuts_asc (a b:List Int) (h:a.Pairwise (· < ·)):(iPuts a b).Pairwise (· < ·):=oPuts_asc ordInt b a h
theorem iPuts_len (a b:List Int):(iPuts a b).length≤a.length + b.length:=oPuts_len b a
theorem iPuts_snoc (a b:List Int) (c:Int):iPuts a (b ++ [c])=iPut (iPuts a b) c:=oPuts_snoc a b c
theorem iPuts_take {a b:List Int} {k:Nat} (hk:k < b.length):iPuts a (b.take (k + 1))=iPut (iPuts a (b.take k)) b[k]:=by rw [take_snoc hk,iPuts_snoc]
theorem iAsc_unique (a b:List Int) (ha:a.Pairwise (· < ·)) (hb:b.Pairwise (· < ·)) (h:∀ x,x ∈ a ↔ x ∈ b):a=b:=ord_unique ordInt.irrefl ordInt.trans a b ha hb h
theorem iPuts_same {a b:List Int} (ha:a.Pairwise (· < ·)) (hb:∀ x ∈ b,x ∈ a):iPuts a b=a :=
 iAsc_unique _ _ (iPuts_asc a b ha) ha (fun x=>by rw [iPuts_mem];constructor;· rintro (h | h);exact h;exact hb x h
                                                  ·exact .inl)
def inN (n:Nat) (s:Int):Bool:=decide (0≤s) && decide (s < (n:Int))
theorem inN_iff {n:Nat} {s:Int}:inN n s=true ↔ 0≤s∧s < n:=by unfold inN;simp
theorem inN_f1 {n:Nat} {s:Int} (h:s < 0):inN n s=false:=by unfold inN;rw [decide_eq_false (by omega)];rfl
theorem inN_f2 {n:Nat} {s:Int} (h:(n:Int)≤s):inN n s=false:=by unfold inN;rw [decide_eq_false (p:=s < n) (by omega)];simp
theorem inN_t {n:Nat} {s:Int} (h:0≤s) (h2:s < n):inN n s=true:=inN_iff.2 ⟨h,h2⟩
def knoL (n:Nat) (l:List Int):List Int:=iPuts [] (l.filter (inN n))
theorem knoL_asc (n:Nat) (l:List Int):(knoL n l).Pairwise (· < ·):=iPuts_asc _ _ List.Pairwise.nil
theorem knoL_mem {n:Nat} {l:List Int} {x:Int}:x ∈ knoL n l ↔ x ∈ l∧inN n x=true:=by unfold knoL;rw [iPuts_mem];simp
theorem knoL_len (n:Nat) (l:List Int):(knoL n l).length≤l.length:=by
 have h1:=iPuts_len [] (l.filter (inN n))
 have h2:=List.length_filter_le (inN n) l
 unfold knoL
 simp at h1;omega
theorem asc_nodup {l:List Int} (h:l.Pairwise (· < ·)):l.Nodup:=h.imp (fun h=>by omega)
theorem asc_len {n:Nat} {l:List Int} (h:l.Pairwise (· < ·)) (hr:∀ x ∈ l,inN n x=true):l.length≤n:=by
 have:=nodup_sub_len (m:=(List.range n).map (fun k:Nat=>(k:Int))) (asc_nodup h) (fun x hx=>by
  have:=inN_iff.1 (hr x hx)
  exact List.mem_map.2 ⟨x.toNat,by simp;omega,by omega⟩)
 simpa using this
theorem asc_more {a b:List Int} (ha:a.Pairwise (· < ·)) (hab:∀ x ∈ a,x ∈ b) (hn:¬ ∀ x ∈ b,x ∈ a):a.length < b.length:=by
 have:∃ x,x ∈ b∧x ∉ a:=by
  by_cases h:∃ x,x ∈ b∧x ∉ a
  ·exact h
  ·exact absurd (fun x hx=>Classical.byContradiction fun hx2=>h ⟨x,hx,hx2⟩) hn
 obtain ⟨x,hx,hxa⟩:=this
 have:=nodup_sub_len (l:=x :: a) (m:=b) (List.nodup_cons.2 ⟨hxa,asc_nodup ha⟩) (fun y hy=>by
  rcases List.mem_cons.1 hy with e | e
  ·rw [e];exact hx
  ·exact hab y e)
 simp at this
 omega
def celI (u:Unt) (r:Rsl) (s:Int) (f:Str):List Int :=
 if nmI (setB (fldNames u.h)) f < 0 ∨ s < 0 ∨ ((sitL u).length:Int)≤s then [] else (r.cells[(s * ((setB (fldNames u.h)).length:Int) + nmI (setB (fldNames u.h)) f).toNat]?).getD []
def nxtL (u:Unt) (r:Rsl) (L:List Cel):List Int:=L.flatMap (fun c=>celI u r c.s c.f)
theorem nxtL_snoc (u:Unt) (r:Rsl) (L:List Cel) (c:Cel):nxtL u r (L ++ [c])=nxtL u r L ++ celI u r c.s c.f:=by unfold nxtL;simp
def conL (u:Unt) (r:Rsl) (L:List Cel):List Int:=knoL (sitL u).length (nxtL u r L)
theorem conL_mem {u:Unt} {r:Rsl} {L:List Cel} {t:Int}:t ∈ conL u r L ↔ (∃ c ∈ L,t ∈ celI u r c.s c.f)∧inN (sitL u).length t=true:=by
 unfold conL nxtL;rw [knoL_mem,List.mem_flatMap]
theorem conL_asc (u:Unt) (r:Rsl) (L:List Cel):(conL u r L).Pairwise (· < ·):=knoL_asc _ _
theorem conL_in {u:Unt} {r:Rsl} {L:List Cel}:∀ t ∈ conL u r L,inN (sitL u).length t=true:=fun _ ht=>(conL_mem.1 ht).2
theorem conL_len (u:Unt) (r:Rsl) (L:List Cel):(conL u r L).length≤(sitL u).length:=asc_len (conL_asc u r L) conL_in
abbrev cfL (u:Unt) (f:Str) (l:List Int):List Cel:=celL u.h (sitL u) f l
theorem cfL_mem {u:Unt} {f:Str} {l:List Int} {c:Cel}:c ∈ cfL u f l ↔ c.s ∈ l∧c.f=f∧fldB u.h (sitL u) f c.s=true:=by
 unfold cfL celL
 rw [List.mem_map]
 constructor
 ·rintro ⟨s,hs,rfl⟩
  rw [List.mem_filter] at hs
  exact ⟨hs.1,rfl,hs.2⟩
 ·rintro ⟨h1,rfl,h3⟩
  exact ⟨c.s,List.mem_filter.2 ⟨h1,h3⟩,rfl⟩
theorem cfL_asc {u:Unt} {f:Str} {l:List Int} (h:l.Pairwise (· < ·)):CelAsc (cfL u f l):=by
 unfold cfL celL CelAsc
 rw [List.pairwise_map]
 exact (h.filter _).imp (fun h=>.inl h)
theorem celSet_same {l:List Cel} (h:CelAsc l):celSet l=l:=celAsc_unique _ _ (celSet_spec l).1 h (celSet_spec l).2
theorem fldB_in {h:List Cls} {S:List Sit} {f:Str} {s:Int} (e:fldB h S f s=true):inN S.length s=true:=by
 by_cases h1:s < 0
 ·rw [fldB_neg h1] at e;cases e
 ·by_cases h2:(S.length:Int)≤s
  ·rw [fldB_big h2] at e;cases e
  ·exact inN_t (by omega) (by omega)
def walkF (u:Unt) (r:Rsl) (S:List Int):List Str→List Cel × List Int
 | fs=>fs.foldl (fun st f=>(cfL u f st.2,conL u r (cfL u f st.2))) ([],S)
theorem walkF_nil (u:Unt) (r:Rsl) (S:List Int):walkF u r S []=([],S):=rfl
theorem walkF_take {u:Unt} {r:Rsl} {S:List Int} {fs:List Str} {k:Nat} (hk:k < fs.length) :
 walkF u r S (fs.take (k + 1))=(cfL u fs[k] (walkF u r S (fs.take k)).2,conL u r (cfL u fs[k] (walkF u r S (fs.take k)).2)):=by
 rw [take_snoc hk];unfold walkF;rw [List.foldl_append];rfl
theorem walkF_ok {u:Unt} {r:Rsl} {S:List Int} (hS:S.Pairwise (· < ·)) (hi:∀ x ∈ S,inN (sitL u).length x=true) {fs:List Str}:∀ k,k≤fs.length→(walkF u r S (fs.take k)).2.Pairwise (· < ·)∧(∀ x ∈ (walkF u r S (fs.take k)).2,inN (sitL u).length x=true)∧CelAsc (walkF u r S (fs.take k)).1
 | 0,_=>by rw [List.take_zero,walkF_nil];exact ⟨hS,hi,List.Pairwise.nil⟩
 | k + 1,hk=>by
   obtain ⟨h1,h2,h3⟩:=walkF_ok (r:=r) hS hi (fs:=fs) k (by omega)
   rw [walkF_take (by omega)]
   exact ⟨conL_asc _ _ _,conL_in,cfL_asc h1⟩
-- what is reached
inductive RchS (u:Unt) (r:Rsl) (S:List Int):Int→Prop
 | base {s:Int}:s ∈ S→RchS u r S s
 | step {s t:Int} {f:Str}:RchS u r S s→fldB u.h (sitL u) f s=true→t ∈ celI u r s f→inN (sitL u).length t=true→RchS u r S t
theorem RchS.inn {u:Unt} {r:Rsl} {S:List Int} (hi:∀ x ∈ S,inN (sitL u).length x=true) {s:Int} (h:RchS u r S s):inN (sitL u).length s=true:=by
 cases h with
 | base h=>exact hi s h
 | step _ _ _ h=>exact h
def stN (u:Unt) (r:Rsl) (st:List Int × List Cel) (f:Str):List Int × List Cel:=(iPuts st.1 (conL u r (cfL u f st.1)),celPuts st.2 (cfL u f st.1))
def rnd (u:Unt) (r:Rsl) (N:List Str) (st:List Int × List Cel):List Int × List Cel:=N.foldl (stN u r) st
def rnds (u:Unt) (r:Rsl) (N:List Str):Nat→List Int × List Cel→List Int × List Cel
 | 0,st=>st
 | k + 1,st=>rnd u r N (rnds u r N k st)
theorem rnd_take {u:Unt} {r:Rsl} {N:List Str} {st:List Int × List Cel} {k:Nat} (hk:k < N.length):rnd u r (N.take (k + 1)) st=stN u r (rnd u r (N.take k) st) N[k]:=by
 rw [take_snoc hk];unfold rnd;rw [List.foldl_append];rfl
structure StOk (u:Unt) (st:List Int × List Cel):Prop where
 a:st.1.Pairwise (· < ·)
 i:∀ x ∈ st.1,inN (sitL u).length x=true
 c:CelAsc st.2
theorem StOk.step {u:Unt} {r:Rsl} {st:List Int × List Cel} (h:StOk u st) (f:Str):StOk u (stN u r st f) :=
 ⟨iPuts_asc _ _ h.a,fun x hx=>((iPuts_mem _ _ x).1 hx).elim (h.i x) (conL_in x),celPuts_asc _ _ h.c⟩
theorem StOk.rnd {u:Unt} {r:Rsl}:∀ {N:List Str} {st:List Int × List Cel},StOk u st→StOk u (rnd u r N st)
 | [],_,h=>h
 | f :: N,st,h=>StOk.rnd (N:=N) (st:=stN u r st f) (h.step f)
theorem StOk.rnds {u:Unt} {r:Rsl} {N:List Str} {st:List Int × List Cel} (h:StOk u st):∀ k,StOk u (rnds u r N k st)
 | 0=>h
 | k + 1=>(StOk.rnds h k).rnd
theorem StOk.len {u:Unt} {st:List Int × List Cel} (h:StOk u st):st.1.length≤(sitL u).length:=asc_len h.a h.i
theorem rnd_mono {u:Unt} {r:Rsl}:∀ {N:List Str} {st:List Int × List Cel},(∀ x ∈ st.1,x ∈ (rnd u r N st).1)∧(∀ c ∈ st.2,c ∈ (rnd u r N st).2)
 | [],_=>⟨fun _ h=>h,fun _ h=>h⟩
 | f :: N,st=>by
   have h:=rnd_mono (u:=u) (r:=r) (N:=N) (st:=stN u r st f)
   exact ⟨fun x hx=>h.1 x ((iPuts_mem _ _ x).2 (.inl hx)),fun c hc=>h.2 c ((celPuts_mem c _ _).2 (.inl hc))⟩
theorem rnds_mono {u:Unt} {r:Rsl} {N:List Str} {st:List Int × List Cel}:∀ {k m:Nat},k≤m→(∀ x ∈ (rnds u r N k st).1,x ∈ (rnds u r N m st).1)∧(∀ c ∈ (rnds u r N k st).2,c ∈ (rnds u r N m st).2)
 | k,0,h=>by obtain rfl:k=0:=by omega
             exact ⟨fun _ h=>h,fun _ h=>h⟩
 | k,m + 1,h=>by
   by_cases e:k=m + 1
   ·subst e;exact ⟨fun _ h=>h,fun _ h=>h⟩
   ·have h1:=rnds_mono (u:=u) (r:=r) (N:=N) (st:=st) (k:=k) (m:=m) (by omega)
    have h2:=rnd_mono (u:=u) (r:=r) (N:=N) (st:=rnds u r N m st)
    exact ⟨fun x hx=>h2.1 x (h1.1 x hx),fun c hc=>h2.2 c (h1.2 c hc)⟩
def Snd (u:Unt) (r:Rsl) (S:List Int) (O:List Cel) (st:List Int × List Cel):Prop:=(∀ s ∈ st.1,RchS u r S s)∧(∀ c ∈ st.2,c ∈ O ∨ (RchS u r S c.s∧fldB u.h (sitL u) c.f c.s=true))
theorem Snd.step {u:Unt} {r:Rsl} {S:List Int} {O:List Cel} {st:List Int × List Cel} (h:Snd u r S O st) (f:Str):Snd u r S O (stN u r st f):=by
 refine ⟨fun t ht=>?_,fun c hc=>?_⟩
 ·rcases (iPuts_mem _ _ t).1 ht with h1 | h1
  ·exact h.1 t h1
  ·obtain ⟨⟨c,hc,h2⟩,h3⟩:=conL_mem.1 h1
   obtain ⟨h4,h5,h6⟩:=cfL_mem.1 hc
   exact .step (h.1 _ h4) h6 (by rw [← h5];exact h2) h3
 ·rcases (celPuts_mem c _ _).1 hc with h1 | h1
  ·exact h.2 c h1
  ·obtain ⟨h4,h5,h6⟩:=cfL_mem.1 h1
   exact .inr ⟨h.1 _ h4,by rw [h5];exact h6⟩
theorem Snd.rnd {u:Unt} {r:Rsl} {S:List Int} {O:List Cel}:∀ {N:List Str} {st:List Int × List Cel},Snd u r S O st→Snd u r S O (rnd u r N st)
 | [],_,h=>h
 | f :: N,st,h=>Snd.rnd (N:=N) (st:=stN u r st f) (h.step f)
theorem Snd.rnds {u:Unt} {r:Rsl} {S:List Int} {O:List Cel} {N:List Str} {st:List Int × List Cel} (h:Snd u r S O st):∀ k,Snd u r S O (rnds u r N k st)
 | 0=>h
 | k + 1=>(Snd.rnds h k).rnd
theorem rnd_stable {u:Unt} {r:Rsl}:∀ {N:List Str} {st:List Int × List Cel},StOk u st→(∀ x ∈ (rnd u r N st).1,x ∈ st.1)→∀ f ∈ N,(∀ t ∈ conL u r (cfL u f st.1),t ∈ st.1)∧(∀ c ∈ cfL u f st.1,c ∈ (rnd u r N st).2)
 | [],_,_,_,f,hf=>absurd hf (by simp)
 | g :: N,st,ok,hs,f,hf=>by
   have hm:=rnd_mono (u:=u) (r:=r) (N:=N) (st:=stN u r st g)
   have hg:∀ t ∈ conL u r (cfL u g st.1),t ∈ st.1:=fun t ht=>hs t (hm.1 t ((iPuts_mem _ _ t).2 (.inr ht)))
   have e:(stN u r st g).1=st.1:=iPuts_same ok.a hg
   rcases List.mem_cons.1 hf with rfl | hf
   ·exact ⟨hg,fun c hc=>hm.2 c ((celPuts_mem c _ _).2 (.inr hc))⟩
   ·have h:=rnd_stable (N:=N) (st:=stN u r st g) (ok.step g) (fun x hx=>by rw [e];exact hs x hx) f hf
    rw [e] at h
    exact h
theorem rnds_stop {u:Unt} {r:Rsl} {N:List Str} {st:List Int × List Cel} (ok:StOk u st):∃ k,k≤(sitL u).length∧∀ x ∈ (rnds u r N (k + 1) st).1,x ∈ (rnds u r N k st).1:=by
 refine Classical.byContradiction fun hno=>?_
 have hgrow:∀ k,k≤(sitL u).length + 1→k≤(rnds u r N k st).1.length:=by
  intro k
  induction k with
  | zero=>intro _;exact Nat.zero_le _
  | succ k ih =>
    intro hk
    have h1:=ih (by omega)
    have h2:=asc_more (StOk.rnds (r:=r) (N:=N) ok k).a (rnds_mono (u:=u) (r:=r) (N:=N) (st:=st) (k:=k) (m:=k + 1) (by omega)).1 (fun hx=>hno ⟨k,by omega,hx⟩)
    omega
 have h1:=hgrow ((sitL u).length + 1) (Nat.le_refl _)
 have h2:=(StOk.rnds (r:=r) (N:=N) ok ((sitL u).length + 1)).len
 omega
theorem rnds_spec {u:Unt} {r:Rsl} {N:List Str} {S:List Int} {O:List Cel} (ok:StOk u (S,O)) (hN:∀ f s,fldB u.h (sitL u) f s=true→f ∈ N) :
 ∀ c,c ∈ (rnds u r N ((sitL u).length + 1) (S,O)).2 ↔ c ∈ O ∨ (RchS u r S c.s∧fldB u.h (sitL u) c.f c.s=true):=by
 intro c
 constructor
 ·exact ((Snd.rnds (N:=N) (st:=(S,O)) ⟨fun s hs=>.base hs,fun c hc=>.inl hc⟩ _).2 c)
 ·obtain ⟨k,hk,hst⟩:=rnds_stop (r:=r) (N:=N) ok
  have hb:=rnd_stable (u:=u) (r:=r) (N:=N) (StOk.rnds ok k) hst
  have hS:∀ s,RchS u r S s→s ∈ (rnds u r N k (S,O)).1:=fun s hs=>by
   induction hs with
   | base h=>exact (rnds_mono (u:=u) (r:=r) (N:=N) (st:=(S,O)) (k:=0) (m:=k) (Nat.zero_le _)).1 _ h
   | step h1 h2 h3 h4 ih=>exact (hb _ (hN _ _ h2)).1 _ (conL_mem.2 ⟨⟨⟨_,_⟩,cfL_mem.2 ⟨ih,rfl,h2⟩,h3⟩,h4⟩)
  rintro (h | ⟨h1,h2⟩)
  ·exact (rnds_mono (u:=u) (r:=r) (N:=N) (st:=(S,O)) (k:=0) (m:=(sitL u).length + 1) (Nat.zero_le _)).2 _ h
  ·have h3:=(hb _ (hN _ _ h2)).2 c (cfL_mem.2 ⟨hS _ h1,rfl,h2⟩)
   exact (rnds_mono (u:=u) (r:=r) (N:=N) (st:=(S,O)) (k:=k + 1) (m:=(sitL u).length + 1) (by omega)).2 _ h3
-- the fields of a class
def fldsL (h:List Cls) (c:Str):List Str:=(supers h c).flatMap (fun x=>(findC h x).elim [] (fun k=>k.fields.map (·.name)))
theorem fieldF_some {h:List Cls} {f:Str}:∀ {L:List Str},(fieldF h f L).isSome=true→∃ x ∈ L,∃ c,findC h x=some c∧∃ g ∈ c.fields,g.name=f
 | [],e=>by simp [fieldF] at e
 | x :: L,e=>by
   unfold fieldF at e
   cases hb:(findC h x).bind (fun c=>fldIn c.fields f) with
   | some g =>
     obtain ⟨c,hc,hg⟩:=Option.bind_eq_some_iff.1 hb
     refine ⟨x,by simp,c,hc,g,?_,?_⟩
     ·exact List.mem_of_find?_eq_some hg
     ·have:=List.find?_some hg
      exact toList_inj (by simpa [eqB] using this)
   | none =>
     rw [hb] at e
     obtain ⟨y,hy,h1⟩:=fieldF_some (L:=L) e
     exact ⟨y,by simp [hy],h1⟩
theorem fieldP_flds {h:List Cls} {c f:Str} (e:(fieldP h c f).isSome=true):f ∈ fldsL h c:=by
 obtain ⟨x,hx,k,hk,g,hg,rfl⟩:=fieldF_some e
 exact List.mem_flatMap.2 ⟨x,hx,by rw [hk];exact List.mem_map.2 ⟨g,hg,rfl⟩⟩
theorem fieldP_names {h:List Cls} {c f:Str} (e:(fieldP h c f).isSome=true):f ∈ fldNames h:=by
 obtain ⟨x,hx,k,hk,g,hg,rfl⟩:=fieldF_some e
 unfold fldNames
 exact List.mem_flatMap.2 ⟨k,(findC_mem hk).1,List.mem_map.2 ⟨g,hg,rfl⟩⟩
theorem fldB_names {h:List Cls} {S:List Sit} {f:Str} {s:Int} (e:fldB h S f s=true):f ∈ setB (fldNames h):=by
 have h1:=inN_iff.1 (fldB_in e)
 obtain ⟨j,rfl⟩:∃ j:Nat,s=j:=⟨s.toNat,by omega⟩
 rw [fldB_at (by omega)] at e
 exact (setB_mem _ _).2 (fieldP_names e)
theorem fldB_flds {h:List Cls} {S:List Sit} {f:Str} {j:Nat} (hj:j < S.length) (e:fldB h S f (j:Int)=true):f ∈ setB (fldsL h S[j].c):=by
 rw [fldB_at hj] at e
 exact (setB_mem _ _).2 (fieldP_flds e)
-- the program's search
structure DI (u:Unt) (r:Rsl) (S:List Int) (bs:List Bool) (P:List Int) (O:List Cel):Prop where
 pr:∀ s ∈ P,RchS u r S s
 sr:∀ s,At bs s→RchS u r S s
 st:∀ s ∈ S,s ∈ P ∨ At bs s
 cl:∀ s,At bs s→∀ f,fldB u.h (sitL u) f s=true→∀ t ∈ celI u r s f,inN (sitL u).length t=true→t ∈ P ∨ At bs t
 ou:∀ c,c ∈ O ↔ (At bs c.s∧fldB u.h (sitL u) c.f c.s=true)
theorem DI.start (u:Unt) (r:Rsl) (S:List Int) (n:Nat):DI u r S (List.replicate n false) S [] where
 pr s hs:=.base hs
 sr s hs:=by
  have h:=hs.2
  rw [List.getElem?_replicate] at h
  split at h <;> simp at h
 st s hs:=.inl hs
 cl s hs:=by
  have h:=hs.2
  rw [List.getElem?_replicate] at h
  split at h <;> simp at h
 ou c:=by
  refine ⟨fun h=>by simp at h,fun h=>?_⟩
  have h:=h.1.2
  rw [List.getElem?_replicate] at h
  split at h <;> simp at h
theorem DI.pop {u:Unt} {r:Rsl} {S:List Int} {bs:List Bool} {P:List Int} {s:Int} {O:List Cel} (k:DI u r S bs (P ++ [s]) O) (hs:At bs s):DI u r S bs P O where
 pr x hx:=k.pr x (by simp [hx])
 sr:=k.sr
 st x hx:=by
  rcases k.st x hx with h | h
  ·rcases List.mem_append.1 h with h | h
   ·exact .inl h
   ·rw [List.mem_singleton.1 h];exact .inr hs
  ·exact .inr h
 cl x hx f hf t ht hi:=by
  rcases k.cl x hx f hf t ht hi with h | h
  ·rcases List.mem_append.1 h with h | h
   ·exact .inl h
   ·rw [List.mem_singleton.1 h];exact .inr hs
  ·exact .inr h
 ou:=k.ou
theorem at_set {bs:List Bool} {j:Nat} (hj:j < bs.length) {x:Int}:At (bs.set j true) x ↔ x=(j:Int) ∨ At bs x:=by
 unfold At
 by_cases hx:0≤x
 ·obtain ⟨m,rfl⟩:∃ m:Nat,x=m:=⟨x.toNat,by omega⟩
  rw [Int.toNat_natCast,List.getElem?_set]
  by_cases e:j=m
  ·subst e
   simp [hj]
  ·rw [if_neg e]
   constructor
   ·exact .inr
   ·rintro (h | h)
    ·omega
    ·exact h
 ·constructor
  ·intro h;exact absurd h.1 hx
  ·rintro (h | h)
   ·omega
   ·exact absurd h.1 hx
theorem DI.push {u:Unt} {r:Rsl} {S:List Int} {bs:List Bool} {P:List Int} {j:Nat} {O:List Cel} (k:DI u r S bs (P ++ [(j:Int)]) O) (hj:j < bs.length) (L:List Str) (hL:∀ f,fldB u.h (sitL u) f (j:Int)=true→f ∈ L) :
 DI u r S (bs.set j true) (P ++ L.flatMap (fun f=>conL u r (cfL u f [(j:Int)]))) (O ++ L.flatMap (fun f=>cfL u f [(j:Int)])) where
 pr x hx:=by
  rcases List.mem_append.1 hx with h | h
  ·exact k.pr x (by simp [h])
  ·obtain ⟨f,_,h⟩:=List.mem_flatMap.1 h
   obtain ⟨⟨c,hc,h2⟩,h3⟩:=conL_mem.1 h
   obtain ⟨h4,h5,h6⟩:=cfL_mem.1 hc
   rw [List.mem_singleton.1 h4] at h2 h6
   rw [h5] at h2
   exact .step (k.pr _ (by simp)) h6 h2 h3
 sr x hx:=by
  rcases (at_set hj).1 hx with h | h
  ·rw [h];exact k.pr _ (by simp)
  ·exact k.sr x h
 st x hx:=by
  rcases k.st x hx with h | h
  ·rcases List.mem_append.1 h with h | h
   ·exact .inl (by simp [h])
   ·exact .inr ((at_set hj).2 (.inl (List.mem_singleton.1 h)))
  ·exact .inr ((at_set hj).2 (.inr h))
 cl x hx f hf t ht hi:=by
  rcases (at_set hj).1 hx with h | h
  ·subst h
   exact .inl (List.mem_append_right _ (List.mem_flatMap.2 ⟨f,hL f hf,conL_mem.2 ⟨⟨⟨_,f⟩,cfL_mem.2 ⟨by simp,rfl,hf⟩,ht⟩,hi⟩⟩))
  ·rcases k.cl x h f hf t ht hi with h | h
   ·rcases List.mem_append.1 h with h | h
    ·exact .inl (by simp [h])
    ·exact .inr ((at_set hj).2 (.inl (List.mem_singleton.1 h)))
   ·exact .inr ((at_set hj).2 (.inr h))
 ou c:=by
  rw [List.mem_append,k.ou,at_set hj,List.mem_flatMap]
  constructor
  ·rintro (h | ⟨f,hf,h⟩)
   ·exact ⟨.inr h.1,h.2⟩
   ·obtain ⟨h4,h5,h6⟩:=cfL_mem.1 h
    exact ⟨.inl (List.mem_singleton.1 h4),by rw [h5];exact h6⟩
  ·rintro ⟨h | h,h2⟩
   ·refine .inr ⟨c.f,hL _ (by rw [← h];exact h2),cfL_mem.2 ⟨by simp [h],rfl,h2⟩⟩
   ·exact .inl ⟨h,h2⟩
theorem DI.done {u:Unt} {r:Rsl} {S:List Int} {bs:List Bool} {O:List Cel} (k:DI u r S bs [] O) (c:Cel):c ∈ O ↔ (RchS u r S c.s∧fldB u.h (sitL u) c.f c.s=true):=by
 rw [k.ou]
 have h:∀ s,RchS u r S s→At bs s:=fun s hs=>by
  induction hs with
  | base h=>exact (k.st _ h).elim (fun h=>by simp at h) id
  | step h1 h2 h3 h4 ih=>exact (k.cl _ ih _ h2 _ h3 h4).elim (fun h=>by simp at h) id
 constructor
 ·rintro ⟨h1,h2⟩;exact ⟨k.sr _ h1,h2⟩
 ·rintro ⟨h1,h2⟩;exact ⟨h _ h1,h2⟩
theorem search_same {u:Unt} {r:Rsl} {S:List Int} {O A:List Cel} (ok:StOk u (S,O)) (hA:∀ c,c ∈ A ↔ (RchS u r S c.s∧fldB u.h (sitL u) c.f c.s=true)) :
 celSet (O ++ A)=(rnds u r (setB (fldNames u.h)) ((sitL u).length + 1) (S,O)).2 :=
 celAsc_unique _ _ (celSet_spec _).1 (StOk.rnds ok _).c (fun c=>by
  rw [(celSet_spec _).2,List.mem_append,hA,rnds_spec ok (fun f s h=>fldB_names h)])
-- the cells of a path
end Go.Proofs.YtffcklfigpmlgaaGreatDoor
namespace Go.Proofs.YtffcklfigpmlgaaGreatDoor
open Go.RowKit Go.Unit0 Go.Sort

set_option maxRecDepth 100000 in
theorem intHi (a:Option Addr) (n cap k:Nat) (h:k≤cap) (w:World):(Instr.slice 28 (.slice a n cap) none (some (.int .i64 (k:Int))) none).run Tryz.prog w = .ok (.slice a k cap) w:=by
 have hs:(sizeOf (Tryz.prog.elem 28)).run Tryz.prog w = .ok 1 w:=by kernel_rfl
 rw [run_slice_h w 28 a n cap Tryz.underlying28 .i64 (k:Int) (by omega) (by omega),hs]
 have e:a.map (fun x=>x.add 0)=a:=by
  cases a with
  | none=>rfl
  | some x=>simp [Addr.add]
 simp [Result.andThen,sliced,e]
theorem intsAt_take {w:World} {a:Option Addr} {l:List Int} (h:IntsAt w a l) (n:Nat):IntsAt w a (l.take n):=by
 intro k hk
 have hk':k < l.length:=by simp at hk;omega
 obtain ⟨b,off,ha,hc⟩:=h k hk'
 exact ⟨b,off,ha,by rw [hc];simp⟩
set_option maxRecDepth 100000 in
theorem intLo (a:Option Addr) (n cap m:Nat) (hm:m≤n) (hc:n≤cap):∃ a',(∀ w:World,(Instr.slice 28 (.slice a n cap) (some (.int .i64 (m:Int))) none none).run Tryz.prog w = .ok (.slice a' (n - m) (cap - m)) w)∧∀ (w:World) (l:List Int),l.length=n→IntsAt w a l→IntsAt w a' (l.drop m):=by
 refine ⟨if cap=m then a else a.map (fun x=>x.add m),fun w=>?_,fun w l hl h k hk=>?_⟩
 ·have hs:(sizeOf (Tryz.prog.elem 28)).run Tryz.prog w = .ok 1 w:=by kernel_rfl
  rw [run_slice_l w 28 a n cap Tryz.underlying28 .i64 (m:Int) (by omega) (by omega),hs]
  by_cases e:cap=m
  ·subst e
   have e2:a.map (fun x=>x.add 0)=a:=by
    cases a with
    | none=>rfl
    | some x=>simp [Addr.add]
   simp [Result.andThen,sliced]
  ·simp [Result.andThen,sliced,e]
 ·have hk':m + k < l.length:=by simp at hk;omega
  obtain ⟨b,off,ha,h0⟩:=h (m + k) hk'
  subst ha
  refine ⟨b,off + m,?_,?_⟩
  ·rw [if_neg (by omega)];simp [addr_add]
  ·rw [show off + m + k=off + (m + k) by omega,h0,List.getElem_drop]
def IntsLie (L:List Int) (w:World) (e:Ending) (w':World):Prop :=
 Below w.heap.size w w'∧∃ a c,e = .returned (.slice a L.length c)∧L.length≤c∧IntsAt w' a L
set_option maxRecDepth 100000 in
set_option maxHeartbeats 8000000 in
theorem insertR23 (l:List Int) (x:Int) (la:Option Addr) (lc:Nat) (w:World) (hs:IntsAt w la l) (hc:l.length≤lc) (hl:l.length≤900000) :
 Calls Tryz.prog 34 #[.slice la l.length lc,.int .i64 x] w (IntsLie (iPut l x) w):=by
 have HL:=Lib.hid hs
 have HP1:Hid (∀ (k:Nat),(∀ j (hj:j < l.length),j < k→l[j] < x)→∀ (hk:k < l.length),l[k]=x→iPut l x=l):=fun k h hk e=>oPut_same ordInt x l k h hk e
 have HP2:Hid (∀ (k:Nat),(∀ j (hj:j < l.length),j < k→l[j] < x)→k≤l.length→(∀ hk:k < l.length,¬ l[k] < x∧l[k] ≠ x)→iPut l x=l.take k ++ [x] ++ l.drop k):=fun k h hk e=>oPut_new x l k h hk e
 clear hs
 generalize iPut l x=R at *
 go_enter Tryz.func34,Tryz.ntmps34
 go_upto_block 0 with (fail)
 go_cut [5] (fun v wx=>∃ k:Nat,k≤l.length∧v = .int .i64 k∧Hid (w=wx)∧Hid (∀ j (hj:j < l.length),j < k→l[j] < x)∧Hid (∀ hk:k < l.length,¬ l[k] < x))
 case first =>
  clear HP1 HP2
  go_wp2
  go_loop [5] (fun v=>∃ k:Nat,k≤l.length∧v = .int .i64 k∧Hid (∀ j (hj:j < l.length),j < k→l[j] < x)) (fun v=>l.length - (intOf v).toNat)
  case atStart=>exact ⟨0,Nat.zero_le _,rfl,fun j _ h=>absurd h (by omega)⟩
  case round =>
   obtain ⟨k,hk,rfl,HJ⟩:=hrel
   by_cases hlt:k < l.length
   case neg =>
    have HK:Hid (∀ hk:k < l.length,¬ l[k] < x):=fun h=>absurd h hlt
    go_wp2
    go_meet
    exact ⟨k,hk,rfl,rfl,HJ.out,HK.out⟩
   case pos =>
    obtain ⟨b,off,he,c0⟩:=HL.out k hlt
    subst he
    have HJN:Hid (l[k] < x→∀ j (hj:j < l.length),j < k + 1→l[j] < x):=fun e j hj hjk=>by
     by_cases e2:j < k
     ·exact HJ.out j hj e2
     ·obtain rfl:j=k:=by omega
      exact e
    have HKN:Hid (¬ l[k] < x→∀ hk:k < l.length,¬ l[k] < x):=fun e _=>e
    generalize hy:l[k]=y at c0 HJN HKN
    clear hy
    by_cases hxy:y < x
    ·have HJ2:=Lib.hid (HJN.out hxy)
     have t1:=decide_eq_true hxy
     clear hxy HJN HKN HJ
     go_wp2
     go_round
     case rel=>exact ⟨k + 1,by omega,by go_num,HJ2.out⟩
     case measure=>simp [intOf];omega
    ·have HK:=Lib.hid (HKN.out hxy)
     have t1:=decide_eq_false hxy
     clear hxy HJN HKN
     go_wp2
     go_meet
     exact ⟨k,hk,rfl,rfl,HJ.out,HK.out⟩
 case rest =>
  obtain ⟨k,hk,rfl,HW,HJ,HK⟩:=hcut
  obtain rfl:=HW.out
  clear HW
  replace HP1:=Lib.hid (HP1.out k HJ.out)
  replace HP2:=Lib.hid (HP2.out k HJ.out hk)
  clear HJ
  by_cases hf:∃ hlt:k < l.length,l[k]=x
  case pos =>
   obtain ⟨hlt,e1⟩:=hf
   have HE:=Lib.hid (HP1.out hlt e1)
   obtain ⟨b,off,he,c0⟩:=HL.out k hlt
   subst he
   rw [e1] at c0
   clear e1 HP1 HP2 HK
   go_wp2
   go_ret
   exact ⟨Below.refl _ _,_,lc,by rw [HE.out];rfl,by rw [HE.out];exact hc,by rw [HE.out];exact HL.out⟩
  case neg =>
   have HE:Hid (R=l.take k ++ [x] ++ l.drop k):=HP2.out fun h=>⟨HK.out h,fun e=>hf ⟨h,e⟩⟩
   clear HP1 HP2 HK
   go_upto_region 4 with (fail)
   go_cut [32] (fun v wx=>v = .bool false∧Hid (w=wx))
   case first =>
    clear HE
    by_cases hlt:k < l.length
    ·obtain ⟨b,off,he,c0⟩:=HL.out k hlt
     subst he
     have e1:(l[k] == x)=false:=beq_eq_false_iff_ne.2 (fun e=>hf ⟨hlt,e⟩)
     clear hf
     generalize l[k]=y at *
     go_wp2
     go_meet
     exact ⟨rfl,rfl⟩
    ·clear hf
     go_wp2
     go_meet
     exact ⟨rfl,rfl⟩
   case rest =>
    obtain ⟨rfl,HW⟩:=hcut
    obtain rfl:=HW.out
    clear HW hf
    obtain ⟨m1,m2,hl12,hk1⟩:∃ m1 m2:List Int,l=m1 ++ m2∧k=m1.length:=⟨l.take k,l.drop k,(List.take_append_drop k l).symm,by simp;omega⟩
    subst hk1
    have HR:Hid (R=m1 ++ [x] ++ m2):=by
     show _=_
     rw [HE.out,hl12,List.take_left' rfl,List.drop_left' rfl]
    have HLN:Hid (l.length=m1.length + m2.length):=by show _=_;rw [hl12,List.length_append]
    have hm1:m1.length≤900000:=by have:=HLN.out;omega
    have hm2:m2.length≤900000:=by have:=HLN.out;omega
    have HA1:Hid (∀ wx,IntsAt wx la l→IntsAt wx la m1):=fun wx h=>by
     have:=intsAt_take h m1.length
     rw [hl12,List.take_left' rfl] at this
     exact this
    obtain ⟨a2,hsl,hdr⟩:=intLo la l.length lc m1.length hk hc
    have HA2:Hid (∀ wx,IntsAt wx la l→IntsAt wx a2 m2):=fun wx h=>by
     have:=hdr wx l rfl h
     rw [hl12,List.drop_left' rfl] at this
     exact this
    have hd:l.length - m1.length=m2.length:=by have:=HLN.out;omega
    rw [hd] at hsl
    have hs1:=intHi la l.length lc m1.length (by omega)
    clear hdr hd hl12 HE
    have OA:Hid (w.ownsRow w.heap.size 3 1 (.slice none 0 0) ([]:List Int).length (([]:List Int).map intV)):=World.ownsRow_nil _ _ _ _
    have AT:=Lib.hid (HA1.out _ HL.out)
    have h01:([]:List Int).length≤1000000:=by simp
    have h02:m1.length≤1000000:=by omega
    go_upto_region 8 with (at_builtin;refine app_ints rfl _ _ rfl w.heap.size _ [] rfl OA.out la lc m1 rfl AT.out h01 h02 (Nat.le_refl _) ?_;intro v3 w3 own3 hg3)
    rw [List.nil_append] at own3
    obtain ⟨-,oa3,oc3,rfl,-,-⟩:=owns_ints own3
    have S3:=Lib.hid (grow_below (Below.refl w.heap.size w) OA.out hg3)
    have O3:=Lib.hid own3
    clear own3 hg3 OA AT hs1
    have O4:=Lib.hid (owns_below O3.out (one_below w3 (.cells #[.int .i64 x] 3)))
    have B4:Hid (Blk (w3.alloc (.cells #[.int .i64 x] 3)) w3.heap.size #[.int .i64 x] 3):=blk_new ..
    have S4:=Lib.hid (S3.out.trans ((one_below w3 (.cells #[.int .i64 x] 3)).mono S3.out.size))
    have hb4:=S4.out.size
    go_upto_region 9 with (at_builtin;refine app_intF rfl _ _ rfl w.heap.size _ m1 rfl O4.out w3.heap.size x rfl B4.out h02 hb4 ?_;intro v5 w5 own5 hg5 _)
    have H5:=Lib.hid (grow_below S4.out O4.out hg5)
    obtain ⟨-,oa5,oc5,rfl,-,-⟩:=owns_ints own5
    have O5:=Lib.hid own5
    clear own5 hg5 S4 B4 O4 O3 S3
    have AT5:=Lib.hid (HA2.out _ (HL.out.below H5.out))
    have hb5:=H5.out.size
    have h04:(m1 ++ [x]).length≤1000000:=by simp;omega
    have h05:m2.length≤1000000:=by omega
    go_wp2_with (at_builtin;refine app_ints rfl _ _ rfl w.heap.size _ (m1 ++ [x]) rfl O5.out a2 (lc - m1.length) m2 rfl AT5.out h04 h05 hb5 ?_;intro v7 w7 own7 hg7)
    have H7:=Lib.hid (grow_below H5.out O5.out hg7)
    obtain ⟨-,oa7,oc7,rfl,-,-⟩:=owns_ints own7
    have O7:=Lib.hid (owns_ints' own7)
    clear own7 hg7
    go_wp2
    go_ret
    exact ⟨H7.out,oa7,oc7,by rw [HR.out];rfl,by rw [HR.out];exact O7.out.1,by rw [HR.out];exact O7.out.2⟩
def sortI (l:List Int):List Int:=l.mergeSort fun x y=>decide (x≤y)
theorem sortI_perm (l:List Int):(sortI l).Perm l:=List.mergeSort_perm _ _
theorem sortI_len (l:List Int):(sortI l).length=l.length:=(sortI_perm l).length_eq
theorem sortI_le (l:List Int):(sortI l).Pairwise (·≤·):=by
 have h:=List.pairwise_mergeSort (le:=fun (x y:Int)=>decide (x≤y)) (fun a b c h1 h2=>by simp at *;omega) (fun a b=>by simp;omega) l
 exact h.imp fun h=>by simpa using h
set_option maxHeartbeats 1000000 in
theorem sort_ownI (l:List Int) (a:Option Addr) (c base:Nat) (w:World) (own:w.ownsRow base 3 1 (.slice a l.length c) l.length (l.map intV)) (hl:l.length≤1000000) :
 Calls Tryz.prog 51 #[.slice a l.length c] w (fun e w'=>e = .returned (.tuple #[])∧w.grownBy w' (Value.slice a l.length c).ownBlock∧w'.ownsRow base 3 1 (.slice a l.length c) l.length ((sortI l).map intV)):=by
 have own0:=own
 obtain ⟨_,hown⟩:=own
 rcases hown with ⟨e,h0⟩ | ⟨g,cap,cur,e,hbase,hh,hn,hcap,hsz,ht⟩
 ·have hl0:l = []:=List.eq_nil_of_length_eq_zero h0
  subst hl0
  cases e
  have e0:sortI [] = []:=by simp [sortI]
  rw [e0]
  refine (Tryz.slices_Sort_int_none none 0 w).mono ?_
  rintro e w' ⟨rfl,rfl⟩
  exact ⟨rfl,World.grownBy.refl _ _,own0⟩
 ·cases e
  have hH:=holds_of_blockI (ss:=l) hh (by rw [Nat.mul_one] at ht;exact ht)
  have h:=Tryz.slices_Sort_int g 0 c l w hH (Array.getElem?_eq_some_iff.1 hh).1 (by omega)
  refine h.mono ?_
  rintro e w' ⟨rfl,n,os,rfl⟩
  have ow:=ownsRow_sortedI (n:=n) (os:=os) (ts:=sortI l) (sortI_len l) hbase hh (by omega) hcap hsz
  exact ⟨rfl,grownBy_sortedI _,ow⟩
set_option maxHeartbeats 1000000 in
theorem comp_ownI (l:List Int) (a:Option Addr) (c base:Nat) (w:World) (own:w.ownsRow base 3 1 (.slice a l.length c) l.length (l.map intV)) (hl:l.length≤1000000) :
 Calls Tryz.prog 52 #[.slice a l.length c] w (fun e w'=>∃ n,n=(Lib.compact l).length∧e = .returned (.slice a n c)∧w.grownBy w' (Value.slice a l.length c).ownBlock∧w'.ownsRow base 3 1 (.slice a n c) n ((Lib.compact l).map intV)):=by
 have own0:=own
 obtain ⟨_,hown⟩:=own
 rcases hown with ⟨e,h0⟩ | ⟨g,cap,cur,e,hbase,hh,hn,hcap,hsz,ht⟩
 ·have hl0:l = []:=List.eq_nil_of_length_eq_zero h0
  subst hl0
  cases e
  have e0:Lib.compact ([]:List Int) = []:=by simp [Lib.compact,Lib.compactUpTo]
  rw [e0]
  refine (Tryz.slices_Compact_int_empty none 0 w).mono ?_
  rintro e w' ⟨rfl,rfl⟩
  exact ⟨0,rfl,rfl,World.grownBy.refl _ _,own0⟩
 ·cases e
  have hH:=holds_of_blockI (ss:=l) hh (by rw [Nat.mul_one] at ht;exact ht)
  have h:=Tryz.slices_Compact_int g 0 c l w hH (by omega) (by omega)
  refine h.mono ?_
  rintro e w' ⟨rfl,n,rfl⟩
  have hcl:(Lib.compact l).length≤l.length:=Lib.compact_length_le _
  generalize hts:Lib.compact l ++ List.replicate (l.length - (Lib.compact l).length) 0=ts
  have hs:ts.length=l.length:=by rw [← hts];simp;omega
  have ow:=ownsRow_sortedI (n:=n) (os:=#[]) (ts:=ts) hs hbase hh (by omega) hcap hsz
  have hg:=grownBy_sortedI (w:=w) (g:=g) (n:=n) (os:=#[]) ts.toArray
  rw [grow_empty] at ow hg
  have ht2:ts.take (Lib.compact l).length=Lib.compact l:=by rw [← hts];simp
  have ow2:=owns_take ow hcl (by simp)
  rw [← List.map_take,ht2] at ow2
  exact ⟨_,rfl,rfl,hg,ow2⟩
theorem iPuts_sorted (l:List Int):iPuts [] l=Lib.compact (sortI l) :=
 oPuts_compact ordInt l (sortI l) (sortI_perm l) ((sortI_le l).imp fun h=>by omega)
end Go.Proofs.YtffcklfigpmlgaaGreatDoor
namespace Go.Proofs.YtffcklfigpmlgaaGreatDoor
open Go.RowKit Go.Unit0 Go.AM

abbrev hpA (u:Unt) (ha:Option Addr) (hc:Nat) (fa:Option Addr) (fc:Nat) (r:Rsl) (p:RP) (sa:Option Addr) (sc n:Nat):Array Value :=
 #[.slice ha u.h.length hc,.slice fa u.fs.length fc,.int .i64 u.main,.slice p.ra r.reached p.rc,.slice p.ca r.calls.length p.cc,.slice p.va r.vars.length p.vc,.slice p.xa r.cells.length p.xc,.slice sa n sc]
abbrev hpV (u:Unt) (ha:Option Addr) (hc:Nat) (fa:Option Addr) (fc:Nat) (r:Rsl) (p:RP) (sa:Option Addr) (sc n:Nat):Value:=.agg (hpA u ha hc fa fc r p sa sc n)
abbrev hpC (u:Unt) (ha:Option Addr) (hc:Nat) (fa:Option Addr) (fc:Nat) (r:Rsl) (p:RP) (sa:Option Addr) (sc n:Nat):Obj:=.cells (hpA u ha hc fa fc r p sa sc n) 65
set_option maxRecDepth 100000 in
set_option maxHeartbeats 8000000 in
theorem known41 (u:Unt) (ha:Option Addr) (hc:Nat) (fa:Option Addr) (fc:Nat) (r:Rsl) (p:RP) (sa:Option Addr) (sc n:Nat) (L:List Int) (la:Option Addr) (lc:Nat) (w:World) (hL:IntsAt w la L) (hll:L.length≤1000000) :
 Calls Tryz.prog 21 #[hpV u ha hc fa fc r p sa sc n,.slice la L.length lc] w (IntsPost (knoL n L) w):=by
 have B0:Hid (Blk (w.alloc (hpC u ha hc fa fc r p sa sc n)) w.heap.size (hpA u ha hc fa fc r p sa sc n) 65):=blk_new ..
 have HB0:=Lib.hid (one_below w (hpC u ha hc fa fc r p sa sc n))
 have HZ:Hid (w.heap.size < (w.alloc (hpC u ha hc fa fc r p sa sc n)).heap.size):=by show _ < _;simp
 have HL:=Lib.hid (hL.below HB0.out)
 have HRE:Hid (Lib.compact (sortI ((L.take L.length).filter (inN n)))=knoL n L):=by show _=_;rw [List.take_length,← iPuts_sorted];rfl
 have HLL:Hid (∀ k,((L.take k).filter (inN n)).length≤L.length):=fun k=>Nat.le_trans (List.length_filter_le _ _) (by simp;omega)
 have HAF:Hid (∀ k (hk:k < L.length),inN n L[k]=false→(L.take (k + 1)).filter (inN n)=(L.take k).filter (inN n)):=fun k hk e=>by rw [take_snoc hk,List.filter_append];simp [e]
 have HAT:Hid (∀ k (hk:k < L.length),inN n L[k]=true→(L.take (k + 1)).filter (inN n)=(L.take k).filter (inN n) ++ [L[k]]):=fun k hk e=>by rw [take_snoc hk,List.filter_append];simp [e]
 clear hL
 generalize knoL n L=R at *
 obtain ⟨G,hG⟩:∃ G:Nat→List Int,G=fun k=>(L.take k).filter (inN n):=⟨_,rfl⟩
 have HG:Hid (∀ k,(L.take k).filter (inN n)=G k):=fun k=>by rw [hG]
 have H00:Hid (G 0 = []):=by show _=_;rw [hG];rfl
 clear hG
 simp only [HG.out] at HLL HAF HAT HRE
 clear HG
 unfold hpV hpC hpA at *
 go_enter Tryz.func21,Tryz.ntmps21
 go_upto_region 1 with (fail)
 generalize w.alloc _=W at *
 have P0:Hid (Below W.heap.size W W):=Below.refl _ _
 go_wp2
 go_loopw [5,10] (fun v i wr=>∃ (k:Nat) (oa:Option Addr) (oc:Nat),k≤L.length∧v = .slice oa (G k).length oc∧i = .int .i64 k∧Hid (Below W.heap.size W wr)∧Hid (wr.ownsRow W.heap.size 3 1 (.slice oa (G k).length oc) (G k).length ((G k).map intV))) (fun _ i _=>L.length - (intOf i).toNat)
 case atStart=>exact ⟨0,none,0,Nat.zero_le _,by rw [H00.out];rfl,rfl,P0.out,by rw [H00.out];exact World.ownsRow_nil _ _ _ _⟩
 case round =>
  clear P0 H00
  obtain ⟨k,oa,oc,hk,rfl,rfl,S,O⟩:=hrel
  have hgl:=HLL.out k
  by_cases hlt:k < L.length
  case neg =>
   obtain rfl:k=L.length:=by omega
   have hg1:(G L.length).length≤1000000:=by omega
   go_wp2_with fail
   refine (sort_ownI (G L.length) oa oc W.heap.size wr O.out hg1).mono ?_
   rintro e w1 ⟨rfl,hg,own1⟩
   have S1:=Lib.hid (S.out.grown hg S.out.size (fun q hq=>(O.out.lt q hq).1))
   have O1:=Lib.hid own1
   clear own1 hg S O
   have hsl:(sortI (G L.length)).length=(G L.length).length:=sortI_len _
   generalize sortI (G L.length)=M at *
   rw [← hsl] at O1
   have hM:M.length≤1000000:=by omega
   go_wp2_with fail
   rw [← hsl]
   refine (comp_ownI M oa oc W.heap.size w1 O1.out hM).mono ?_
   rintro e w2 ⟨n2,hn2,rfl,hg2,own2⟩
   have S2:=Lib.hid (S1.out.grown hg2 S1.out.size (fun q hq=>(O1.out.lt q hq).1))
   have O2:=Lib.hid own2
   have HN:=Lib.hid hn2
   clear own2 hg2 S1 O1 hn2
   go_wp2
   go_ret
   have hf:Below w.heap.size w w2:=HB0.out.trans (S2.out.mono HB0.out.size)
   have ho:=O2.out
   rw [HRE.out] at HN ho
   rw [HN.out] at ho ⊢
   exact ⟨hf,oa,oc,rfl,owns_mono ho (Nat.le_of_lt HZ.out)⟩
  obtain ⟨b1,o1,he,p1⟩:=(HL.out.below S.out) k hlt
  subst he
  have z7:=(B0.out.below S.out).cell 7 (by simp)
  simp only [List.getElem_toArray,List.getElem_cons_zero,List.getElem_cons_succ] at z7
  have HAF1:=Lib.hid (HAF.out k hlt)
  have HAT1:=Lib.hid (HAT.out k hlt)
  generalize L[k]=s at *
  by_cases h1:s < 0
  case pos =>
   have t1:decide (0≤s)=false:=decide_eq_false (by omega)
   have HN:=Lib.hid (HAF1.out (inN_f1 h1))
   clear h1
   go_wp2
   go_roundw
   case rel=>exact ⟨k + 1,oa,oc,by omega,by rw [HN.out],by go_num,S.out,by rw [HN.out];exact O.out⟩
   case measure=>simp [intOf];omega
  have t1:decide (0≤s)=true:=decide_eq_true (by omega)
  by_cases h2:(n:Int)≤s
  case pos =>
   have t2:decide (s < (n:Int))=false:=decide_eq_false (by omega)
   have HN:=Lib.hid (HAF1.out (inN_f2 h2))
   clear h1 h2
   go_wp2
   go_roundw
   case rel=>exact ⟨k + 1,oa,oc,by omega,by rw [HN.out],by go_num,S.out,by rw [HN.out];exact O.out⟩
   case measure=>simp [intOf];omega
  have t2:decide (s < (n:Int))=true:=decide_eq_true (by omega)
  have HN:=Lib.hid (HAT1.out (inN_t (by omega) (by omega)))
  clear h1 h2
  have O3:=Lib.hid (owns_below O.out (one_below wr (.cells #[.int .i64 s] 3)))
  have hb3:Below W.heap.size W (wr.alloc (.cells #[.int .i64 s] 3)):=S.out.trans ((one_below ..).mono S.out.size)
  have hbs3:=hb3.size
  have hg1:(G k).length≤1000000:=by omega
  go_wp2_with (at_builtin;refine app_ints rfl _ _ rfl W.heap.size _ (G k) rfl O3.out _ 1 [s] rfl (ints_new _ _) hg1 (by simp) hbs3 ?_;intro v7 W7 own7 hg7;obtain ⟨-,oa7,oc7,rfl,-,-⟩:=owns_ints own7)
  have S7:=Lib.hid (hb3.grown hg7 hbs3 (fun q hq=>(O3.out.lt q hq).1))
  rw [← HN.out] at own7
  have O7:=Lib.hid own7
  clear own7 hg7 O3 hb3 S O
  go_roundw
  case rel=>exact ⟨k + 1,oa7,oc7,by omega,(by rw [HN.out];simp),by go_num,S7.out,O7.out⟩
  case measure=>simp [intOf];omega
end Go.Proofs.YtffcklfigpmlgaaGreatDoor
