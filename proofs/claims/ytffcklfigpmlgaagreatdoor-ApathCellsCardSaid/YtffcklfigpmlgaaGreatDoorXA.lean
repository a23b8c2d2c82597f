/-
  Strings against the bytes that the reference compares.
  Plain: cells of fields, in their order: put in one by one, and sorted and compacted.
  Rows of cells of fields. (Printed by genk2.py.)
  The reference's Less, Put and union of cells.
  The reference's Same and Cells. (Printed by pre.py.)
-/
import Derived.Test.YtffcklfigpmlgaaGreatDoorGA
import Derived.Test.YtffcklfigpmlgaaGreatDoorUA
import Derived.Test.YtffcklfigpmlgaaGreatDoorRA
import Derived.Lib.Small
import Derived.Shelf.SlSortCmp.Insertion
import Derived.Test.YtffcklfigpmlgaaGreatDoorTD
import Derived.Test.YtffcklfigpmlgaaGreatDoorHK
namespace Go.Proofs.YtffcklfigpmlgaaGreatDoor
open Go.RowKit Go.Unit0

theorem less_t {s x:Str} (h:Op.bytesLess s.toList x.toList=true):bl s < bl x:=by
 rw [Go.Proofs.bytesLess_eq,ByteArray.toList_eq,ByteArray.toList_eq] at h;simpa [bl] using h
theorem less_f {s x:Str} (h:Op.bytesLess s.toList x.toList=false):¬ bl s < bl x:=by
 rw [Go.Proofs.bytesLess_eq,ByteArray.toList_eq,ByteArray.toList_eq] at h;simpa [bl] using h
theorem eq_bl {s x:Str} (h:(x.toList == s.toList)=true):bl x=bl s:=by
 rw [ByteArray.toList_eq,ByteArray.toList_eq] at h;simpa [bl] using h
theorem ne_bl {s x:Str} (h:(x.toList == s.toList)=false):bl x ≠ bl s:=by
 rw [ByteArray.toList_eq,ByteArray.toList_eq] at h;simpa [bl] using h
theorem take_bl {l:List Str} {k:Nat} (hk:k < l.length):(l.take (k + 1)).map bl=(l.take k).map bl ++ [bl l[k]]:=by
 rw [List.take_succ_eq_append_getElem hk,List.map_append];rfl
end Go.Proofs.YtffcklfigpmlgaaGreatDoor
namespace Go.Proofs.YtffcklfigpmlgaaGreatDoor
open Go.RowKit Go.Unit0 Go.AM

structure Cel where
 s:Int
 f:Str
theorem cel_ext {a b:Cel} (h1:a.s=b.s) (h2:a.f=b.f):a=b:=by cases a;cases b;simp_all
instance:DecidableEq Cel:=fun a b=>if h:a.s=b.s∧a.f=b.f then isTrue (cel_ext h.1 h.2) else isFalse (fun e=>h (by rw [e];exact ⟨rfl,rfl⟩))
instance:Inhabited Cel:=⟨⟨0,⟨#[]⟩⟩⟩
def celLt (a b:Cel):Prop:=a.s < b.s ∨ (a.s=b.s∧bl a.f < bl b.f)
instance (a b:Cel):Decidable (celLt a b):=by unfold celLt;exact inferInstance
theorem celLt_irrefl (a:Cel):¬ celLt a a:=by
 rintro (h | ⟨_,h⟩)
 ·omega
 ·exact bl_irrefl _ h
theorem celLt_trans {a b c:Cel} (h1:celLt a b) (h2:celLt b c):celLt a c:=by
 rcases h1 with h1 | ⟨e1,h1⟩ <;> rcases h2 with h2 | ⟨e2,h2⟩
 ·exact .inl (by omega)
 ·exact .inl (by omega)
 ·exact .inl (by omega)
 ·exact .inr ⟨by omega,bl_trans h1 h2⟩
theorem celLt_total {a b:Cel} (h1:¬ celLt a b) (h2:¬ celLt b a):a=b:=by
 unfold celLt at h1 h2
 have hs:a.s=b.s:=by omega
 refine cel_ext hs (bl_eq ?_)
 have h3:¬ bl a.f < bl b.f:=fun h=>h1 (.inr ⟨hs,h⟩)
 have h4:¬ bl b.f < bl a.f:=fun h=>h2 (.inr ⟨hs.symm,h⟩)
 exact List.le_antisymm (bl_not_lt h4) (bl_not_lt h3)
abbrev CelAsc (l:List Cel):Prop:=l.Pairwise celLt
theorem celAsc_unique:∀ (a b:List Cel),CelAsc a→CelAsc b→(∀ x,x ∈ a ↔ x ∈ b)→a=b
 | [],[],_,_,_=>rfl
 | [],y :: b,_,_,h=>absurd ((h y).2 (by simp)) (by simp)
 | x :: a,[],_,_,h=>absurd ((h x).1 (by simp)) (by simp)
 | x :: a,y :: b,ha,hb,h=>by
   unfold CelAsc at ha hb
   rw [List.pairwise_cons] at ha hb
   have hxy:x=y:=by
    rcases List.mem_cons.1 ((h x).1 (by simp)) with e | e
    ·exact e
    ·rcases List.mem_cons.1 ((h y).2 (by simp)) with e2 | e2
     ·exact e2.symm
     ·exact absurd (celLt_trans (hb.1 x e) (ha.1 y e2)) (celLt_irrefl _)
   subst hxy
   rw [celAsc_unique a b ha.2 hb.2 fun z=>?_]
   constructor
   ·intro hz
    rcases List.mem_cons.1 ((h z).1 (List.mem_cons_of_mem _ hz)) with e | e
    ·subst e;exact absurd (ha.1 z hz) (celLt_irrefl _)
    ·exact e
   ·intro hz
    rcases List.mem_cons.1 ((h z).2 (List.mem_cons_of_mem _ hz)) with e | e
    ·subst e;exact absurd (hb.1 z hz) (celLt_irrefl _)
    ·exact e
def celPut:List Cel→Cel→List Cel
 | [],c=>[c]
 | x :: l,c=>if celLt x c then x :: celPut l c else if x=c then x :: l else c :: x :: l
theorem celPut_mem (c y:Cel):∀ l:List Cel,y ∈ celPut l c ↔ y=c ∨ y ∈ l
 | []=>by simp [celPut]
 | x :: l=>by
   unfold celPut
   split
   ·rw [List.mem_cons,celPut_mem c y l,List.mem_cons]
    constructor
    ·rintro (h | h | h) <;> simp [h]
    ·rintro (h | h | h) <;> simp [h]
   ·split
    ·rename_i e
     subst e
     simp
    ·rw [List.mem_cons]
theorem celPut_asc (c:Cel):∀ l:List Cel,CelAsc l→CelAsc (celPut l c)
 | [],_=>by simp [celPut,CelAsc]
 | x :: l,h=>by
   unfold celPut
   have h':=List.pairwise_cons.1 h
   split
   ·rename_i h1
    refine List.pairwise_cons.2 ⟨fun y hy=>?_,celPut_asc c l h'.2⟩
    rcases (celPut_mem c y l).1 hy with e | e
    ·rw [e];exact h1
    ·exact h'.1 y e
   ·split
    ·exact h
    ·rename_i h1 h2
     have h3:celLt c x:=by
      by_cases h4:celLt c x
      ·exact h4
      ·exact absurd (celLt_total h1 h4) h2
     refine List.pairwise_cons.2 ⟨fun y hy=>?_,h⟩
     rcases List.mem_cons.1 hy with e | e
     ·rw [e];exact h3
     ·exact celLt_trans h3 (h'.1 y e)
theorem celPut_len (c:Cel):∀ l:List Cel,(celPut l c).length≤l.length + 1
 | []=>by simp [celPut]
 | x :: l=>by
   unfold celPut
   have:=celPut_len c l
   split
   ·simp;omega
   ·split <;> simp
theorem celPut_same (c:Cel):∀ (l:List Cel) (k:Nat) (_:∀ j (hj:j < l.length),j < k→celLt l[j] c) (hk:k < l.length),l[k]=c→celPut l c=l
 | [],k,_,hk,_=>by simp at hk
 | x :: l,0,_,_,e=>by
   have e':x=c:=by simpa using e
   subst e'
   unfold celPut
   rw [if_neg (celLt_irrefl _),if_pos rfl]
 | x :: l,k + 1,h,hk,e=>by
   unfold celPut
   rw [if_pos (show celLt x c from h 0 (by simp) (by omega)),celPut_same c l k (fun j hj hjk=>h (j + 1) (by simpa using hj) (by omega)) (by simpa using hk) (by simpa using e)]
theorem celPut_new (c:Cel):∀ (l:List Cel) (k:Nat) (_:∀ j (hj:j < l.length),j < k→celLt l[j] c) (_:k≤l.length) (_:∀ hk:k < l.length,¬ celLt l[k] c∧l[k] ≠ c),celPut l c=l.take k ++ [c] ++ l.drop k
 | [],0,_,_,_=>by simp [celPut]
 | [],k + 1,_,hk,_=>by simp at hk
 | x :: l,0,_,_,e=>by
   have:=e (by simp)
   unfold celPut
   rw [if_neg (by simpa using this.1),if_neg (by simpa using this.2)]
   simp
 | x :: l,k + 1,h,hk,e=>by
   unfold celPut
   rw [if_pos (show celLt x c from h 0 (by simp) (by omega)),celPut_new c l k (fun j hj hjk=>h (j + 1) (by simpa using hj) (by omega)) (by simpa using hk) (fun hk=>show ¬ celLt l[k] c∧l[k] ≠ c from e (by simpa using hk))]
   simp
def celPuts (a b:List Cel):List Cel:=b.foldl celPut a
theorem celPuts_mem (y:Cel):∀ (b a:List Cel),y ∈ celPuts a b ↔ y ∈ a ∨ y ∈ b
 | [],a=>by simp [celPuts]
 | c :: b,a=>by
   show y ∈ celPuts (celPut a c) b ↔ _
   rw [celPuts_mem y b,celPut_mem,List.mem_cons]
   constructor
   ·rintro ((h | h) | h) <;> simp [h]
   ·rintro (h | h | h) <;> simp [h]
theorem celPuts_asc:∀ (b a:List Cel),CelAsc a→CelAsc (celPuts a b)
 | [],_,h=>h
 | c :: b,a,h=>celPuts_asc b (celPut a c) (celPut_asc c a h)
theorem celPuts_len:∀ (b a:List Cel),(celPuts a b).length≤a.length + b.length
 | [],a=>by simp [celPuts]
 | c :: b,a=>by
   show (celPuts (celPut a c) b).length≤_
   have h1:=celPuts_len b (celPut a c)
   have h2:=celPut_len c a
   simp;omega
theorem celPuts_snoc (a b:List Cel) (c:Cel):celPuts a (b ++ [c])=celPut (celPuts a b) c:=by unfold celPuts;rw [List.foldl_append];rfl
theorem celPuts_take {a b:List Cel} {k:Nat} (hk:k < b.length):celPuts a (b.take (k + 1))=celPut (celPuts a (b.take k)) b[k]:=by
 rw [List.take_succ_eq_append_getElem hk,celPuts_snoc]
-- sorted and compacted
theorem celCompact_strict (d:Array Cel) (hd:∀ i j,i < j→j < d.size→¬ celLt d[j]! d[i]!):∀ m,m≤d.size→CelAsc (Lib.compactUpTo d m)∧(∀ x,x ∈ Lib.compactUpTo d m ↔ ∃ j,j < m∧d[j]! = x)
 | 0,_=>⟨by simp [Lib.compactUpTo,CelAsc],fun x=>by simp [Lib.compactUpTo]⟩
 | m + 1,hm=>by
   obtain ⟨h1,h2⟩:=celCompact_strict d hd m (by omega)
   rw [Lib.compactUpTo_succ]
   cases hk:Lib.keeps d m with
   | true =>
     rw [if_pos rfl]
     have hlt:∀ x ∈ Lib.compactUpTo d m,celLt x d[m]!:=fun x hx=>by
      obtain ⟨j,hj,rfl⟩:=(h2 x).1 hx
      have hk':m=0 ∨ d[m]! ≠ d[m - 1]!:=by simpa [Lib.keeps] using hk
      rcases hk' with e | e
      ·omega
      ·have h4:celLt d[m - 1]! d[m]!:=by
        by_cases h5:celLt d[m - 1]! d[m]!
        ·exact h5
        ·exact absurd (celLt_total (hd (m - 1) m (by omega) (by omega)) h5) e
       by_cases e3:j=m - 1
       ·rw [e3];exact h4
       ·have h6:=hd j (m - 1) (by omega) (by omega)
        by_cases h7:celLt d[j]! d[m - 1]!
        ·exact celLt_trans h7 h4
        ·rw [celLt_total h7 h6];exact h4
     refine ⟨?_,fun x=>?_⟩
     ·unfold CelAsc
      rw [List.pairwise_append]
      exact ⟨h1,by simp,fun a ha b hb=>by rw [List.mem_singleton.1 hb];exact hlt a ha⟩
     ·rw [List.mem_append,h2,List.mem_singleton]
      constructor
      ·rintro (⟨j,hj,e⟩ | e)
       ·exact ⟨j,by omega,e⟩
       ·exact ⟨m,by omega,e.symm⟩
      ·rintro ⟨j,hj,e⟩
       by_cases e2:j < m
       ·exact .inl ⟨j,e2,e⟩
       ·obtain rfl:j=m:=by omega
        exact .inr e.symm
   | false =>
     rw [if_neg (by simp),List.append_nil]
     refine ⟨h1,fun x=>?_⟩
     rw [h2]
     have hk':m ≠ 0∧d[m]! = d[m - 1]!:=by simpa [Lib.keeps] using hk
     constructor
     ·rintro ⟨j,hj,e⟩;exact ⟨j,by omega,e⟩
     ·rintro ⟨j,hj,e⟩
      by_cases e2:j < m
      ·exact ⟨j,e2,e⟩
      ·obtain rfl:j=m:=by omega
       exact ⟨j - 1,by omega,by rw [← hk'.2];exact e⟩
def cmpB (x y:Str):Int:=if bl x < bl y then -1 else if bl y < bl x then 1 else 0
def cmpCel (x y:Cel):Int:=if Lib.compareInt x.s y.s=0 then cmpB x.f y.f else Lib.compareInt x.s y.s
theorem cmpCel_lt (x y:Cel):ltOf cmpCel x y=true ↔ celLt x y:=by
 unfold ltOf cmpCel cmpB celLt Lib.compareInt
 simp only [decide_eq_true_eq]
 by_cases h1:x.s < y.s
 ·simp [h1]
 ·by_cases h2:y.s < x.s
  ·have h3:¬ x.s=y.s:=by omega
   simp [h1,h2,h3]
  ·have h3:x.s=y.s:=by omega
   by_cases h4:bl x.f < bl y.f
   ·simp [h3,h4]
   ·by_cases h5:bl y.f < bl x.f
    ·simp [h3,h4,h5]
    ·simp [h3,h4,h5]
theorem cmpCel_nlt (x y:Cel):ltOf cmpCel x y=false ↔ ¬ celLt x y:=by
 rw [← cmpCel_lt]
 simp
theorem celLt_ntrans {x y z:Cel} (h1:¬ celLt x y) (h2:¬ celLt y z):¬ celLt x z:=fun h=>by
 by_cases h3:celLt y x
 ·exact h2 (celLt_trans h3 h)
 ·rw [celLt_total h1 h3] at h;exact h2 h
theorem celSwo:Go.Sort.SWO (ltOf cmpCel) where
 irrefl x:=(cmpCel_nlt _ _).2 (celLt_irrefl x)
 trans x y z h1 h2:=(cmpCel_lt _ _).2 (celLt_trans ((cmpCel_lt _ _).1 h1) ((cmpCel_lt _ _).1 h2))
 ntrans x y z h1 h2:=by
  rw [cmpCel_nlt] at *
  exact celLt_ntrans h1 h2
theorem celTot (x y:Cel) (h1:ltOf cmpCel x y=false) (h2:ltOf cmpCel y x=false):x=y:=by
 rw [cmpCel_nlt] at *
 exact celLt_total h1 h2
def celSort (L:List Cel):List Cel:=L.mergeSort fun x y=>!(ltOf cmpCel) y x
theorem celSort_perm (L:List Cel):(celSort L).Perm L:=List.mergeSort_perm _ _
theorem celSort_len (L:List Cel):(celSort L).length=L.length:=(celSort_perm L).length_eq
theorem celSort_pw (L:List Cel):(celSort L).Pairwise (fun a b=>¬ celLt b a):=by
 have h:=List.pairwise_mergeSort (le:=fun (x y:Cel)=>!(ltOf cmpCel) y x) (fun a b c h1 h2=>by
  simp only [Bool.not_eq_true',cmpCel_nlt] at *
  exact celLt_ntrans h2 h1) (fun a b=>by
  simp only [Bool.or_eq_true,Bool.not_eq_true',cmpCel_nlt]
  by_cases h:celLt b a
  ·exact .inr (fun h2=>celLt_irrefl _ (celLt_trans h h2))
  ·exact .inl h) L
 exact h.imp fun h=>by simpa [cmpCel_nlt] using h
def celSet (L:List Cel):List Cel:=Lib.compact (celSort L)
theorem celSet_spec (l:List Cel):CelAsc (celSet l)∧∀ x,x ∈ celSet l ↔ x ∈ l:=by
 have hp:=celSort_pw l
 have hd:∀ i j,i < j→j < (celSort l).toArray.size→¬ celLt (celSort l).toArray[j]! (celSort l).toArray[i]!:=fun i j hij hj=>by
  have hj':j < (celSort l).length:=by simpa using hj
  rw [getElem!_pos _ i (by simp;omega),getElem!_pos _ j (by simpa using hj)]
  simpa using List.pairwise_iff_getElem.1 hp i j (by omega) hj' hij
 obtain ⟨h1,h2⟩:=celCompact_strict (celSort l).toArray hd (celSort l).length (by simp)
 refine ⟨h1,fun x=>?_⟩
 have hm:x ∈ celSort l ↔ x ∈ l:=(celSort_perm l).mem_iff
 rw [← hm]
 refine (h2 x).trans ?_
 constructor
 ·rintro ⟨j,hj,rfl⟩
  rw [getElem!_pos _ j (by simpa using hj)];simp
 ·intro hx
  obtain ⟨j,hj,rfl⟩:=List.getElem_of_mem hx
  exact ⟨j,hj,by rw [getElem!_pos _ j (by simpa using hj)];simp⟩
theorem celPuts_set (l:List Cel):celPuts [] l=celSet l :=
 celAsc_unique _ _ (celPuts_asc l [] List.Pairwise.nil) (celSet_spec l).1 (fun x=>by rw [celPuts_mem,(celSet_spec l).2];simp)
-- the cells of a field of sites
def fldB (h:List Cls) (sites:List Sit) (field:Str) (s:Int):Bool:=decide (0≤s) && (sites[s.toNat]?).elim false (fun t=>(fieldP h t.c field).isSome)
def celL (h:List Cls) (sites:List Sit) (field:Str) (l:List Int):List Cel:=(l.filter (fldB h sites field)).map (fun s=>⟨s,field⟩)
theorem celL_len (h:List Cls) (sites:List Sit) (field:Str) (l:List Int):(celL h sites field l).length≤l.length:=by
 unfold celL;rw [List.length_map];exact List.length_filter_le _ _
theorem celL_t {h:List Cls} {sites:List Sit} {field:Str} {l:List Int} {s:Int} (e:fldB h sites field s=true):celL h sites field (l ++ [s])=celL h sites field l ++ [⟨s,field⟩]:=by
 unfold celL;rw [List.filter_append,List.map_append];simp [e]
theorem celL_f {h:List Cls} {sites:List Sit} {field:Str} {l:List Int} {s:Int} (e:fldB h sites field s=false):celL h sites field (l ++ [s])=celL h sites field l:=by
 unfold celL;rw [List.filter_append];simp [e]
theorem take_snoc {α:Type} {l:List α} {k:Nat} (hk:k < l.length):l.take (k + 1)=l.take k ++ [l[k]]:=List.take_succ_eq_append_getElem hk
end Go.Proofs.YtffcklfigpmlgaaGreatDoor
namespace Go.Proofs.YtffcklfigpmlgaaGreatDoor
open Go.RowKit Go.Unit0 Go.AM

def CelsAt (w:World) (a:Option Addr) (l:List Cel):Prop :=
 ∀ k (h:k < l.length),∃ b off,a=some ⟨b,off,none⟩∧w.cell? ⟨b,off + k * 2,none⟩=some (.int .i64 l[k].s)∧w.cell? ⟨b,off + k * 2 + 1,none⟩=some (.string l[k].f)
theorem CelsAt.below {w w':World} {a:Option Addr} {l:List Cel} (h:CelsAt w a l) (hb:Below w.heap.size w w'):CelsAt w' a l:=by
 intro k hk
 obtain ⟨b,off,ha,h0,h1⟩:=h k hk
 exact ⟨b,off,ha,cell_below hb h0,cell_below hb h1⟩
def encCe (e:Cel):List Value:=[.int .i64 e.s,.string e.f]
def flatCe (L:List Cel):List Value:=L.flatMap encCe
theorem flatCe_len (L:List Cel):(flatCe L).length=L.length * 2:=by
 unfold flatCe
 rw [List.length_flatMap]
 induction L with
 | nil=>rfl
 | cons x L ih=>rw [List.map_cons,List.sum_cons,ih,List.length_cons];simp [encCe];omega
theorem flatCe_get:∀ (L:List Cel) (j r:Nat) (hj:j < L.length),r < 2→(flatCe L)[j * 2 + r]? = (encCe L[j])[r]?
 | x :: L,0,r,_,hr=>by
   show (encCe x ++ flatCe L)[0 * 2 + r]? = _
   rw [List.getElem?_append_left (by simp [encCe];omega)]
   simp
 | x :: L,j + 1,r,hj,hr=>by
   have ih:=flatCe_get L j r (by simpa using hj) hr
   show (encCe x ++ flatCe L)[(j + 1) * 2 + r]? = _
   rw [List.getElem?_append_right (by simp [encCe];omega)]
   have e:(j + 1) * 2 + r - (encCe x).length=j * 2 + r:=by simp [encCe];omega
   rw [e,ih]
   simp
theorem flatCe_app (L:List Cel) (e:Cel):flatCe (L ++ [e])=flatCe L ++ encCe e:=by
 unfold flatCe
 rw [List.flatMap_append]
 simp
theorem infoCe:(Tryz.prog.info? 61).map (fun i=>(i.zero,i.size,i.bytes))=some (some (.agg #[.int .i64 0,.string ⟨#[]⟩]),2,24):=by kernel_rfl
theorem ownsCe {w:World} {base:Nat} {v:Value} {l:List Cel} {n:Nat} (h:w.ownsRow base 61 2 v n (flatCe l)):n=l.length∧∃ a cap,v = .slice a n cap∧n≤cap∧CelsAt w a l:=by
 have hl:n=l.length:=by have:=h.1;rw [flatCe_len] at this;omega
 refine ⟨hl,?_⟩
 rcases h.2 with ⟨rfl,h0⟩ | ⟨g,cap,cur,rfl,hb,hh,hn,_,hsz,ht⟩
 ·exact ⟨none,0,by rw [h0],by omega,fun k hk=>by omega⟩
 ·refine ⟨_,_,rfl,hn,fun k hk=>⟨g,0,rfl,?_,?_⟩⟩
  ·have c:=h.cells (g:=g) rfl (k * 2 + 0) (.int .i64 l[k].s) (by rw [flatCe_get l k 0 hk (by omega)];rfl)
   rw [addr_add] at c
   exact c
  ·have c:=h.cells (g:=g) rfl (k * 2 + 1) (.string l[k].f) (by rw [flatCe_get l k 1 hk (by omega)];rfl)
   rw [addr_add] at c
   exact c
theorem ownsCe' {w:World} {base n d:Nat} {b:Option Addr} {l:List Cel} (h:w.ownsRow base 61 2 (.slice b n d) n (flatCe l)):n≤d∧CelsAt w b l:=by
 obtain ⟨_,a,cap,he,h1,h2⟩:=ownsCe h
 cases he
 exact ⟨h1,h2⟩
theorem appCe {ops:Array Oper} {rest:List Oper} {o:Oper} {a:Act} {Q:Exit→Act→World→Prop} {w:World} (hgd:o.guard=none) (s x:Operand)
 (ho:o.op = .call { callee:=.builtin .append,args:=#[s,x],argTypes:=#[45,45] })
 (base:Nat) (v:Value) (l:List Cel) (hs:a.eval s=v) (hown:w.ownsRow base 61 2 v l.length (flatCe l))
 (g:Nat) (y:Cel) (hx:a.eval x = .slice (some ⟨g,0,none⟩) 1 1) (hg:Blk w g #[.int .i64 y.s,.string y.f] 61)
 (hn:l.length≤1000000) (hbase:base≤w.heap.size)
 (h:∀ v' w',w'.ownsRow base 61 2 v' (l ++ [y]).length (flatCe (l ++ [y]))→w.grownBy w' v.ownBlock→wpList Tryz.prog ops Q rest (a.put o.dst v') w'):wpList Tryz.prog ops Q (o :: rest) a w:=by
 obtain ⟨i0,hi,hz0,hz1,hz2⟩:=info_parts infoCe
 refine wpList_append_own w hgd s x 45 ho base 61 i0 (.agg #[.int .i64 0,.string ⟨#[]⟩]) 2 24 Tryz.underlying45 hi hz0 hz1 hz2 rfl (by decide) v l.length (flatCe l) hs hown ⟨g,0,none⟩ 1 1 [.int .i64 y.s,.string y.f] hx rfl ?_ (by intro u hu;simp at hu;rcases hu with rfl | rfl <;> rfl) (by unfold maxLen;omega) (by omega) hbase ?_
 ·intro j u hu
  rw [addr_add,Nat.zero_add,cell_of_row _ _ _ _ _ _ hg]
  simpa using hu
 ·intro v' w' h1 h2 _
  refine h v' w' ?_ h2
  rw [flatCe_app,List.length_append]
  exact h1
instance:Nonempty Cel:=⟨⟨0,⟨#[]⟩⟩⟩
abbrev celV (c:Cel):Value:=.agg #[.int .i64 c.s,.string c.f]
theorem celsAt_take {w:World} {a:Option Addr} {l:List Cel} (h:CelsAt w a l) (n:Nat):CelsAt w a (l.take n):=by
 intro k hk
 have hk':k < l.length:=by simp at hk;omega
 obtain ⟨b,off,ha,h0,h1⟩:=h k hk'
 exact ⟨b,off,ha,by rw [h0];simp,by rw [h1];simp⟩
theorem appCes {ops:Array Oper} {rest:List Oper} {o:Oper} {a:Act} {Q:Exit→Act→World→Prop} {w:World} (hgd:o.guard=none) (s x:Operand)
 (ho:o.op = .call { callee:=.builtin .append,args:=#[s,x],argTypes:=#[45,45] })
 (base:Nat) (v:Value) (l:List Cel) (hs:a.eval s=v) (hown:w.ownsRow base 61 2 v l.length (flatCe l))
 (ad:Option Addr) (c:Nat) (m:List Cel) (hx:a.eval x = .slice ad m.length c) (hat:CelsAt w ad m)
 (hn:l.length≤1000000) (hm:m.length≤1000000) (hbase:base≤w.heap.size)
 (h:∀ v' w',w'.ownsRow base 61 2 v' (l ++ m).length (flatCe (l ++ m))→w.grownBy w' v.ownBlock→wpList Tryz.prog ops Q rest (a.put o.dst v') w'):wpList Tryz.prog ops Q (o :: rest) a w:=by
 obtain ⟨i0,hi,hz0,hz1,hz2⟩:=info_parts infoCe
 cases ad with
 | none =>
   have hm0:m = []:=by
    cases m with
    | nil=>rfl
    | cons y m=>obtain ⟨_,_,he,_⟩:=hat 0 (by simp);cases he
   subst hm0
   refine wpList_plain hgd fun K hK=>?_
   have hrun:∀ ty,(Builtin.append_ #[45,45] ty #[v,.slice none 0 c]).run Tryz.prog w = .ok v w:=fun ty=>by
    rcases hown.2 with ⟨rfl,_⟩ | ⟨g,cap,cur,rfl,_,_,hnc,_⟩
    ·simp [Builtin.append_,run_underlying Tryz.underlying45,sizeOf,typeInfo,hi,Builtin.lenOf,Builtin.firstCells]
    ·simp [Builtin.append_,run_underlying Tryz.underlying45,sizeOf,typeInfo,hi,Builtin.lenOf,Builtin.firstCells,hnc,storeCells]
   unfold Oper.wp
   simp [execOp,ho,resolve,invoke,builtin,hs,hx,hrun,Result.andThen]
   exact hK _ _ (h v w (by simpa using hown) (World.grownBy.refl w _))
 | some adr =>
   refine wpList_append_own w hgd s x 45 ho base 61 i0 (.agg #[.int .i64 0,.string ⟨#[]⟩]) 2 24 Tryz.underlying45 hi hz0 hz1 hz2 rfl (by decide) v l.length (flatCe l) hs hown adr m.length c (flatCe m) hx (flatCe_len m) ?_ (by
    intro u hu
    unfold flatCe at hu
    obtain ⟨y,_,hy⟩:=List.mem_flatMap.1 hu
    simp [encCe] at hy
    rcases hy with rfl | rfl <;> rfl) (by unfold maxLen;omega) (by omega) hbase ?_
   ·intro j u hu
    obtain ⟨hj,hju⟩:=List.getElem?_eq_some_iff.1 hu
    rw [flatCe_len] at hj
    have hj1:j / 2 < m.length:=by omega
    have hj2:j / 2 * 2 + j % 2=j:=by omega
    have hg:=flatCe_get m (j / 2) (j % 2) hj1 (Nat.mod_lt _ (by omega))
    rw [hj2,hu] at hg
    obtain ⟨b,off,he,h0,h1⟩:=hat (j / 2) hj1
    cases he
    rw [addr_add]
    rcases (show j % 2=0 ∨ j % 2=1 by omega) with e | e
    ·rw [e] at hg
     rw [show off + j=off + j / 2 * 2 by omega,h0]
     simpa [encCe] using hg.symm
    ·rw [e] at hg
     rw [show off + j=off + j / 2 * 2 + 1 by omega,h1]
     simpa [encCe] using hg.symm
   ·intro v' w' h1 h2 _
    refine h v' w' ?_ h2
    unfold flatCe at *
    rw [List.flatMap_append,List.length_append]
    exact h1
set_option maxRecDepth 100000 in
theorem ceHi (a:Option Addr) (n cap k:Nat) (h:k≤cap) (w:World):(Instr.slice 45 (.slice a n cap) none (some (.int .i64 (k:Int))) none).run Tryz.prog w = .ok (.slice a k cap) w:=by
 have hs:(sizeOf (Tryz.prog.elem 45)).run Tryz.prog w = .ok 2 w:=by kernel_rfl
 rw [run_slice_h w 45 a n cap Tryz.underlying45 .i64 (k:Int) (by omega) (by omega),hs]
 have e:a.map (fun x=>x.add 0)=a:=by
  cases a with
  | none=>rfl
  | some x=>simp [Addr.add]
 simp [Result.andThen,sliced,e]
set_option maxRecDepth 100000 in
theorem ceLo (a:Option Addr) (n cap m:Nat) (hm:m≤n) (hc:n≤cap):∃ a',(∀ w:World,(Instr.slice 45 (.slice a n cap) (some (.int .i64 (m:Int))) none none).run Tryz.prog w = .ok (.slice a' (n - m) (cap - m)) w)∧∀ (w:World) (l:List Cel),l.length=n→CelsAt w a l→CelsAt w a' (l.drop m):=by
 refine ⟨if cap=m then a else a.map (·.add (m * 2)),fun w=>?_,fun w l hl h=>?_⟩
 ·have hs:(sizeOf (Tryz.prog.elem 45)).run Tryz.prog w = .ok 2 w:=by kernel_rfl
  rw [run_slice_l w 45 a n cap Tryz.underlying45 .i64 (m:Int) (by omega) (by omega),hs]
  simp [Result.andThen,sliced]
 ·intro k hk
  rw [List.length_drop] at hk
  obtain ⟨b,off,rfl,h0,h1⟩:=h (m + k) (by omega)
  refine ⟨b,off + m * 2,?_,?_,?_⟩
  ·rw [if_neg (by omega)];simp [addr_add]
  ·rw [show off + m * 2 + k * 2=off + (m + k) * 2 by omega,h0,List.getElem_drop]
  ·rw [show off + m * 2 + k * 2 + 1=off + (m + k) * 2 + 1 by omega,h1,List.getElem_drop]
def CelsPost (L:List Cel) (w:World) (e:Ending) (w':World):Prop :=
 Below w.heap.size w w'∧∃ a c,e = .returned (.slice a L.length c)∧w'.ownsRow w.heap.size 61 2 (.slice a L.length c) L.length (flatCe L)
def CelsLie (L:List Cel) (w:World) (e:Ending) (w':World):Prop :=
 Below w.heap.size w w'∧∃ a c,e = .returned (.slice a L.length c)∧L.length≤c∧CelsAt w' a L
theorem CelsPost.lie {L:List Cel} {w:World} {e:Ending} {w':World} (h:CelsPost L w e w'):CelsLie L w e w':=by
 obtain ⟨hb,a,c,he,ow⟩:=h
 have:=ownsCe' ow
 exact ⟨hb,a,c,he,this.1,this.2⟩
theorem eqCel (x y:Cel) (w:World):(binOp .eql 61 (celV x) (celV y)).run Tryz.prog w = .ok (.bool (decide (x=y))) w:=by
 have u3:=Tryz.underlying3
 have a3:=Tryz.isAgg3
 have z3:=Tryz.sizeOf3
 have u9:=Tryz.underlying9
 have a9:=Tryz.isAgg9
 have z9:=Tryz.sizeOf9
 have hS:Tryz.prog.underlying 61=some (.struct (Tryz.prog.fieldsOf 61)):=by kernel_rfl
 have hp:Tryz.prog.stoodInHeld 61=false:=by kernel_rfl
 have e:decide (x=y)=((x.s == y.s) && (x.f.toList == y.f.toList)):=by
  rw [Bool.eq_iff_iff,decide_eq_true_iff,Bool.and_eq_true,beq_iff_eq]
  exact ⟨fun h=>by subst h;exact ⟨rfl,eqB_self _⟩,fun h=>cel_ext h.1 (eqB_iff.1 h.2)⟩
 rw [e,run_eql_struct,show (10000:Nat)=9999 + 1 from rfl,run_equalIn_agg w 9999 61 _ _ hS hp]
 simp only [Program.fieldsOf,Tryz.underlying61]
 cases h1:(x.s == y.s)
 ·go_simp
 ·go_simp
  by_cases h2:x.f.toList=y.f.toList
  ·rw [if_pos h2,beq_iff_eq.2 h2]
   try rfl
  ·rw [if_neg h2,beq_eq_false_iff_ne.2 h2]
   try rfl
theorem neqCel (x y:Cel) (w:World):(binOp .neq 61 (celV x) (celV y)).run Tryz.prog w = .ok (.bool (!decide (x=y))) w:=by
 have u3:=Tryz.underlying3
 have a3:=Tryz.isAgg3
 have z3:=Tryz.sizeOf3
 have u9:=Tryz.underlying9
 have a9:=Tryz.isAgg9
 have z9:=Tryz.sizeOf9
 have hS:Tryz.prog.underlying 61=some (.struct (Tryz.prog.fieldsOf 61)):=by kernel_rfl
 have hp:Tryz.prog.stoodInHeld 61=false:=by kernel_rfl
 have e:decide (x=y)=((x.s == y.s) && (x.f.toList == y.f.toList)):=by
  rw [Bool.eq_iff_iff,decide_eq_true_iff,Bool.and_eq_true,beq_iff_eq]
  exact ⟨fun h=>by subst h;exact ⟨rfl,eqB_self _⟩,fun h=>cel_ext h.1 (eqB_iff.1 h.2)⟩
 rw [e,run_neq_struct,show (10000:Nat)=9999 + 1 from rfl,run_equalIn_agg w 9999 61 _ _ hS hp]
 simp only [Program.fieldsOf,Tryz.underlying61]
 cases h1:(x.s == y.s)
 ·go_simp
 ·go_simp
  by_cases h2:x.f.toList=y.f.toList
  ·rw [if_pos h2,beq_iff_eq.2 h2]
   try rfl
  ·rw [if_neg h2,beq_eq_false_iff_ne.2 h2]
   try rfl
end Go.Proofs.YtffcklfigpmlgaaGreatDoor
namespace Go.Proofs.YtffcklfigpmlgaaGreatDoor
open Go.RowKit Go.Unit0 Go.AM

set_option maxHeartbeats 2000000 in
theorem lessR (x y:Cel) (w:World):Calls Tryz.prog 67 #[celV x,celV y] w (Ret w (.bool (decide (celLt x y)))):=by
 obtain ⟨x1,x2⟩:=x
 obtain ⟨y1,y2⟩:=y
 change Calls Tryz.prog 67 #[.agg #[.int .i64 x1,.string x2],.agg #[.int .i64 y1,.string y2]] w _
 have HB:=Lib.hid (two_below w (.cells #[.int .i64 x1,.string x2] 61) (.cells #[.int .i64 y1,.string y2] 61))
 by_cases h1:x1 < y1
 ·have e:decide (celLt ⟨x1,x2⟩ ⟨y1,y2⟩)=true:=decide_eq_true (.inl h1)
  rw [e]
  have t1:decide (x1 < y1)=true:=decide_eq_true h1
  clear h1 e
  go_enter Tryz.func67,Tryz.ntmps67
  go_wp2
  go_ret
  exact ⟨rfl,HB.out⟩
 have t1:decide (x1 < y1)=false:=decide_eq_false h1
 by_cases h2:x1=y1
 ·subst h2
  cases e2:Op.bytesLess x2.toList y2.toList
  ·have e:decide (celLt ⟨x1,x2⟩ ⟨x1,y2⟩)=false:=decide_eq_false (by
    rintro (h | ⟨_,h⟩)
    ·exact absurd h (by simp)
    ·exact less_f e2 h)
   rw [e]
   clear h1 e
   go_enter Tryz.func67,Tryz.ntmps67
   go_wp2
   go_ret
   exact ⟨rfl,HB.out⟩
  ·have e:decide (celLt ⟨x1,x2⟩ ⟨x1,y2⟩)=true:=decide_eq_true (.inr ⟨rfl,less_t e2⟩)
   rw [e]
   clear h1 e
   go_enter Tryz.func67,Tryz.ntmps67
   go_wp2
   go_ret
   exact ⟨rfl,HB.out⟩
 ·have e:decide (celLt ⟨x1,x2⟩ ⟨y1,y2⟩)=false:=decide_eq_false (by
   rintro (h | ⟨h,_⟩)
   ·exact h1 h
   ·exact h2 h)
  rw [e]
  have t2:(x1 == y1)=false:=by simpa using h2
  clear h1 h2 e
  go_enter Tryz.func67,Tryz.ntmps67
  go_wp2
  go_ret
  exact ⟨rfl,HB.out⟩
structure PX (l:List Cel) (la:Option Addr) (c:Cel) (w wr:World):Prop where
 hb:Below w.heap.size w wr
 bx:Blk wr w.heap.size #[.int .i64 c.s,.string c.f] 61
 ce:CelsAt wr la l
theorem PX.below {l:List Cel} {la:Option Addr} {c:Cel} {w wr w':World} (k:PX l la c w wr) (hb:Below wr.heap.size wr w'):PX l la c w w':=⟨k.hb.trans (hb.mono k.hb.size),k.bx.below hb,k.ce.below hb⟩
set_option maxRecDepth 100000 in
set_option maxHeartbeats 8000000 in
theorem putR26 (l:List Cel) (c:Cel) (la:Option Addr) (lc:Nat) (w:World) (hs:CelsAt w la l) (hc:l.length≤lc) (hl:l.length≤900000) :
 Calls Tryz.prog 38 #[.slice la l.length lc,celV c] w (CelsLie (celPut l c) w):=by
 have S0:Hid (PX l la c w (w.alloc (.cells #[.int .i64 c.s,.string c.f] 61))):=⟨one_below ..,blk_new ..,hs.below (one_below ..)⟩
 have HP1:Hid (∀ (k:Nat),(∀ j (hj:j < l.length),j < k→celLt l[j] c)→∀ (hk:k < l.length),l[k]=c→celPut l c=l):=fun k h hk e=>celPut_same c l k h hk e
 have HP2:Hid (∀ (k:Nat),(∀ j (hj:j < l.length),j < k→celLt l[j] c)→k≤l.length→(∀ hk:k < l.length,¬ celLt l[k] c∧l[k] ≠ c)→celPut l c=l.take k ++ [c] ++ l.drop k):=fun k h hk e=>celPut_new c l k h hk e
 have HLS:Hid (∀ (x:Cel) (w1:World),Calls Tryz.prog 67 #[.agg #[.int .i64 x.s,.string x.f],.agg #[.int .i64 c.s,.string c.f]] w1 (Ret w1 (.bool (decide (celLt x c))))):=fun x w1=>lessR x c w1
 have HEQ:Hid (∀ (x:Cel) (w1:World),(binOp .eql 61 (.agg #[.int .i64 x.s,.string x.f]) (.agg #[.int .i64 c.s,.string c.f])).run Tryz.prog w1 = .ok (.bool (decide (x=c))) w1):=fun x w1=>eqCel x c w1
 have HLA:=Lib.hid hs
 clear hs
 generalize celPut l c=R at *
 go_enter Tryz.func38,Tryz.ntmps38
 go_upto_region 1 with (fail)
 generalize w.alloc _=W at *
 go_upto_block 0 with (fail)
 go_cut [5] (fun v wx=>∃ k:Nat,k≤l.length∧v = .int .i64 k∧Hid (PX l la c w wx)∧Hid (∀ j (hj:j < l.length),j < k→celLt l[j] c)∧Hid (∀ hk:k < l.length,¬ celLt l[k] c))
 case first =>
  go_wp2
  go_loopw [5] (fun v wr=>∃ k:Nat,k≤l.length∧v = .int .i64 k∧Hid (PX l la c w wr)∧Hid (∀ j (hj:j < l.length),j < k→celLt l[j] c)) (fun v _=>l.length - (intOf v).toNat)
  case atStart=>exact ⟨0,Nat.zero_le _,rfl,S0.out,fun j _ h=>absurd h (by omega)⟩
  case round =>
   clear S0 HP1 HP2
   obtain ⟨k,hk,rfl,S,HJ⟩:=hrel
   by_cases hlt:k < l.length
   case neg =>
    have HK:Hid (∀ hk:k < l.length,¬ celLt l[k] c):=fun h=>absurd h hlt
    have t1:decide ((k:Int) < (l.length:Int))=false:=by simp;omega
    go_upto_region 2 with (fail)
    have hne:Nonempty (WB wr):=⟨⟨wr,Below.refl _ _⟩⟩
    refine wp_region_WB wr (by kernel_rfl) ?_
    repeat (go_big_quiet_step (fail))
    refine wpQuiet_nil ?_
    intro _ hw'
    obtain ⟨o,rfl⟩:=hw'
    have S3:=Lib.hid (S.out.below o.h)
    go_wp2
    go_meet
    exact ⟨k,hk,rfl,S3.out,HJ.out,HK.out⟩
   obtain ⟨b,off,he,c0,c1⟩:=S.out.ce k hlt
   subst he
   have HJN:Hid (celLt l[k] c→∀ j (hj:j < l.length),j < k + 1→celLt l[j] c):=fun e j hj hjk=>by
    by_cases e2:j < k
    ·exact HJ.out j hj e2
    ·obtain rfl:j=k:=by omega
     exact e
   have HKN:Hid (¬ celLt l[k] c→∀ hk:k < l.length,¬ celLt l[k] c):=fun e _=>e
   have HLX:=Lib.hid (HLS.out l[k])
   generalize hx:l[k]=x at c0 c1 HLX HJN HKN
   clear hx
   have t1:decide ((k:Int) < (l.length:Int))=true:=by simp;omega
   have b0:=S.out.bx.cell 0 (by simp)
   have b1:=S.out.bx.cell 1 (by simp)
   simp only [List.getElem_toArray,List.getElem_cons_zero,List.getElem_cons_succ] at b0 b1
   have hne:Nonempty (WB wr):=⟨⟨wr,Below.refl _ _⟩⟩
   have k0:∀ o:WB wr,o.u.cell? ⟨b,off + k * 2,none⟩=some (.int .i64 x.s):=fun o=>cell_below o.h c0
   have k1:∀ o:WB wr,o.u.cell? ⟨b,off + k * 2 + 1,none⟩=some (.string x.f):=fun o=>cell_below o.h c1
   have k2:∀ o:WB wr,o.u.cell? ⟨w.heap.size,0,none⟩=some (.int .i64 c.s):=fun o=>cell_below o.h b0
   have k3:∀ o:WB wr,o.u.cell? ⟨w.heap.size,1,none⟩=some (.string c.f):=fun o=>cell_below o.h b1
   clear c0 c1 b0 b1
   by_cases hlx:celLt x c
   ·rw [decide_eq_true hlx] at HLX
    have HJ2:=Lib.hid (HJN.out hlx)
    clear hlx HJN HKN HJ
    go_upto_region 2 with (fail)
    refine wp_region_WB wr (by kernel_rfl) ?_
    repeat (go_big_quiet_step ((rename_i o;exact (HLX.out o.u).mono (fun _ _ h=>Ret.inB h))))
    refine wpQuiet_nil ?_
    intro _ hw'
    obtain ⟨o,rfl⟩:=hw'
    have S3:=Lib.hid (S.out.below o.h)
    clear k0 k1 k2 k3
    go_wp2
    go_roundw
    case rel=>exact ⟨k + 1,by omega,by go_num,S3.out,HJ2.out⟩
    case measure=>simp [intOf];omega
   ·rw [decide_eq_false hlx] at HLX
    have HK:=Lib.hid (HKN.out hlx)
    clear hlx HJN HKN
    go_upto_region 2 with (fail)
    refine wp_region_WB wr (by kernel_rfl) ?_
    repeat (go_big_quiet_step ((rename_i o;exact (HLX.out o.u).mono (fun _ _ h=>Ret.inB h))))
    refine wpQuiet_nil ?_
    intro _ hw'
    obtain ⟨o,rfl⟩:=hw'
    have S3:=Lib.hid (S.out.below o.h)
    clear k0 k1 k2 k3
    go_wp2
    go_meet
    exact ⟨k,hk,rfl,S3.out,HJ.out,HK.out⟩
 case rest =>
  obtain ⟨k,hk,rfl,S,HJ,HK⟩:=hcut
  clear S0 HLS
  replace HP1:=Lib.hid (HP1.out k HJ.out)
  replace HP2:=Lib.hid (HP2.out k HJ.out hk)
  clear HJ
  by_cases hf:∃ hlt:k < l.length,l[k]=c
  case pos =>
   obtain ⟨hlt,e1⟩:=hf
   have HE:=Lib.hid (HP1.out hlt e1)
   obtain ⟨b,off,he,c0,c1⟩:=S.out.ce k hlt
   subst he
   have HQ:=Lib.hid (HEQ.out l[k])
   rw [e1] at c0 c1 HQ
   rw [decide_eq_true rfl] at HQ
   have hq:=HQ.out
   have t1:decide ((k:Int) < (l.length:Int))=true:=by simp;omega
   have b0:=S.out.bx.cell 0 (by simp)
   have b1:=S.out.bx.cell 1 (by simp)
   simp only [List.getElem_toArray,List.getElem_cons_zero,List.getElem_cons_succ] at b0 b1
   clear e1 HP1 HP2 HQ HEQ HK
   go_upto_region 4 with (fail)
   have hne:Nonempty (WB wc):=⟨⟨wc,Below.refl _ _⟩⟩
   have k0:∀ o:WB wc,o.u.cell? ⟨b,off + k * 2,none⟩=some (.int .i64 c.s):=fun o=>cell_below o.h c0
   have k1:∀ o:WB wc,o.u.cell? ⟨b,off + k * 2 + 1,none⟩=some (.string c.f):=fun o=>cell_below o.h c1
   have k2:∀ o:WB wc,o.u.cell? ⟨w.heap.size,0,none⟩=some (.int .i64 c.s):=fun o=>cell_below o.h b0
   have k3:∀ o:WB wc,o.u.cell? ⟨w.heap.size,1,none⟩=some (.string c.f):=fun o=>cell_below o.h b1
   clear c0 c1 b0 b1
   refine wp_region_WB wc (by kernel_rfl) ?_
   repeat (go_big_quiet_step (fail))
   refine wpQuiet_nil ?_
   intro _ hw'
   obtain ⟨o,rfl⟩:=hw'
   have S3:=Lib.hid (S.out.below o.h)
   clear k0 k1 k2 k3 hq
   go_wp2
   go_ret
   exact ⟨S3.out.hb,some ⟨b,off,none⟩,lc,by rw [HE.out];rfl,by rw [HE.out];exact hc,by rw [HE.out];exact S3.out.ce⟩
  case neg =>
   have HE:Hid (R=l.take k ++ [c] ++ l.drop k):=HP2.out fun h=>⟨HK.out h,fun e=>hf ⟨h,e⟩⟩
   clear HP1 HP2
   go_upto_region 4 with (fail)
   go_cut [32] (fun v wx=>v = .bool false∧Hid (PX l la c w wx))
   case first =>
    have hne:Nonempty (WB wc):=⟨⟨wc,Below.refl _ _⟩⟩
    by_cases hlt:k < l.length
    ·have t1:decide ((k:Int) < (l.length:Int))=true:=by simp;omega
     obtain ⟨b,off,he,c0,c1⟩:=S.out.ce k hlt
     subst he
     have HQ:=Lib.hid (HEQ.out l[k])
     rw [decide_eq_false (fun e=>hf ⟨hlt,e⟩)] at HQ
     have b0:=S.out.bx.cell 0 (by simp)
     have b1:=S.out.bx.cell 1 (by simp)
     simp only [List.getElem_toArray,List.getElem_cons_zero,List.getElem_cons_succ] at b0 b1
     clear hf HE HK HEQ
     generalize l[k]=x at *
     have hq:=HQ.out
     have k0:∀ o:WB wc,o.u.cell? ⟨b,off + k * 2,none⟩=some (.int .i64 x.s):=fun o=>cell_below o.h c0
     have k1:∀ o:WB wc,o.u.cell? ⟨b,off + k * 2 + 1,none⟩=some (.string x.f):=fun o=>cell_below o.h c1
     have k2:∀ o:WB wc,o.u.cell? ⟨w.heap.size,0,none⟩=some (.int .i64 c.s):=fun o=>cell_below o.h b0
     have k3:∀ o:WB wc,o.u.cell? ⟨w.heap.size,1,none⟩=some (.string c.f):=fun o=>cell_below o.h b1
     clear c0 c1 b0 b1 HQ
     refine wp_region_WB wc (by kernel_rfl) ?_
     repeat (go_big_quiet_step (fail))
     refine wpQuiet_nil ?_
     intro _ hw'
     obtain ⟨o,rfl⟩:=hw'
     have S3:=Lib.hid (S.out.below o.h)
     clear k0 k1 k2 k3 hq
     go_wp2
     go_meet
     exact ⟨rfl,S3.out⟩
    ·have t1:decide ((k:Int) < (l.length:Int))=false:=by simp;omega
     clear hf HE HK HEQ
     refine wp_region_WB wc (by kernel_rfl) ?_
     repeat (go_big_quiet_step (fail))
     refine wpQuiet_nil ?_
     intro _ hw'
     obtain ⟨o,rfl⟩:=hw'
     have S3:=Lib.hid (S.out.below o.h)
     go_wp2
     go_meet
     exact ⟨rfl,S3.out⟩
   case rest =>
    obtain ⟨rfl,S2⟩:=hcut
    clear hf HK HEQ S
    obtain ⟨m1,m2,hl12,hk1⟩:∃ m1 m2:List Cel,l=m1 ++ m2∧k=m1.length:=⟨l.take k,l.drop k,(List.take_append_drop k l).symm,by simp;omega⟩
    subst hk1
    have HR:Hid (R=m1 ++ [c] ++ m2):=by
     show _=_
     rw [HE.out,hl12,List.take_left' rfl,List.drop_left' rfl]
    have HLN:Hid (l.length=m1.length + m2.length):=by show _=_;rw [hl12,List.length_append]
    have hm1:m1.length≤900000:=by have:=HLN.out;omega
    have hm2:m2.length≤900000:=by have:=HLN.out;omega
    have HA1:Hid (∀ wx,CelsAt wx la l→CelsAt wx la m1):=fun wx h=>by
     have:=celsAt_take h m1.length
     rw [hl12,List.take_left' rfl] at this
     exact this
    obtain ⟨a2,hsl,hdr⟩:=ceLo la l.length lc m1.length hk hc
    have HA2:Hid (∀ wx,CelsAt wx la l→CelsAt wx a2 m2):=fun wx h=>by
     have:=hdr wx l rfl h
     rw [hl12,List.drop_left' rfl] at this
     exact this
    have hd:l.length - m1.length=m2.length:=by have:=HLN.out;omega
    rw [hd] at hsl
    have hs1:=ceHi la l.length lc m1.length (by omega)
    clear hdr hd hl12 HE
    have OA:Hid (wc.ownsRow w.heap.size 61 2 (.slice none 0 0) ([]:List Cel).length (flatCe [])):=World.ownsRow_nil _ _ _ _
    have AT:=Lib.hid (HA1.out _ S2.out.ce)
    have hbs:=S2.out.hb.size
    have h01:([]:List Cel).length≤1000000:=by simp
    have h02:m1.length≤1000000:=by omega
    go_upto_region 8 with (at_builtin;refine appCes rfl _ _ rfl w.heap.size _ [] rfl OA.out la lc m1 rfl AT.out h01 h02 hbs ?_;intro v3 w3 own3 hg3)
    rw [List.nil_append] at own3
    obtain ⟨-,oa3,oc3,rfl,-,-⟩:=ownsCe own3
    have S3:Hid (PX l la c w w3):=⟨grow_below S2.out.hb OA.out hg3,S2.out.bx.grown hg3 (show some w.heap.size ≠ (none:Option Nat) by simp),HLA.out.below (grow_below S2.out.hb OA.out hg3)⟩
    have O3:=Lib.hid own3
    clear own3 hg3 OA AT hs1
    have h03:w.heap.size < w3.heap.size:=S3.out.bx.lt
    have b0:=S3.out.bx.cell 0 (by simp)
    have b1:=S3.out.bx.cell 1 (by simp)
    simp only [List.getElem_toArray,List.getElem_cons_zero,List.getElem_cons_succ] at b0 b1
    have O4:=Lib.hid (owns_below O3.out (one_below w3 (.cells #[.int .i64 c.s,.string c.f] 61)))
    have B4:Hid (Blk (w3.alloc (.cells #[.int .i64 c.s,.string c.f] 61)) w3.heap.size #[.int .i64 c.s,.string c.f] 61):=blk_new ..
    have S4:=Lib.hid (S3.out.below (one_below w3 (.cells #[.int .i64 c.s,.string c.f] 61)))
    have hb4:=S4.out.hb.size
    go_upto_region 9 with (at_builtin;refine appCe rfl _ _ rfl w.heap.size _ m1 rfl O4.out w3.heap.size c rfl B4.out h02 hb4 ?_;intro v5 w5 own5 hg5)
    have H5:Hid (Below w.heap.size w w5∧CelsAt w5 la l):=by
     have hb:=grow_below S4.out.hb O4.out hg5
     exact ⟨hb,HLA.out.below hb⟩
    obtain ⟨-,oa5,oc5,rfl,-,-⟩:=ownsCe own5
    have O5:=Lib.hid own5
    clear own5 hg5 S4 B4 O4 O3 b0 b1
    have AT5:=Lib.hid (HA2.out _ H5.out.2)
    have hb5:=H5.out.1.size
    have h04:(m1 ++ [c]).length≤1000000:=by simp;omega
    have h05:m2.length≤1000000:=by omega
    go_wp2_with (at_builtin;refine appCes rfl _ _ rfl w.heap.size _ (m1 ++ [c]) rfl O5.out a2 (lc - m1.length) m2 rfl AT5.out h04 h05 hb5 ?_;intro v7 w7 own7 hg7)
    have H7:=Lib.hid (grow_below H5.out.1 O5.out hg7)
    obtain ⟨-,oa7,oc7,rfl,-,-⟩:=ownsCe own7
    have O7:=Lib.hid (ownsCe' own7)
    clear own7 hg7
    go_wp2
    go_ret
    exact ⟨H7.out,oa7,oc7,by rw [HR.out];rfl,by rw [HR.out];exact O7.out.1,by rw [HR.out];exact O7.out.2⟩
end Go.Proofs.YtffcklfigpmlgaaGreatDoor
namespace Go.Proofs.YtffcklfigpmlgaaGreatDoor
open Go.RowKit Go.Unit0 Go.AM

set_option maxHeartbeats 2000000 in
theorem same26 (l:List Cel) (pa:Option Addr) (ca:Nat) (pb:Option Addr) (cb:Nat) (w:World) (ha:CelsAt w pa l) (hb:CelsAt w pb l) (hll:l.length≤1000000) :
 Calls Tryz.prog 8 #[.slice pa l.length ca,.slice pb l.length cb] w (Ret w (.bool true)):=by
 have HA:=Lib.hid ha
 have HB:=Lib.hid hb
 clear ha hb
 go_enter Tryz.func8,Tryz.ntmps8
 go_wp2
 go_loopw [5] (fun i wr=>∃ k:Nat,k≤l.length∧i = .int .i64 k∧Hid (Below w.heap.size w wr)) (fun i _=>l.length - (intOf i).toNat)
 case atStart=>exact ⟨0,Nat.zero_le _,rfl,Below.refl _ _⟩
 case round =>
  obtain ⟨k,hk,rfl,HW⟩:=hrel
  by_cases hlt:k < l.length
  case neg =>
   go_wp2
   go_ret
   exact ⟨rfl,HW.out⟩
  obtain ⟨b1,o1,he1,p1,p2⟩:=(HA.out.below HW.out) k hlt
  obtain ⟨b2,o2,he2,q1,q2⟩:=(HB.out.below HW.out) k hlt
  subst he1
  subst he2
  have HQ:Hid (∀ w1,(binOp .neq 61 (.agg #[.int .i64 l[k].s,.string l[k].f]) (.agg #[.int .i64 l[k].s,.string l[k].f])).run Tryz.prog w1 = .ok (.bool false) w1):=fun w1=>by
   have:=neqCel l[k] l[k] w1
   rw [decide_eq_true rfl] at this
   exact this
  generalize l[k].s=xs at *
  generalize l[k].f=xf at *
  have hq:=HQ.out
  have hne:Nonempty (WB wr):=⟨⟨wr,Below.refl _ _⟩⟩
  have k0:∀ o:WB wr,o.u.cell? ⟨b1,o1 + k * 2,none⟩=some (.int .i64 xs):=fun o=>cell_below o.h p1
  have k1:∀ o:WB wr,o.u.cell? ⟨b1,o1 + k * 2 + 1,none⟩=some (.string xf):=fun o=>cell_below o.h p2
  have k2:∀ o:WB wr,o.u.cell? ⟨b2,o2 + k * 2,none⟩=some (.int .i64 xs):=fun o=>cell_below o.h q1
  have k3:∀ o:WB wr,o.u.cell? ⟨b2,o2 + k * 2 + 1,none⟩=some (.string xf):=fun o=>cell_below o.h q2
  go_upto_region 6 with (fail)
  clear p1 p2 q1 q2
  refine wp_region_WB wr (by kernel_rfl) ?_
  repeat (go_big_quiet_step (fail))
  refine wpQuiet_nil ?_
  intro _ hw'
  obtain ⟨o,rfl⟩:=hw'
  have HW3:=Lib.hid (HW.out.trans (o.h.mono HW.out.size))
  clear k0 k1 k2 k3 hq
  go_wp2
  go_roundw
  case rel=>exact ⟨k + 1,by omega,by go_num,HW3.out⟩
  case measure=>simp [intOf];omega
structure UOk (u:Unt) (fc:Nat) (r:Rsl):Prop where
 fit:FitOk u 150
 cap:u.fs.length≤fc
 few:FewOk r
theorem UOk.hl {u:Unt} {fc:Nat} {r:Rsl} (k:UOk u fc r):u.fs.length≤1000:=by have:=k.fit.nf;omega
theorem UOk.hv {u:Unt} {fc:Nat} {r:Rsl} (k:UOk u fc r):∀ f ∈ u.fs,f.vars.length≤1000:=fun f hf=>by have:=(k.fit.f f hf).v;omega
theorem UOk.hh {u:Unt} {fc:Nat} {r:Rsl} (k:UOk u fc r):u.h.length≤100000:=by have:=k.fit.nc;omega
theorem UOk.hf {u:Unt} {fc:Nat} {r:Rsl} (k:UOk u fc r):∀ x ∈ u.h,x.fields.length≤100000:=fun x hx=>by have:=(k.fit.c x hx).f;omega
theorem UOk.ofl {u:Unt} {fc:Nat} {r:Rsl} (k:UOk u fc r) (f v:Int):(ofP u r f v).length≤4000:=by
 unfold ofP
 split
 ·simp
 ·cases h:r.vars[(varP u f v).toNat]? with
  | none=>simp
  | some l =>
    obtain ⟨hi,rfl⟩:=List.getElem?_eq_some_iff.1 h
    simpa using k.few.vl _ (List.getElem_mem hi)
theorem UOk.sl {u:Unt} {fc:Nat} {r:Rsl} (k:UOk u fc r):(sitL u).length≤150:=by
 have h1:=sitU_len (fs:=u.fs) (m:=u.fs.length) (Nat.le_refl _)
 rw [List.take_length] at h1
 have:=k.fit.t
 unfold sitL
 omega
def FOk (d:Bool) (w:World) (e:Ending) (w':World):Prop:=Below w.heap.size w w'∧∃ s1 s2,e = .returned (.tuple #[.string s1,.string s2,.bool d])
theorem FieldPost.ok {r:Option (Str × Fld)} {w:World} {e:Ending} {w':World} (h:FieldPost r w e w'):FOk r.isSome w e w':=by
 obtain ⟨hb,⟨rfl,rfl⟩ | ⟨x,g,rfl,rfl⟩⟩:=h
 ·exact ⟨hb,_,_,rfl⟩
 ·exact ⟨hb,_,_,rfl⟩
theorem fldB_neg {h:List Cls} {sites:List Sit} {field:Str} {s:Int} (e:s < 0):fldB h sites field s=false:=by
 unfold fldB;rw [decide_eq_false (by omega)];rfl
theorem fldB_big {h:List Cls} {sites:List Sit} {field:Str} {s:Int} (e:(sites.length:Int)≤s):fldB h sites field s=false:=by
 unfold fldB
 rw [List.getElem?_eq_none (by omega)]
 simp
theorem fldB_at {h:List Cls} {sites:List Sit} {field:Str} {j:Nat} (e:j < sites.length):fldB h sites field (j:Int)=(fieldP h sites[j].c field).isSome:=by
 unfold fldB
 rw [decide_eq_true (by omega),Int.toNat_natCast,List.getElem?_eq_getElem e]
 rfl
structure RC (u:Unt) (ha:Option Addr) (hc:Nat) (fa:Option Addr) (fc:Nat) (r:Rsl) (p:RP) (SL:List Sit) (sa:Option Addr) (L:List Int) (la:Option Addr) (out:List Cel) (oa:Option Addr) (oc:Nat) (w wr:World):Prop where
 ub:URB u ha hc fa fc r p w wr
 si:SitsAt wr sa SL
 vs:IntsAt wr la L
 oc:out.length≤oc
 ot:CelsAt wr oa out
theorem RC.below {u:Unt} {ha:Option Addr} {hc:Nat} {fa:Option Addr} {fc:Nat} {r:Rsl} {p:RP} {SL:List Sit} {sa:Option Addr} {L:List Int} {la:Option Addr} {out:List Cel} {oa:Option Addr} {oc:Nat} {w wr w':World} (k:RC u ha hc fa fc r p SL sa L la out oa oc w wr) (hb:Below wr.heap.size wr w'):RC u ha hc fa fc r p SL sa L la out oa oc w w' :=
 ⟨k.ub.below hb,k.si.below hb,k.vs.below hb,k.oc,k.ot.below hb⟩
end Go.Proofs.YtffcklfigpmlgaaGreatDoor
