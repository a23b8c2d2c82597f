/-
  Maps by what they hold at each key: look-ups and stores.
  Which values are keys of a map: strings, numbers, structs of such.
  Maps ranged over: the order is whatever the tape says; what is still to come is told as a list.
  Maps in a walk: the law at each operation.
-/
import Derived.Test.YtffcklfigpmlgaaGreatDoorAmC
import Derived.Below
import Derived.Maps.RangeWalk
import Derived.Maps.OwnOps
namespace Go.AM
open Go.RowKit
section
variable {P:Program} {κ:Type} [DecidableEq κ]
structure MKey (P:Program) (t:TypeId) (enc:κ→Value):Prop where
 ex:∃ q,KTOk P t q∧(∀ a,ShV q (enc a))∧(∀ a b,KTEq P t q (decide (a=b)) (enc a) (enc b))∧∀ em a w,(Instr.checkKey em 10000 t (enc a)).run P w = .ok () w
def lookL (l:List (κ × Value)) (k:κ):Option Value:=(l.find? (fun p=>decide (k=p.1))).map (·.2)
def MEs (enc:κ→Value) (l:List (κ × Value)) (m:List MapEntry):Prop:=m.map (fun e=>(e.key,e.val))=l.map (fun p=>(enc p.1,p.2))
theorem finds_spec {t:TypeId} {q:KT} {enc:κ→Value} (hq:KTOk P t q) (hs:∀ a,ShV q (enc a)) (he:∀ a b,KTEq P t q (decide (a=b)) (enc a) (enc b)) (k:κ):∀ (l:List (κ × Value)) (m:List MapEntry) (i:Nat),MEs enc l m →
 (lookL l k=none∧(∀ p ∈ l,k ≠ p.1)∧Finds P t q (enc k) m i none) ∨ ∃ j x e,l[j]? = some (k,x)∧(∀ p ∈ l.take j,k ≠ p.1)∧m[j]? = some e∧e.key=enc k∧lookL l k=some x∧Finds P t q (enc k) m i (some (i + j,x))
 | [],m,i,h=>by
   have:m = []:=by simpa [MEs] using h
   subst this
   exact .inl ⟨rfl,by simp,finds_nil hq (hs k) i⟩
 | (a,v) :: l,m,i,h=>by
   cases m with
   | nil=>simp [MEs] at h
   | cons e m =>
     have h':(e.key=enc a∧e.val=v)∧MEs enc l m:=by
      simp only [MEs,List.map_cons,List.cons.injEq,Prod.mk.injEq] at h
      exact ⟨h.1,h.2⟩
     obtain ⟨⟨h1,h2⟩,h3⟩:=h'
     have hk:=he k a
     by_cases hka:k=a
     ·subst hka
      rw [decide_eq_true rfl,← h1] at hk
      refine .inr ⟨0,v,e,rfl,by simp,rfl,h1,by simp [lookL],?_⟩
      rw [← h2]
      have:=finds_hit hq hk m i
      rw [h1] at this
      exact this
     ·rw [decide_eq_false hka,← h1] at hk
      rcases finds_spec hq hs he k l m (i + 1) h3 with ⟨g1,g2,g3⟩ | ⟨j,x,e',g1,g2,g3,g4,g5,g6⟩
      ·refine .inl ⟨?_,?_,?_⟩
       ·simpa [lookL,List.find?_cons,hka] using g1
       ·intro p hp
        rcases List.mem_cons.1 hp with rfl | hp
        ·exact hka
        ·exact g2 p hp
       ·rw [h1] at hk
        exact finds_miss hq (by rw [h1];exact hk) g3
      ·refine .inr ⟨j + 1,x,e',by simpa using g1,?_,by simpa using g3,g4,?_,?_⟩
       ·intro p hp
        rw [List.take_succ_cons] at hp
        rcases List.mem_cons.1 hp with rfl | hp
        ·exact hka
        ·exact g2 p hp
       ·simpa [lookL,List.find?_cons,hka] using g5
       ·rw [show i + (j + 1)=i + 1 + j by omega]
        exact finds_miss hq hk g6
structure MapF (w:World) (g:Nat) (enc:κ→Value) (F:κ→Option Value) (n:Nat):Prop where
 ex:∃ (l:List (κ × Value)) (ar:Array MapEntry) (c:Nat),w.heap[g]? = some (.map ar c)∧MEs enc l ar.toList∧(l.map (·.1)).Nodup∧(∀ k,F k=lookL l k)∧l.length≤n∧(ar.toList.map (·.born)).Nodup∧∀ e ∈ ar.toList,e.born < c
theorem MapF.made {w:World} {g:Nat} {enc:κ→Value} (h:w.heap[g]? = some (.map #[] 0)):MapF w g enc (fun _=>none) 0 :=
 ⟨[],#[],0,h,rfl,List.nodup_nil,fun _=>rfl,Nat.le_refl _,List.nodup_nil,by simp⟩
theorem MapF.new (w:World) (enc:κ→Value):MapF (w.alloc (.map #[] 0)) w.heap.size enc (fun _=>none) 0:=MapF.made (alloc_new w _)
theorem MapF.lt {w:World} {g:Nat} {enc:κ→Value} {F:κ→Option Value} {n:Nat} (h:MapF w g enc F n):g < w.heap.size:=by
 obtain ⟨l,ar,c,h1,_⟩:=h.ex
 exact (Array.getElem?_eq_some_iff.1 h1).1
theorem MapF.at {w w':World} {g:Nat} {enc:κ→Value} {F:κ→Option Value} {n:Nat} (h:MapF w g enc F n) (e:w'.heap[g]? = w.heap[g]?):MapF w' g enc F n:=by
 obtain ⟨l,ar,c,h1,h2⟩:=h.ex
 exact ⟨l,ar,c,by rw [e,h1],h2⟩
theorem MapF.below {w w':World} {g:Nat} {enc:κ→Value} {F:κ→Option Value} {n:Nat} (h:MapF w g enc F n) (hb:Below w.heap.size w w'):MapF w' g enc F n:=h.at (hb.block g h.lt)
theorem MapF.grown {w w':World} {g:Nat} {enc:κ→Value} {F:κ→Option Value} {n:Nat} {row:Option Nat} (h:MapF w g enc F n) (hg:w.grownBy w' row) (hne:some g ≠ row):MapF w' g enc F n:=h.at (hg.block g h.lt hne)
theorem MapF.lookup {w:World} {g:Nat} {enc:κ→Value} {F:κ→Option Value} {n:Nat} (h:MapF w g enc F n) {t kt e:TypeId} (K:MKey P kt enc) (hu:P.underlying t=some (.map kt e)) {z:Value} (hz:(zeroValue e).run P w = .ok z w) (k:κ) (ok:Bool) :
 (Instr.lookup t (.map (some g)) (enc k) ok).run P w = .ok (if ok=true then .tuple #[(F k).getD z,.bool (F k).isSome] else (F k).getD z) w:=by
 obtain ⟨l,ar,c,hb,hm,_,hF,_⟩:=h.ex
 obtain ⟨q,hq,hs,he,hc⟩:=K.ex
 have h2:=hc ar.isEmpty k w
 rw [hF k]
 rcases finds_spec hq hs he k l ar.toList 0 hm with ⟨g1,_,g3⟩ | ⟨j,x,e',_,_,_,_,g5,g6⟩
 ·have h1:=run_findKey (P:=P) (w:=w) hq g3
  rw [g1]
  simp [Instr.lookup,run_underlying hu,run_getObj_map hb,h1,h2,hz]
 ·have h1:=run_findKey (P:=P) (w:=w) hq g6
  rw [g5]
  simp [Instr.lookup,run_underlying hu,run_getObj_map hb,h1,h2]
theorem sameBits_self {t:TypeId} {q:KT} {enc:κ→Value} (he:∀ a b,KTEq P t q (decide (a=b)) (enc a) (enc b)) (k:κ):Instr.sameBits 10000 (enc k) (enc k)=true:=by
 have:=he k k
 rw [decide_eq_true rfl] at this
 exact sameBits_keyT this
theorem lookL_append (l:List (κ × Value)) (k k':κ) (v:Value) (h:∀ p ∈ l,k ≠ p.1):lookL (l ++ [(k,v)]) k' = if k' = k then some v else lookL l k':=by
 unfold lookL
 rw [List.find?_append]
 by_cases e:k' = k
 ·subst e
  have:l.find? (fun p=>decide (k' = p.1))=none:=by
   rw [List.find?_eq_none]
   intro p hp
   simpa using h p hp
  rw [this]
  simp
 ·rw [if_neg e]
  cases l.find? (fun p=>decide (k' = p.1)) <;> simp [e]
theorem lookL_set:∀ (l:List (κ × Value)) (j:Nat) (k k':κ) (v x:Value),l[j]? = some (k,x)→(∀ p ∈ l.take j,k ≠ p.1)→lookL (l.set j (k,v)) k' = if k' = k then some v else lookL l k'
 | [],j,k,k',v,x,h,_=>by simp at h
 | (a,y) :: l,0,k,k',v,x,h,_=>by
   simp only [List.getElem?_cons_zero,Option.some.injEq,Prod.mk.injEq] at h
   obtain ⟨rfl,rfl⟩:=h
   by_cases e:k' = a
   ·subst e;simp [lookL]
   ·simp [lookL,e]
 | (a,y) :: l,j + 1,k,k',v,x,h,hp=>by
   have ih:=lookL_set l j k k' v x (by simpa using h) (fun p hq=>hp p (by rw [List.take_succ_cons];exact List.mem_cons_of_mem _ hq))
   have hka:k ≠ a:=hp (a,y) (by rw [List.take_succ_cons];exact List.mem_cons_self ..)
   rw [List.set_cons_succ]
   by_cases e:k' = a
   ·have:¬ k' = k:=fun h=>hka (by rw [← h,e])
    simp [lookL,e,Ne.symm hka]
   ·simpa [lookL,List.find?_cons,e] using ih
theorem MapF.update {w:World} {g:Nat} {enc:κ→Value} {F:κ→Option Value} {n:Nat} (h:MapF w g enc F n) {t kt e:TypeId} (K:MKey P kt enc) (hu:P.underlying t=some (.map kt e)) (k:κ) (v:Value) :
 ∃ ar c,(Instr.mapUpdate t (.map (some g)) (enc k) v).run P w = .ok () (putW w g (.map ar c))∧MapF (putW w g (.map ar c)) g enc (fun k'=>if k' = k then some v else F k') (n + 1):=by
 have hlt:=h.lt
 obtain ⟨l,ar,c,hb,hm,hn,hF,hl,hbn,hbc⟩:=h.ex
 obtain ⟨q,hq,hs,he,hc⟩:=K.ex
 have h2:=hc false k w
 rcases finds_spec hq hs he k l ar.toList 0 hm with ⟨g1,g2,g3⟩ | ⟨j,x,e',g1,g2,g3,g4,g5,g6⟩
 ·have h1:=run_findKey (P:=P) (w:=w) hq g3
  refine ⟨ar.push ⟨enc k,v,c⟩,c + 1,?_,l ++ [(k,v)],_,_,putW_self _ hlt,?_,?_,?_,by simp;omega,?_,?_⟩
  ·simp [Instr.mapUpdate,run_underlying hu,run_getObj_map hb,h1,h2,run_setObj hb (by simp)]
  ·simp only [MEs,Array.toList_push,List.map_append] at hm ⊢
   rw [hm];rfl
  ·rw [List.map_append,List.nodup_append]
   refine ⟨hn,by simp,?_⟩
   intro a ha b hb' hab
   obtain ⟨p,hp,rfl⟩:=List.mem_map.1 ha
   simp only [List.map_cons,List.map_nil,List.mem_singleton] at hb'
   exact g2 p hp (by rw [← hb',hab])
  ·intro k'
   rw [lookL_append l k k' v g2,hF k']
  ·rw [Array.toList_push,List.map_append,List.nodup_append]
   refine ⟨hbn,by simp,?_⟩
   intro a ha b hb' hab
   obtain ⟨p,hp,rfl⟩:=List.mem_map.1 ha
   simp only [List.map_cons,List.map_nil,List.mem_singleton] at hb'
   have:=hbc p hp
   omega
  ·intro p hp
   rw [Array.toList_push] at hp
   rcases List.mem_append.1 hp with hp | hp
   ·have:=hbc p hp;omega
   ·simp only [List.mem_singleton] at hp;subst hp;exact Nat.lt_succ_self _
 ·rw [Nat.zero_add] at g6
  have h1:=run_findKey (P:=P) (w:=w) hq g6
  have hj':ar[j]? = some e':=by rw [← Array.getElem?_toList];exact g3
  have hjl:j < l.length:=(List.getElem?_eq_some_iff.1 g1).1
  have h3:(Instr.keyThatStays e'.key (enc k)).run P w = .ok (enc k) w:=by
   unfold Instr.keyThatStays
   rw [if_pos (by rw [g4];exact sameBits_self he k)]
   rfl
  refine ⟨ar.modify j fun e=>{ e with key:=enc k,val:=v },c,?_,l.set j (k,v),_,_,putW_self _ hlt,?_,?_,?_,by rw [List.length_set];omega,?_,?_⟩
  ·simp [Instr.mapUpdate,run_underlying hu,run_getObj_map hb,h1,h2,hj',h3,run_setObj hb (by simp)]
  ·simp only [MEs] at hm ⊢
   apply List.ext_getElem?
   intro i
   have hi:=congrArg (·[i]?) hm
   simp only [List.getElem?_map,Array.toList_modify,List.getElem?_modify,List.getElem?_set] at hi ⊢
   by_cases hij:j=i
   ·subst hij
    rw [g3] 
    simp [hjl]
   ·simp only [hij,if_false]
    simpa using hi
  ·have:(l.set j (k,v)).map (·.1)=l.map (·.1):=by
    apply List.ext_getElem?
    intro i
    simp only [List.getElem?_map,List.getElem?_set]
    by_cases hij:j=i
    ·subst hij
     rw [g1]
     simp [hjl]
    ·simp [hij]
   rw [this];exact hn
  ·intro k'
   rw [lookL_set l j k k' v x g1 g2,hF k']
  ·have:(ar.modify j fun e=>{ e with key:=enc k,val:=v }).toList.map (·.born)=ar.toList.map (·.born):=by
    apply List.ext_getElem?
    intro i
    simp only [List.getElem?_map,Array.toList_modify,List.getElem?_modify]
    by_cases hij:j=i
    ·subst hij;rw [g3];simp
    ·simp [hij]
   rw [this];exact hbn
  ·intro p hp
   rw [Array.toList_modify] at hp
   obtain ⟨i,hi⟩:=List.getElem?_of_mem hp
   rw [List.getElem?_modify] at hi
   cases hai:ar.toList[i]? with
   | none=>rw [hai] at hi;simp at hi
   | some y =>
     rw [hai] at hi
     have hy:=hbc y (List.mem_of_getElem? hai)
     by_cases hij:j=i
     ·simp [hij] at hi;subst hi;exact hy
     ·simp [hij] at hi;subst hi;exact hy
end
end Go.AM
namespace Go.AM
open Go.RowKit
section
variable {P:Program}
theorem bytes_eq_iff (a b:ByteArray):(a.toList == b.toList)=decide (a=b):=by
 by_cases h:a=b
 ·subst h;simp
 ·rw [decide_eq_false h]
  cases hb:(a.toList == b.toList) with
  | false=>rfl
  | true=>exact absurd (bytes_same hb) h
theorem mkey_str {t:TypeId} (h:keyT P t=some (.k .s)):MKey P t Value.string :=
 ⟨_,keyT_inv h,fun _=>trivial,fun a b=>⟨a,b,rfl,rfl,(bytes_eq_iff a b).symm⟩,fun em _ _=>run_checkKeyK (keyT_inv h) em 9999 _⟩
theorem mkey_int {t:TypeId} {q:IntKind} (h:keyT P t=some (.k .i)):MKey P t (Value.int q) :=
 ⟨_,keyT_inv h,fun _=>trivial,fun a b=>⟨q,a,b,rfl,rfl,by
   by_cases e:a=b
   ·subst e;simp
   ·rw [decide_eq_false e];symm;simpa using e⟩,fun em a w=>run_checkKeyK (keyT_inv h) em 9999 _⟩
inductive KC where | b (x:Bool) | i (k:IntKind) (x:Int) | s (x:ByteArray)
deriving DecidableEq
def KC.v:KC→Value | .b x=>.bool x | .i k x=>.int k x | .s x=>.string x
def KC.a:KC→AV | .b x=>.b x | .i k x=>.i k x | .s x=>.s (x.data.toList.map (·.toNat))
def KC.k:KC→KK | .b _=>.b | .i _ _=>.i | .s _=>.s
def KC.ik:KC→Option (Option IntKind) | .b _=>none | .i k _=>some (some k) | .s _=>some none
theorem KC.rel (E:Env') (c:KC):VRel E c.a c.v:=by
 cases c with
 | b x=>simp [KC.a,KC.v,VRel]
 | i k x=>simp [KC.a,KC.v,VRel]
 | s x=>simp only [KC.a,KC.v,VRel];exact ⟨x,rfl,rfl⟩
theorem KC.kk {x y:KC} (h:x.ik=y.ik):x.k=y.k:=by
 cases x <;> cases y <;> simp_all [KC.ik,KC.k]
def KC.row (l:List KC):AV:=ofL (l.map KC.a)
end
end Go.AM
namespace Go.AM
open Go.RowKit
open Go.ChangeMaps (setBlock)
section
variable {P:Program} {κ:Type} [DecidableEq κ]
structure IterF (w:World) (r g:Nat) (enc:κ→Value) (F:κ→Option Value) (n:Nat) (left:List (κ × Value)):Prop where
 ex:∃ (l:List (κ × Value)) (ar:Array MapEntry) (c since c0:Nat) (seen:Array Nat),w.heap[g]? = some (.map ar c)∧MEs enc l ar.toList∧(l.map (·.1)).Nodup∧(∀ k,F k=lookL l k)∧l.length≤n∧(ar.toList.map (·.born)).Nodup∧(∀ e ∈ ar.toList,e.born < c) ∧
  w.heap[r]? = some (.mapIter (some g) since seen c0)∧since=c∧c0=c∧MEs enc left (leftOf ar seen).toList∧r ≠ g∧(∀ p ∈ left,lookL l p.1=some p.2)∧(left.map (·.1)).Nodup
theorem IterF.map {w:World} {r g:Nat} {enc:κ→Value} {F:κ→Option Value} {n:Nat} {left:List (κ × Value)} (h:IterF w r g enc F n left):MapF w g enc F n:=by
 obtain ⟨l,ar,c,since,c0,seen,h1,h2,h3,h4,h5,h6,h7,_⟩:=h.ex
 exact ⟨l,ar,c,h1,h2,h3,h4,h5,h6,h7⟩
theorem IterF.lt {w:World} {r g:Nat} {enc:κ→Value} {F:κ→Option Value} {n:Nat} {left:List (κ × Value)} (h:IterF w r g enc F n left):r < w.heap.size:=by
 obtain ⟨l,ar,c,since,c0,seen,h1,h2,h3,h4,h5,h6,h7,h8,_⟩:=h.ex
 exact (Array.getElem?_eq_some_iff.1 h8).1
theorem IterF.holds {w:World} {r g:Nat} {enc:κ→Value} {F:κ→Option Value} {n:Nat} {left:List (κ × Value)} (h:IterF w r g enc F n left):(∀ p ∈ left,F p.1=some p.2)∧(left.map (·.1)).Nodup:=by
 obtain ⟨l,ar,c,since,c0,seen,h1,h2,h3,h4,h5,h6,h7,h8,h9,h10,h11,h12,h13,h14⟩:=h.ex
 exact ⟨fun p hp=>by rw [h4,h13 p hp],h14⟩
theorem IterF.at {w w':World} {r g:Nat} {enc:κ→Value} {F:κ→Option Value} {n:Nat} {left:List (κ × Value)} (h:IterF w r g enc F n left) (e1:w'.heap[g]? = w.heap[g]?) (e2:w'.heap[r]? = w.heap[r]?):IterF w' r g enc F n left:=by
 obtain ⟨l,ar,c,since,c0,seen,h1,h2,h3,h4,h5,h6,h7,h8,h9⟩:=h.ex
 exact ⟨l,ar,c,since,c0,seen,by rw [e1,h1],h2,h3,h4,h5,h6,h7,by rw [e2,h8],h9⟩
theorem IterF.below {w w':World} {r g:Nat} {enc:κ→Value} {F:κ→Option Value} {n:Nat} {left:List (κ × Value)} (h:IterF w r g enc F n left) (hb:Below w.heap.size w w'):IterF w' r g enc F n left:=h.at (hb.block g h.map.lt) (hb.block r h.lt)
theorem IterF.grown {w w':World} {r g:Nat} {enc:κ→Value} {F:κ→Option Value} {n:Nat} {left:List (κ × Value)} (h:IterF w r g enc F n left) {row:Option Nat} (hg:w.grownBy w' row) (h1:some g ≠ row) (h2:some r ≠ row):IterF w' r g enc F n left:=h.at (hg.block g h.map.lt h1) (hg.block r h.lt h2)
theorem look_of_mem:∀ {l:List (κ × Value)},(l.map (·.1)).Nodup→∀ p ∈ l,lookL l p.1=some p.2
 | [],_,p,h=>by cases h
 | (a,v) :: l,hn,p,h=>by
   rw [List.map_cons,List.nodup_cons] at hn
   rcases List.mem_cons.1 h with rfl | h
   ·simp [lookL]
   ·have ih:=look_of_mem hn.2 p h
    have:¬ p.1=a:=fun e=>hn.1 (by rw [← e];exact List.mem_map.2 ⟨p,h,rfl⟩)
    simpa [lookL,List.find?_cons,this] using ih
theorem MEs.mem {enc:κ→Value}:∀ {l:List (κ × Value)} {m:List MapEntry},MEs enc l m→∀ e ∈ m,∃ p ∈ l,e.key=enc p.1∧e.val=p.2:=by
 intro l m h e he
 have _hd:DecidableEq κ:=inferInstance
 have:(e.key,e.val) ∈ m.map (fun e=>(e.key,e.val)):=List.mem_map_of_mem he
 rw [h] at this
 obtain ⟨p,hp,e1⟩:=List.mem_map.1 this
 simp only [Prod.mk.injEq] at e1
 exact ⟨p,hp,e1.1.symm,e1.2.symm⟩
theorem MapF.range {w:World} {g:Nat} {enc:κ→Value} {F:κ→Option Value} {n:Nat} (h:MapF w g enc F n) {t kt e:TypeId} (hu:P.underlying t=some (.map kt e)) :
 ∃ ob left,(Instr.range t (.map (some g))).run P w = .ok (.pointer (some ⟨w.heap.size,0,none⟩)) (w.alloc ob)∧(∀ c e f,ob ≠ .cells c e f)∧IterF (w.alloc ob) w.heap.size g enc F n left∧(∀ k v,F k=some v→(k,v) ∈ left)∧left.length≤n:=by
 have hlt:=h.lt
 obtain ⟨l,ar,c,hb,hm,hn,hF,hl,hbn,hbc⟩:=h.ex
 refine ⟨.mapIter (some g) c #[] c,l,?_,by simp,⟨l,ar,c,c,c,#[],?_,hm,hn,hF,hl,hbn,hbc,alloc_new w _,rfl,rfl,?_,by omega,look_of_mem hn,hn⟩,?_,hl⟩
 ·simp [Instr.range,run_underlying hu,run_getObj_map hb,newObj,Sem.run]
 ·rw [Below.heap_alloc _ _ _ hlt];exact hb
 ·unfold leftOf
  have:(ar.filter fun e=>!(#[]:Array Nat).contains e.born)=ar:=by simp
  rw [this];exact hm
 ·intro k v hk
  rw [hF] at hk
  unfold lookL at hk
  cases hf:l.find? (fun p=>decide (k=p.1)) with
  | none=>rw [hf] at hk;simp at hk
  | some p =>
    rw [hf] at hk
    simp only [Option.map_some,Option.some.injEq] at hk
    have h1:=List.mem_of_find?_eq_some hf
    have h2:=List.find?_some hf
    simp only [decide_eq_true_eq] at h2
    rw [h2,← hk];exact h1
theorem filter_born:∀ {m:List MapEntry} {j:Nat} {e:MapEntry},(m.map (·.born)).Nodup→m[j]? = some e→m.filter (fun x=>!(x.born == e.born))=m.eraseIdx j
 | [],j,e,_,h=>by simp at h
 | x :: m,0,e,hn,h=>by
   simp only [List.getElem?_cons_zero,Option.some.injEq] at h
   subst h
   rw [List.map_cons,List.nodup_cons] at hn
   rw [List.eraseIdx_cons_zero,List.filter_cons]
   simp only [beq_self_eq_true,Bool.not_true,Bool.false_eq_true,if_false]
   rw [List.filter_eq_self]
   intro y hy
   have:¬ y.born=x.born:=fun e=>hn.1 (by rw [← e];exact List.mem_map.2 ⟨y,hy,rfl⟩)
   simpa using this
 | x :: m,j + 1,e,hn,h=>by
   rw [List.map_cons,List.nodup_cons] at hn
   have h:m[j]? = some e:=by simpa using h
   have ih:=filter_born hn.2 h
   have:¬ x.born=e.born:=fun e'=>hn.1 (by rw [e'];exact List.mem_map.2 ⟨e,List.mem_of_getElem? h,rfl⟩)
   rw [List.eraseIdx_cons_succ,List.filter_cons,ih]
   simp [this]
theorem leftOf_push (ar:Array MapEntry) (seen:Array Nat) (b:Nat):(leftOf ar (seen.push b)).toList=(leftOf ar seen).toList.filter (fun x=>!(x.born == b)):=by
 unfold leftOf
 rw [Array.toList_filter,Array.toList_filter,List.filter_filter]
 apply List.filter_congr
 intro x _
 by_cases e:x.born=b <;> simp [e]
theorem eraseIdx_map' {α β:Type} (f:α→β):∀ (l:List α) (j:Nat),(l.map f).eraseIdx j=(l.eraseIdx j).map f
 | [],j=>by simp
 | x :: l,0=>rfl
 | x :: l,j + 1=>by simp [eraseIdx_map' f l j]
theorem IterF.next {w:World} {r g:Nat} {enc:κ→Value} {F:κ→Option Value} {n:Nat} {left:List (κ × Value)} (h:IterF w r g enc F n left) (ty:TypeId) :
 (left = []∧(Instr.next (.pointer (some ⟨r,0,none⟩)) false ty).run P w = .ok (.tuple #[.bool false]) w) ∨
 ∃ p j w1 ob,left[j]? = some p∧(w1=w ∨ w1=w.drew)∧(Instr.next (.pointer (some ⟨r,0,none⟩)) false ty).run P w = .ok (.tuple #[.bool true,enc p.1,p.2]) (setBlock w1 r ob)∧IterF (setBlock w1 r ob) r g enc F n (left.eraseIdx j) ∧
   (Instr.entry (.pointer (some ⟨r,0,none⟩))).run P (setBlock w1 r ob) = .ok (.tuple #[enc p.1,p.2]) (setBlock w1 r ob):=by
 obtain ⟨l,ar,c,since,c0,seen,h1,h2,h3,h4,h5,h6,h7,h8,rfl,rfl,h11,h12,h13,h14⟩:=h.ex
 rcases run_next_at (P:=P) w ty r g c0 c0 seen ar c0 h8 h1 h7 (Nat.le_refl _) with ⟨hz,hrun⟩ | ⟨e,he,w1,hw1,hrun⟩
 ·refine .inl ⟨?_,hrun⟩
  have:(leftOf ar seen).toList = []:=List.eq_nil_of_length_eq_zero (by rw [Array.length_toList];exact hz)
  unfold MEs at h11
  rw [this] at h11
  simpa using h11.symm
 ·obtain ⟨j,hj⟩:=List.getElem?_of_mem he
  have hp:∃ p,left[j]? = some p∧e.key=enc p.1∧e.val=p.2:=by
   have hi:=congrArg (·[j]?) h11
   simp only [List.getElem?_map,hj,Option.map_some] at hi
   cases hl:left[j]? with
   | none=>rw [hl] at hi;simp at hi
   | some p=>rw [hl] at hi;simp only [Option.map_some,Option.some.injEq,Prod.mk.injEq] at hi;exact ⟨p,rfl,hi.1,hi.2⟩
  obtain ⟨p,hp,hk,hv⟩:=hp
  rw [hk,hv] at hrun
  have hb1:w1.heap=w.heap:=by rcases hw1 with rfl | rfl <;> rfl
  have hrl:r < w1.heap.size:=by rw [hb1];exact (Array.getElem?_eq_some_iff.1 h8).1
  have e1:(setBlock w1 r (.mapIter (some g) c0 (seen.push e.born) c0)).heap[g]? = some (.map ar c0):=by
   show (w1.heap.setIfInBounds r _)[g]? = _
   rw [Array.getElem?_setIfInBounds_ne h12,hb1,h1]
  have e2:(setBlock w1 r (.mapIter (some g) c0 (seen.push e.born) c0)).heap[r]? = some (.mapIter (some g) c0 (seen.push e.born) c0):=by
   show (w1.heap.setIfInBounds r _)[r]? = _
   rw [Array.getElem?_setIfInBounds_self,if_pos hrl]
  have hbl:((leftOf ar seen).toList.map (·.born)).Nodup:=by
   unfold leftOf
   rw [Array.toList_filter]
   exact h6.sublist (List.Sublist.map _ (List.filter_sublist ..))
  refine .inr ⟨p,j,w1,_,hp,hw1,hrun,⟨l,ar,c0,c0,c0,seen.push e.born,e1,h2,h3,h4,h5,h6,h7,e2,rfl,rfl,?_,h12,fun q hq=>h13 q (List.mem_of_mem_eraseIdx hq),?_⟩,?_⟩
  ·unfold MEs at h11 ⊢
   rw [leftOf_push,filter_born hbl hj,← eraseIdx_map',h11,eraseIdx_map']
  ·rw [← eraseIdx_map']
   exact h14.sublist (List.eraseIdx_sublist ..)
  ·have:=run_entry_at (P:=P) _ r g c0 seen ar c0 e e2 e1 (by unfold leftOf at he;rw [Array.toList_filter] at he;exact (List.mem_filter.1 he).1) h6
   rw [hk,hv] at this
   exact this
end
end Go.AM
namespace Go.AM
open Go.RowKit
open Go.ChangeMaps (setBlock)
section
variable {P:Program} {κ:Type} [DecidableEq κ] {ops:Array Oper} {rest:List Oper} {o:Oper} {a:Act} {Q:Exit→Act→World→Prop} {w:World}
theorem grown_put {g:Nat} (ob:Obj):w.grownBy (putW w g ob) (some g) :=
 ⟨rfl,rfl,rfl,by show w.heap.size≤(w.heap.setIfInBounds g ob).size;simp,fun k hk hne=>putW_ne ob (fun e=>hne (by rw [e]))⟩
theorem wpList_mapF (hg:o.guard=none) (m x v:Operand) (t:TypeId) (hop:o.op = .mapUpdate t m x v) {kt e:TypeId} {enc:κ→Value} (K:MKey P kt enc) (hu:P.underlying t=some (.map kt e)) (g:Nat) {F:κ→Option Value} {n:Nat}
 (hm:a.eval m = .map (some g)) (hown:MapF w g enc F n) (k:κ) (hx:a.eval x=enc k) (val:Value) (hv:a.eval v=val)
 (hK:∀ w',MapF w' g enc (fun k'=>if k' = k then some val else F k') (n + 1)→w.grownBy w' (some g)→w'.heap.size=w.heap.size→wpList P ops Q rest (a.put o.dst undef) w'):wpList P ops Q (o :: rest) a w:=by
 refine wpList_plain hg fun K' hK'=>?_
 obtain ⟨ar,c,hrun,r1⟩:=hown.update K hu k val
 unfold Oper.wp
 simp [execOp,hop,hm,hx,hv,hrun,Result.andThen]
 exact hK' _ _ (hK _ r1 (grown_put _) (by show (w.heap.setIfInBounds g _).size=_;simp))
theorem wpList_lookF (hg:o.guard=none) (m x:Operand) (t:TypeId) (ok:Bool) (hop:o.op = .lookup t m x ok) {kt e:TypeId} {enc:κ→Value} (K:MKey P kt enc) (hu:P.underlying t=some (.map kt e)) (z:Value) (hz:(zeroValue e).run P w = .ok z w) (g:Nat) {F:κ→Option Value} {n:Nat}
 (hm:a.eval m = .map (some g)) (hown:MapF w g enc F n) (k:κ) (hx:a.eval x=enc k)
 (hK:wpList P ops Q rest (a.put o.dst (if ok=true then .tuple #[(F k).getD z,.bool (F k).isSome] else (F k).getD z)) w):wpList P ops Q (o :: rest) a w:=by
 refine wpList_plain hg fun K' hK'=>?_
 have hrun:=hown.lookup K hu hz k ok
 unfold Oper.wp
 simp [execOp,hop,hm,hx,hrun,Result.andThen]
 refine hK' _ _ ?_
 cases ok <;> simpa using hK
theorem wpList_makeF (hg:o.guard=none) (t:TypeId) (hop:o.op = .makeMap t none) {kt e:TypeId} (_hu:P.underlying t=some (.map kt e)) (enc:κ→Value)
 (hK:MapF (w.alloc (.map #[] 0)) w.heap.size enc (fun _=>none) 0→wpList P ops Q rest (a.put o.dst (.map (some w.heap.size))) (w.alloc (.map #[] 0))):wpList P ops Q (o :: rest) a w:=by
 refine wpList_plain hg fun K' hK'=>?_
 unfold Oper.wp
 have hrun:(Instr.makeMap t none).run P w = .ok (.map (some w.heap.size)) (w.alloc (.map #[] 0)):=by
  simp [Instr.makeMap,newObj,Sem.run]
 simp [execOp,hop,hrun,Result.andThen]
 exact hK' _ _ (hK (MapF.new w enc))
end
end Go.AM
