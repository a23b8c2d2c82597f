/-
  Plain: the program's chains of indices are the reference's chains of names.
  ir.Find: the function of a class with a name.
  Plain: methods looked up along a chain of indices and along a chain of names; subclasses and targets.
-/
import Derived.Test.YtffcklfigpmlgaaGreatDoorTC
import Derived.Test.YtffcklfigpmlgaaGreatDoorWA
import Derived.Test.YtffcklfigpmlgaaGreatDoorGA
import Derived.Test.YtffcklfigpmlgaaGreatDoorUA
namespace Go.Proofs.YtffcklfigpmlgaaGreatDoor
open Go.RowKit Go.Unit0 Go.AM

def isFst (h:List Cls) (i:Int):Prop:=∃ (j:Nat) (hj:j < h.length),i=(j:Int)∧findI h h[j].name=(j:Int)
theorem isFst.nat {h:List Cls} {i:Int} (k:isFst h i):∃ j:Nat,j < h.length∧i=(j:Int):=by
 obtain ⟨j,hj,e,_⟩:=k
 exact ⟨j,hj,e⟩
theorem isFst.ge {h:List Cls} {i:Int} (k:isFst h i):0≤i:=by
 obtain ⟨j,hj,e,_⟩:=k
 omega
theorem findI_fst {h:List Cls} {s:Str} (k:0≤findI h s):isFst h (findI h s):=by
 rcases find_spec h s with ⟨_,f2⟩ | ⟨j,hj,f1,_,f3⟩
 ·omega
 ·exact ⟨j,hj,f1,by rw [f3];exact f1⟩
theorem nameAt_nat {h:List Cls} {j:Nat} (hj:j < h.length):nameAt h (j:Int)=h[j].name:=by
 unfold nameAt
 rw [Int.toNat_natCast,List.getElem?_eq_getElem hj]
theorem supAt_nat {h:List Cls} {j:Nat} (hj:j < h.length):supAt h (j:Int)=supI h h[j]:=by
 unfold supAt
 rw [Int.toNat_natCast,List.getElem?_eq_getElem hj]
theorem isFst.find {h:List Cls} {i:Int} (k:isFst h i):findI h (nameAt h i)=i:=by
 obtain ⟨j,hj,rfl,e⟩:=k
 rw [nameAt_nat hj,e]
theorem isFst.inj {h:List Cls} {i j:Int} (k:isFst h i) (l:isFst h j) (e:nameAt h i=nameAt h j):i=j:=by
 rw [← k.find,← l.find,e]
theorem supI_fst {h:List Cls} {x:Cls} (k:0≤supI h x):isFst h (supI h x):=by
 unfold supI at *
 by_cases e:(x.super.toList == ([]:List UInt8))=true
 ·rw [if_pos e] at k;omega
 ·rw [if_neg e] at *;exact findI_fst k
theorem supAt_fst {h:List Cls} {i:Int} (k:0≤supAt h i):isFst h (supAt h i):=by
 unfold supAt at *
 cases e:h[i.toNat]? with
 | none=>rw [e] at k;exact absurd k (show ¬ (0:Int)≤-1 by decide)
 | some x=>rw [e] at k;exact supI_fst k
theorem chIF_neg {h:List Cls} (n:Nat) {i:Int} {l:List Int} (k:¬ 0≤i):chIF h n i l=(l,i):=by
 cases n with
 | zero=>rfl
 | succ n=>exact chIF_stop (fun e=>k e.1)
theorem chIF_fst {h:List Cls}:∀ (n:Nat) (i:Int) (l:List Int),(0≤i→isFst h i)→(∀ x ∈ l,isFst h x)→∀ x ∈ (chIF h n i l).1,isFst h x
 | 0,_,_,_,k2=>k2
 | n + 1,i,l,k1,k2=>by
   by_cases hq:0≤i∧i ∉ l
   ·rw [chIF_go hq.1 hq.2]
    refine chIF_fst n _ _ (fun e=>supAt_fst e) (fun x hx=>?_)
    rcases List.mem_append.1 hx with hx | hx
    ·exact k2 x hx
    ·rw [List.mem_singleton.1 hx];exact k1 hq.1
   ·rw [chIF_stop hq];exact k2
theorem chI_fst {h:List Cls} {i:Int} (k:0≤i→isFst h i):∀ x ∈ (chI h i).1,isFst h x:=chIF_fst _ _ _ k (fun _ h=>by cases h)
theorem chain_same {h:List Cls}:∀ (n:Nat) (s:Str) (l:List Int),(∀ x ∈ l,isFst h x)→(chainF h n s (l.map (nameAt h))).1=(chIF h n (findI h s) l).1.map (nameAt h)
 | 0,_,_,_=>rfl
 | n + 1,s,l,k=>by
   rcases find_spec h s with ⟨f1,f2⟩ | ⟨j,hj,f1,f2,f3⟩
   ·rw [chainF_none f1,f2,chIF_stop (by omega)]
   ·have hin:inL (l.map (nameAt h)) s=true ↔ (j:Int) ∈ l:=by
     rw [inL_iff,List.mem_map]
     constructor
     ·rintro ⟨x,hx,e⟩
      have:=(k x hx).find
      rw [e,f1] at this
      rw [this];exact hx
     ·intro hx
      exact ⟨_,hx,by rw [nameAt_nat hj,f3]⟩
    have hfj:isFst h (j:Int):=⟨j,hj,rfl,by rw [f3];exact f1⟩
    rw [f1]
    by_cases hi:(j:Int) ∈ l
    ·rw [chainF_in f2 (hin.2 hi),chIF_stop (fun e=>e.2 hi)]
    ·have hi2:inL (l.map (nameAt h)) s=false:=by
      cases hb:inL (l.map (nameAt h)) s with
      | false=>rfl
      | true=>exact absurd (hin.1 hb) hi
     have hap:l.map (nameAt h) ++ [s]=(l ++ [(j:Int)]).map (nameAt h):=by rw [List.map_append,List.map_singleton,nameAt_nat hj,f3]
     have hall:∀ x ∈ l ++ [(j:Int)],isFst h x:=fun x hx=>by
      rcases List.mem_append.1 hx with hx | hx
      ·exact k x hx
      ·rw [List.mem_singleton.1 hx];exact hfj
     rw [chIF_go (by omega) hi,supAt_nat hj]
     cases hr:(h[j].super.toList == ([]:List UInt8))
     ·have e:supI h h[j]=findI h h[j].super:=by unfold supI;rw [if_neg (by simp [hr])]
      rw [chainF_up f2 hi2 hr,e,hap]
      exact chain_same n _ _ hall
     ·have e:supI h h[j] = -1:=by unfold supI;rw [if_pos hr]
      rw [chainF_root f2 hi2 hr,e,chIF_neg n (by omega),hap]
theorem supP_eq (h:List Cls) (s:Str):supP h s=supers h s:=(chain_same (h:=h) (h.length + 1) s [] (fun _ h=>by cases h)).symm
-- up the chain
inductive Up (h:List Cls):Int→Int→Prop
 | refl {i:Int}:0≤i→Up h i i
 | step {i x:Int}:0≤i→Up h (supAt h i) x→Up h i x
theorem Up.ge {h:List Cls} {i x:Int} (k:Up h i x):0≤i:=by cases k <;> assumption
def SubI (h:List Cls) (r x:Int):Prop:=isFst h x∧Up h x r
theorem Up.mem {h:List Cls} {i x:Int} (k:Up h i x) (hi:isFst h i):isFst h x:=by
 induction k with
 | refl _=>exact hi
 | step _ k ih=>exact ih (supAt_fst k.ge)
end Go.Proofs.YtffcklfigpmlgaaGreatDoor
namespace Go.Proofs.YtffcklfigpmlgaaGreatDoor
open Go.RowKit Go.Unit0

end Go.Proofs.YtffcklfigpmlgaaGreatDoor
namespace Go.Proofs.YtffcklfigpmlgaaGreatDoor
open Go.RowKit Go.Unit0 Go.AM

theorem findC_fst {h:List Cls} {j:Nat} (hj:j < h.length) (k:findI h h[j].name=(j:Int)):findC h h[j].name=some h[j]:=by
 rcases find_spec h h[j].name with ⟨_,f2⟩ | ⟨i,hi,f1,f2,_⟩
 ·rw [k] at f2;omega
 ·rw [k] at f1
  obtain rfl:j=i:=by omega
  exact f2
def SubL (h:List Cls) (r:Int) (l:List Int):Prop:=l.Nodup∧∀ x,x ∈ l ↔ SubI h r x
theorem SubL.len {h:List Cls} {r:Int} {l:List Int} (k:SubL h r l):l.length≤h.length :=
 nodup_len _ _ k.1 (fun x hx=>((k.2 x).1 hx).1.nat)
-- ascending lists of names, each once
theorem bl_eq {a b:Str} (h:bl a=bl b):a=b:=by rw [← mkB_bl a,h,mkB_bl]
theorem mem_bl {l:List Str} {x:Str}:bl x ∈ l.map bl ↔ x ∈ l:=by
 rw [List.mem_map]
 constructor
 ·rintro ⟨y,hy,e⟩;rw [← bl_eq e];exact hy
 ·intro hx;exact ⟨x,hx,rfl⟩
end Go.Proofs.YtffcklfigpmlgaaGreatDoor
