/-
  Plain: hierarchies and units, and what the reference's checks compute.
  Plain: what the reference's Find and chain compute.
  Plain: the reference's check of a hierarchy.
  Plain: the operations of the reference 12.
  Plain: instructions of the reference 12: fits, unused, uses, ranges, leaves, types.
  Plain: what a valid instruction's operands are.
  Plain: what is found in a hierarchy lies in it.
  Plain: a unit's check, as far as it is used.
  Plain: units that are short enough.
  Plain: ascending lists of strings: sorted and compacted, and put in one by one.
-/
import Derived.RowKit
import Derived.WideShapes
import Derived.WalkKit
import Derived.Lib.SlicesCompact
import Derived.Sort.Walk0
namespace Go.Unit0

abbrev Str:=ByteArray
def eqB (a b:Str):Bool:=a.toList == b.toList
structure Fld where
 name:Str
 type:Str
structure Sgn where
 name:Str
 stat:Bool
 params:List Str
 result:Str
structure Cls where
 name:Str
 super:Str
 fields:List Fld
 methods:List Sgn
structure Ins where
 op:Int
 dst:Int
 a:Int
 b:Int
 n:Int
 cls:Str
 name:Str
 args:List Int
 goto:Int
 catch_:Int
structure Fnc where
 cls:Str
 name:Str
 stat:Bool
 params:Int
 vars:List Fld
 result:Str
 code:List Ins
structure Unt where
 h:List Cls
 fs:List Fnc
 main:Int

-- hierarchies
def findFrom (s:Str):List Cls→Nat→Int
 | [],_=>-1
 | c :: l,k=>if eqB c.name s=true then (k:Int) else findFrom s l (k + 1)
def findI (h:List Cls) (s:Str):Int:=findFrom s h 0
def findC (h:List Cls) (s:Str):Option Cls:=h.find? (fun c=>eqB c.name s)
def inL (l:List Str) (s:Str):Bool:=l.any (fun x=>eqB x s)
def emptyB (s:Str):Bool:=s.toList.isEmpty
def chainF (h:List Cls):Nat→Str→List Str→List Str × Bool
 | 0,_,out=>(out,false)
 | n + 1,s,out=>match findC h s with
   | none=>(out,false)
   | some c=>if inL out s=true then (out,true) else if emptyB c.super=true then (out ++ [s],false) else chainF h n c.super (out ++ [s])
def chainP (h:List Cls) (s:Str):List Str × Bool:=chainF h (h.length + 1) s []
def supers (h:List Cls) (s:Str):List Str:=(chainP h s).1
def isSub (h:List Cls) (a b:Str):Bool:=inL (supers h a) b
def fldIn (l:List Fld) (s:Str):Option Fld:=l.find? (fun f=>eqB f.name s)
def sgnIn (l:List Sgn) (s:Str):Option Sgn:=l.find? (fun f=>eqB f.name s)
def fieldF (h:List Cls) (s:Str):List Str→Option (Str × Fld)
 | []=>none
 | x :: l=>match (findC h x).bind (fun c=>fldIn c.fields s) with
   | some f=>some (x,f)
   | none=>fieldF h s l
def fieldP (h:List Cls) (c s:Str):Option (Str × Fld):=fieldF h s (supers h c)
def lookF (h:List Cls) (s:Str):List Str→Option (Str × Sgn)
 | []=>none
 | x :: l=>match (findC h x).bind (fun c=>sgnIn c.methods s) with
   | some f=>some (x,f)
   | none=>lookF h s l
def lookP (h:List Cls) (c s:Str):Option (Str × Sgn):=lookF h s (supers h c)
def intS:Str:=⟨#[105,110,116]⟩
def nullS:Str:=⟨#[110,117,108,108]⟩
def typeB (h:List Cls) (t:Str):Bool:=eqB t intS || decide (0≤findI h t)
def eqL:List Str→List Str→Bool
 | [],[]=>true
 | x :: a,y :: b=>eqB x y && eqL a b
 | _,_=>false
def sameSig (a b:Sgn):Bool:=(a.params.length == b.params.length) && eqB a.result b.result && eqL a.params b.params
def dupF (l:List Str) (s:Str):Bool:=l.any (fun x=>eqB x s)
def fieldsE (ident:Str→Bool) (h:List Cls) (sup:Str):List Str→List Fld→Int
 | _,[]=>0
 | bef,f :: l=>if ident f.name=false then 5 else if typeB h f.type=false then 8 else if dupF bef f.name=true then 7 else
   if (fieldP h sup f.name).isSome && !emptyB sup then 7 else fieldsE ident h sup (bef ++ [f.name]) l
def typesE (h:List Cls) (s:Sgn):Int:=if s.params.all (typeB h)=false then 8 else if !emptyB s.result && !typeB h s.result then 8 else 0
def overF (h:List Cls) (s:Sgn) (l:List Str):Bool:=l.any (fun x=>match findC h x with
 | some c=>c.methods.any (fun m=>eqB m.name s.name && (m.stat || s.stat || !sameSig m s))
 | none=>false)
def upP (h:List Cls) (c:Str):List Str:=(supers h c).drop 1
def methodsE (ident:Str→Bool) (h:List Cls) (c:Str):List Str→List Sgn→Int
 | _,[]=>0
 | bef,m :: l=>if ident m.name=false then 5 else if dupF bef m.name=true then 7 else if 6 < m.params.length then 3 else
   if typesE h m ≠ 0 then typesE h m else if overF h m (upP h c)=true then 11 else methodsE ident h c (bef ++ [m.name]) l
end Go.Unit0
namespace Go.Unit0

theorem toList_inj {a b:ByteArray} (h:a.toList=b.toList):a=b:=by
 rw [ByteArray.toList_eq,ByteArray.toList_eq] at h
 exact WideShapes.bytes_inj h
theorem eqB_iff {a b:Str}:eqB a b=true ↔ a=b:=by
 unfold eqB
 constructor
 ·intro h;exact toList_inj (by simpa using h)
 ·rintro rfl;simp
theorem eqB_self (a:Str):eqB a a=true:=eqB_iff.2 rfl
theorem inL_iff {l:List Str} {s:Str}:inL l s=true ↔ s ∈ l:=by
 unfold inL
 rw [List.any_eq_true]
 constructor
 ·rintro ⟨x,hx,h⟩;rw [← eqB_iff.1 h];exact hx
 ·intro h;exact ⟨s,h,eqB_self s⟩
theorem findFrom_spec (s:Str):∀ (h:List Cls) (k:Nat),(findC h s=none∧findFrom s h k = -1) ∨ ∃ j,∃ hj:j < h.length,findFrom s h k=(k + j:Nat)∧findC h s=some h[j]∧h[j].name=s
 | [],k=>.inl ⟨rfl,rfl⟩
 | c :: h,k=>by
   by_cases e:eqB c.name s=true
   ·refine .inr ⟨0,by simp,?_,?_,eqB_iff.1 e⟩
    ·show (if eqB _ _=true then (k:Int) else _)=_;rw [if_pos e];rfl
    ·unfold findC;simp [e]
   ·have e':findFrom s (c :: h) k=findFrom s h (k + 1):=by
     show (if eqB _ _=true then (k:Int) else _)=_;rw [if_neg e]
    have e2:findC (c :: h) s=findC h s:=by unfold findC;simp [e]
    rw [e',e2]
    rcases findFrom_spec s h (k + 1) with ⟨h1,h2⟩ | ⟨j,hj,h1,h2,h3⟩
    ·exact .inl ⟨h1,h2⟩
    ·exact .inr ⟨j + 1,by simp;omega,by rw [h1];omega,by rw [h2];simp,by simpa using h3⟩
theorem find_spec (h:List Cls) (s:Str):(findC h s=none∧findI h s = -1) ∨ ∃ j,∃ hj:j < h.length,findI h s=j∧findC h s=some h[j]∧h[j].name=s:=by
 rcases findFrom_spec s h 0 with h1 | ⟨j,hj,h1,h2⟩
 ·exact .inl h1
 ·exact .inr ⟨j,hj,by unfold findI;rw [h1];simp,h2⟩
theorem findC_mem {h:List Cls} {s:Str} {c:Cls} (e:findC h s=some c):c ∈ h∧c.name=s:=by
 rcases find_spec h s with ⟨h1,_⟩ | ⟨j,hj,_,h2,h3⟩
 ·rw [h1] at e;cases e
 ·rw [h2] at e;cases e;exact ⟨List.getElem_mem hj,h3⟩
theorem nodup_sub_len {α:Type} [DecidableEq α]:∀ {l m:List α},l.Nodup→(∀ x ∈ l,x ∈ m)→l.length≤m.length
 | [],_,_,_=>Nat.zero_le _
 | x :: l,m,hn,hs=>by
   have hx:x ∈ m:=hs x (by simp)
   have h1:=List.nodup_cons.1 hn
   have:=nodup_sub_len (l:=l) (m:=m.erase x) h1.2 (fun y hy=>(List.mem_erase_of_ne (show y ≠ x from fun e=>h1.1 (e ▸ hy))).2 (hs y (by simp [hy])))
   rw [List.length_erase_of_mem hx] at this
   have hp:0 < m.length:=List.length_pos_of_mem hx
   simp;omega
structure Chn (h:List Cls) (l:List Str):Prop where
 nd:l.Nodup
 all:∀ x ∈ l,∃ c,findC h x=some c
theorem Chn.len {h:List Cls} {l:List Str} (c:Chn h l):l.length≤h.length:=by
 have:=nodup_sub_len (m:=h.map (·.name)) c.nd (fun x hx=>by
  obtain ⟨d,hd⟩:=c.all x hx
  obtain ⟨h1,h2⟩:=findC_mem hd
  exact List.mem_map.2 ⟨d,h1,h2⟩)
 simpa using this
theorem Chn.nil (h:List Cls):Chn h []:=⟨List.nodup_nil,fun x hx=>by simp at hx⟩
theorem Chn.snoc {h:List Cls} {l:List Str} (c:Chn h l) {s:Str} {d:Cls} (hs:findC h s=some d) (hi:inL l s=false):Chn h (l ++ [s]):=by
 have hni:s ∉ l:=fun e=>by rw [inL_iff.2 e] at hi;cases hi
 refine ⟨?_,fun x hx=>?_⟩
 ·rw [List.nodup_append]
  refine ⟨c.nd,by simp,fun a ha b hb e=>?_⟩
  rw [List.mem_singleton.1 hb] at e
  exact hni (e ▸ ha)
 ·rcases List.mem_append.1 hx with h1 | h1
  ·exact c.all x h1
  ·rw [List.mem_singleton.1 h1];exact ⟨d,hs⟩
theorem chainF_chn {h:List Cls}:∀ (n:Nat) (s:Str) (l:List Str),Chn h l→Chn h (chainF h n s l).1
 | 0,_,_,c=>c
 | n + 1,s,l,c=>by
   unfold chainF
   cases e:findC h s with
   | none=>exact c
   | some d =>
     simp only
     split
     ·exact c
     ·split
      ·exact c.snoc e (by simp_all)
      ·exact chainF_chn n d.super _ (c.snoc e (by simp_all))
theorem chain_chn (h:List Cls) (s:Str):Chn h (supers h s):=chainF_chn _ s [] (Chn.nil h)
theorem supers_len (h:List Cls) (s:Str):(supers h s).length≤h.length:=(chain_chn h s).len
theorem chainF_none {h:List Cls} {n:Nat} {s:Str} {l:List Str} (e:findC h s=none):chainF h (n + 1) s l=(l,false):=by
 unfold chainF;rw [e]
theorem chainF_in {h:List Cls} {n:Nat} {s:Str} {l:List Str} {c:Cls} (e:findC h s=some c) (hi:inL l s=true):chainF h (n + 1) s l=(l,true):=by
 unfold chainF;rw [e];simp [hi]
theorem chainF_root {h:List Cls} {n:Nat} {s:Str} {l:List Str} {c:Cls} (e:findC h s=some c) (hi:inL l s=false) (hr:(c.super.toList == [])=true):chainF h (n + 1) s l=(l ++ [s],false):=by
 have:emptyB c.super=true:=by unfold emptyB;simpa using hr
 unfold chainF;rw [e];simp [hi,this]
theorem chainF_up {h:List Cls} {n:Nat} {s:Str} {l:List Str} {c:Cls} (e:findC h s=some c) (hi:inL l s=false) (hr:(c.super.toList == [])=false):chainF h (n + 1) s l=chainF h n c.super (l ++ [s]):=by
 have:emptyB c.super=false:=by
  unfold emptyB
  cases hc:c.super.toList with
  | nil=>rw [hc] at hr;simp at hr
  | cons=>rfl
 conv=>lhs;unfold chainF
 rw [e];simp [hi,this]
theorem sgn_hit {s:Str} {l:List Sgn} {k:Nat} (hk:k < l.length) (e:(l[k].name.toList == s.toList)=true):sgnIn (l.drop k) s=some l[k]:=by
 rw [List.drop_eq_getElem_cons hk];unfold sgnIn;rw [List.find?_cons_of_pos (p:=fun f:Sgn=>eqB f.name s) (show eqB _ _=true from e)]
theorem sgn_miss {s:Str} {l:List Sgn} {k:Nat} (hk:k < l.length) (e:(l[k].name.toList == s.toList)=false):sgnIn (l.drop k) s=sgnIn (l.drop (k + 1)) s:=by
 rw [List.drop_eq_getElem_cons hk];unfold sgnIn;rw [List.find?_cons_of_neg (p:=fun f:Sgn=>eqB f.name s) (show ¬ eqB _ _=true by unfold eqB;simp [e])]
theorem sgn_end {s:Str} {l:List Sgn} {k:Nat} (hk:l.length≤k):sgnIn (l.drop k) s=none:=by
 rw [List.drop_of_length_le hk];rfl
theorem fld_hit {s:Str} {l:List Fld} {k:Nat} (hk:k < l.length) (e:(l[k].name.toList == s.toList)=true):fldIn (l.drop k) s=some l[k]:=by
 rw [List.drop_eq_getElem_cons hk];unfold fldIn;rw [List.find?_cons_of_pos (p:=fun f:Fld=>eqB f.name s) (show eqB _ _=true from e)]
theorem fld_miss {s:Str} {l:List Fld} {k:Nat} (hk:k < l.length) (e:(l[k].name.toList == s.toList)=false):fldIn (l.drop k) s=fldIn (l.drop (k + 1)) s:=by
 rw [List.drop_eq_getElem_cons hk];unfold fldIn;rw [List.find?_cons_of_neg (p:=fun f:Fld=>eqB f.name s) (show ¬ eqB _ _=true by unfold eqB;simp [e])]
theorem fld_end {s:Str} {l:List Fld} {k:Nat} (hk:l.length≤k):fldIn (l.drop k) s=none:=by
 rw [List.drop_of_length_le hk];rfl
theorem look_hit {h:List Cls} {s:Str} {L:List Str} {k:Nat} (hk:k < L.length) {c:Cls} {g:Sgn} (e:findC h L[k]=some c) (e2:sgnIn c.methods s=some g):lookF h s (L.drop k)=some (L[k],g):=by
 rw [List.drop_eq_getElem_cons hk];unfold lookF;rw [e];simp [e2]
theorem look_miss {h:List Cls} {s:Str} {L:List Str} {k:Nat} (hk:k < L.length) {c:Cls} (e:findC h L[k]=some c) (e2:sgnIn c.methods s=none):lookF h s (L.drop k)=lookF h s (L.drop (k + 1)):=by
 rw [List.drop_eq_getElem_cons hk];conv=>lhs;unfold lookF
 rw [e];simp [e2]
theorem look_end {h:List Cls} {s:Str} {L:List Str} {k:Nat} (hk:L.length≤k):lookF h s (L.drop k)=none:=by
 rw [List.drop_of_length_le hk];rfl
theorem fieldF_hit {h:List Cls} {s:Str} {L:List Str} {k:Nat} (hk:k < L.length) {c:Cls} {g:Fld} (e:findC h L[k]=some c) (e2:fldIn c.fields s=some g):fieldF h s (L.drop k)=some (L[k],g):=by
 rw [List.drop_eq_getElem_cons hk];unfold fieldF;rw [e];simp [e2]
theorem fieldF_miss {h:List Cls} {s:Str} {L:List Str} {k:Nat} (hk:k < L.length) {c:Cls} (e:findC h L[k]=some c) (e2:fldIn c.fields s=none):fieldF h s (L.drop k)=fieldF h s (L.drop (k + 1)):=by
 rw [List.drop_eq_getElem_cons hk];conv=>lhs;unfold fieldF
 rw [e];simp [e2]
theorem fieldF_end {h:List Cls} {s:Str} {L:List Str} {k:Nat} (hk:L.length≤k):fieldF h s (L.drop k)=none:=by
 rw [List.drop_of_length_le hk];rfl
theorem chain_at {h:List Cls} {s:Str} {k:Nat} (hk:k < (supers h s).length):∃ j,∃ hj:j < h.length,findI h (supers h s)[k]=j∧findC h (supers h s)[k]=some h[j]:=by
 obtain ⟨c,hc⟩:=(chain_chn h s).all _ (List.getElem_mem hk)
 rcases find_spec h (supers h s)[k] with ⟨h1,_⟩ | ⟨j,hj,h1,h2,_⟩
 ·rw [h1] at hc;cases hc
 ·exact ⟨j,hj,h1,h2⟩
theorem eqL_at:∀ {a b:List Str},eqL a b=true ↔ a=b
 | [],[]=>by simp [eqL]
 | [],_ :: _=>by simp [eqL]
 | _ :: _,[]=>by simp [eqL]
 | x :: a,y :: b=>by
   unfold eqL
   rw [Bool.and_eq_true,eqB_iff,eqL_at]
   simp
theorem eqL_miss {a b:List Str} {k:Nat} (ha:k < a.length) (hb:k < b.length) (e:(a[k].toList == b[k].toList)=false):eqL a b=false:=by
 cases h:eqL a b
 ·rfl
 ·have:=eqL_at.1 h
  subst this
  simp at e
theorem eqL_all {a b:List Str} (hl:a.length=b.length) (e:∀ k (ha:k < a.length) (hb:k < b.length),(a[k].toList == b[k].toList)=true):eqL a b=true:=by
 refine eqL_at.2 (List.ext_getElem hl fun k h1 h2=>?_)
 exact eqB_iff.1 (e k h1 h2)
end Go.Unit0
namespace Go.Unit0

def classE (ident:Str→Bool) (h:List Cls) (i:Nat) (c:Cls):Int :=
 if ident c.name=false then 5 else if findI h c.name ≠ i then 7 else if (!emptyB c.super && decide (findI h c.super < 0))=true then 6 else
 if (chainP h c.name).2=true then 10 else if 16 < c.fields.length ∨ 16 < c.methods.length then 3 else
 if fieldsE ident h c.super [] c.fields ≠ 0 then fieldsE ident h c.super [] c.fields else methodsE ident h c.name [] c.methods
def checkF (ident:Str→Bool) (h:List Cls):List Cls→Nat→Int × Int
 | [],_=>(0,0)
 | c :: l,i=>if classE ident h i c ≠ 0 then (i,classE ident h i c) else checkF ident h l (i + 1)
def checkH (ident:Str→Bool) (h:List Cls):Int × Int:=if 64 < h.length then (-1,3) else checkF ident h h 0
theorem checkF_at {ident:Str→Bool} {h l:List Cls} {i:Nat} (hi:i < l.length):checkF ident h (l.drop i) i=if classE ident h i l[i] ≠ 0 then ((i:Int),classE ident h i l[i]) else checkF ident h (l.drop (i + 1)) (i + 1):=by
 rw [List.drop_eq_getElem_cons hi];rfl
theorem checkF_end {ident:Str→Bool} {h l:List Cls} {i:Nat} (hi:l.length≤i):checkF ident h (l.drop i) i=(0,0):=by
 rw [List.drop_of_length_le hi];rfl
end Go.Unit0
namespace Go.Unit0
def opNames:List Str:=[⟨#[110,111,112]⟩,⟨#[99,111,110,115,116]⟩,⟨#[110,117,108,108]⟩,⟨#[99,111,112,121]⟩,⟨#[98,105,110]⟩,⟨#[105,110,112,117,116]⟩,⟨#[110,101,119]⟩,⟨#[108,111,97,100]⟩,⟨#[115,116,111,114,101]⟩,⟨#[99,97,108,108]⟩,⟨#[115,116,97,116,105,99]⟩,⟨#[98,114,97,110,99,104]⟩,⟨#[106,117,109,112]⟩,⟨#[114,101,116,117,114,110]⟩,⟨#[116,104,114,111,119]⟩,⟨#[99,97,116,99,104]⟩,⟨#[115,104,105,102,116]⟩]
def opForms:List Str:=[⟨#[]⟩,⟨#[100,110]⟩,⟨#[100]⟩,⟨#[100,97]⟩,⟨#[100,97,111,98]⟩,⟨#[100]⟩,⟨#[100,99]⟩,⟨#[100,97,109]⟩,⟨#[97,109,98]⟩,⟨#[100,97,99,109,108]⟩,⟨#[100,99,109,108]⟩,⟨#[97,103]⟩,⟨#[103]⟩,⟨#[97]⟩,⟨#[97]⟩,⟨#[100,99]⟩,⟨#[100,97,110]⟩]
def opOk (o:Int):Bool:=decide (0≤o) && decide (o < 17)
def nameP (o:Int):Str:=if opOk o=true then opNames.getD o.toNat ⟨#[]⟩ else ⟨#[]⟩
def formP (o:Int):Str:=opForms.getD o.toNat ⟨#[]⟩
def fitC (f c:Int):Bool:=c == f || (f == 110 && c == 111)
def hasP (o f:Int):Bool:=opOk o && (formP o).toList.any (fun c=>fitC f c.toNat)
theorem opOk_iff {o:Int}:opOk o=true ↔ ∃ k:Nat,k < 17∧o=k:=by
 unfold opOk
 simp only [Bool.and_eq_true,decide_eq_true_eq]
 constructor
 ·intro h;exact ⟨o.toNat,by omega,by omega⟩
 ·rintro ⟨k,hk,rfl⟩;omega
end Go.Unit0
namespace Go.Unit0
def isCls (h:List Cls) (t:Str):Bool:=decide (0≤findI h t)
def fitsP (h:List Cls) (a b:Str):Bool :=
 if eqB a b=true then true else if eqB a nullS=true then !eqB b intS else isCls h a && isCls h b && isSub h a b
def usesP (x:Ins):List Int :=
 (if (hasP x.op 97 && (x.op != 13 || x.a != -1))=true then [x.a] else []) ++ (if hasP x.op 98=true then [x.b] else []) ++ (if hasP x.op 108=true then x.args else [])
end Go.Unit0
namespace Go.Unit0
structure RangeOk (nv nc:Nat) (x:Ins):Prop where
 d:hasP x.op 100=true→(0≤x.dst∧x.dst < nv) ∨ ((x.op=9 ∨ x.op=10)∧x.dst = -1)
 l:∀ v ∈ usesP x,0≤v∧v < nv
 g:hasP x.op 103=true→0≤x.goto∧x.goto < nc
theorem RangeOk.a {nv nc:Nat} {x:Ins} (h:RangeOk nv nc x) (ha:hasP x.op 97=true):(0≤x.a∧x.a < nv) ∨ (x.op=13∧x.a = -1):=by
 by_cases hc:(x.op != 13 || x.a != -1)=true
 ·exact .inl (h.l x.a (by simp [usesP,ha,hc]))
 ·simp at hc;exact .inr hc
theorem RangeOk.b {nv nc:Nat} {x:Ins} (h:RangeOk nv nc x) (hb:hasP x.op 98=true):0≤x.b∧x.b < nv:=h.l x.b (by simp [usesP,hb])
theorem RangeOk.args {nv nc:Nat} {x:Ins} (h:RangeOk nv nc x) (hl:hasP x.op 108=true):∀ v ∈ x.args,0≤v∧v < nv:=fun v hv=>h.l v (by simp [usesP,hl,hv])
theorem usesP_len (x:Ins):(usesP x).length≤x.args.length + 2:=by
 unfold usesP
 split <;> split <;> split <;> simp <;> omega
theorem hasP_data (o f:Int):hasP o f=(opOk o && (formP o).data.toList.any (fun c=>fitC f c.toNat)):=by
 unfold hasP;rw [ByteArray.toList_eq]
end Go.Unit0
namespace Go.Unit0
theorem lookF_mem {h:List Cls} {s:Str}:∀ {L:List Str} {x:Str} {g:Sgn},lookF h s L=some (x,g)→x ∈ L∧∃ c ∈ h,eqB c.name x=true∧findC h x=some c∧g ∈ c.methods∧eqB g.name s=true∧sgnIn c.methods s=some g
 | [],_,_,e=>by cases e
 | y :: L,x,g,e=>by
   unfold lookF at e
   split at e
   ·rename_i f hf
    cases e
    obtain ⟨c,h1,h2⟩:=Option.bind_eq_some_iff.1 hf
    have h3:=List.find?_some h1
    have h4:=List.find?_some h2
    exact ⟨by simp,c,List.mem_of_find?_eq_some h1,h3,h1,List.mem_of_find?_eq_some h2,h4,h2⟩
   ·obtain ⟨h1,h2⟩:=lookF_mem e
    exact ⟨List.mem_cons_of_mem _ h1,h2⟩
def numF:List Cls→Nat→Option (Str × Sgn)
 | [],_=>none
 | c :: l,n=>if h:n < c.methods.length then some (c.name,c.methods[n]) else numF l (n - c.methods.length)
theorem numF_hit {l:List Cls} {k n:Nat} (hk:k < l.length) (h:n < l[k].methods.length):numF (l.drop k) n=some (l[k].name,l[k].methods[n]):=by
 rw [List.drop_eq_getElem_cons hk];unfold numF;rw [dif_pos h]
theorem numF_miss {l:List Cls} {k n:Nat} (hk:k < l.length) (h:l[k].methods.length≤n):numF (l.drop k) n=numF (l.drop (k + 1)) (n - l[k].methods.length):=by
 rw [List.drop_eq_getElem_cons hk];conv=>lhs;unfold numF
 rw [dif_neg (by omega)]
theorem numF_end {l:List Cls} {k n:Nat} (hk:l.length≤k):numF (l.drop k) n=none:=by
 rw [List.drop_of_length_le hk];rfl
theorem numF_mem:∀ {l:List Cls} {n:Nat} {x:Str} {g:Sgn},numF l n=some (x,g)→∃ c ∈ l,c.name=x∧g ∈ c.methods
 | [],_,_,_,e=>by cases e
 | c :: l,n,x,g,e=>by
   unfold numF at e
   split at e
   ·cases e
    exact ⟨c,by simp,rfl,by simp⟩
   ·obtain ⟨c',h1,h2,h3⟩:=numF_mem e
    exact ⟨c',by simp [h1],h2,h3⟩
end Go.Unit0
namespace Go.Unit0
def sumM (l:List Cls):Nat:=(l.map (fun c=>c.methods.length)).sum
theorem sumM_snoc {l:List Cls} {k:Nat} (hk:k < l.length):sumM (l.take (k + 1))=sumM (l.take k) + l[k].methods.length:=by
 have e:l.take (k + 1)=l.take k ++ [l[k]]:=List.take_succ_eq_append_getElem hk
 unfold sumM
 rw [e,List.map_append,List.sum_append];simp
theorem sumM_le {l:List Cls} {k m:Nat} (h:∀ c ∈ l,c.methods.length≤m):sumM (l.take k)≤k * m:=by
 induction k with
 | zero=>simp [sumM]
 | succ k ih =>
   by_cases hk:k < l.length
   ·rw [sumM_snoc hk]
    have:=h _ (List.getElem_mem hk)
    rw [Nat.add_mul];omega
   ·have e1:l.take (k + 1)=l.take k:=by rw [List.take_of_length_le (by omega),List.take_of_length_le (by omega)]
    rw [e1,Nat.add_mul];omega
theorem numF_some:∀ {l:List Cls} {n:Nat},n < sumM l→∃ x g,numF l n=some (x,g)
 | [],n,h=>absurd h (by simp [sumM])
 | c :: l,n,h=>by
   unfold numF
   by_cases e:n < c.methods.length
   ·rw [dif_pos e];exact ⟨_,_,rfl⟩
   ·rw [dif_neg e]
    exact numF_some (by unfold sumM at *;simp at h;omega)
end Go.Unit0
namespace Go.Unit0
structure FitC (x:Cls):Prop where
 f:x.fields.length≤20
 m:x.methods.length≤20
 p:∀ m ∈ x.methods,m.params.length≤20
structure FitF (most:Nat) (f:Fnc):Prop where
 c:f.code.length≤most
 v:f.vars.length≤most
 a:∀ i ∈ f.code,i.args.length≤20
def sumC (l:List Fnc):Nat:=(l.map (fun f=>f.code.length)).sum
theorem sumC_snoc {l:List Fnc} {k:Nat} (hk:k < l.length):sumC (l.take (k + 1))=sumC (l.take k) + l[k].code.length:=by
 have e:l.take (k + 1)=l.take k ++ [l[k]]:=List.take_succ_eq_append_getElem hk
 unfold sumC
 rw [e,List.map_append,List.sum_append];simp
structure FitOk (u:Unt) (most:Nat):Prop where
 nf:u.fs.length≤20
 nc:u.h.length≤12
 c:∀ x ∈ u.h,FitC x
 f:∀ f ∈ u.fs,FitF most f
 t:sumC u.fs≤most
end Go.Unit0
namespace Go.Unit0
abbrev BL:=List UInt8
theorem bl_irrefl (a:BL):¬ a < a:=List.lt_irrefl a
theorem bl_trans {a b c:BL} (h1:a < b) (h2:b < c):a < c:=List.lt_trans h1 h2
theorem bl_not_lt {a b:BL} (h:¬ a < b):b≤a:=List.not_lt.1 h
theorem bl_lt_of_le_ne {a b:BL} (h:a≤b) (hne:a ≠ b):a < b:=by
 by_cases h1:a < b
 ·exact h1
 ·exact absurd (List.le_antisymm h (bl_not_lt h1)) hne
theorem bl_le_trans {a b c:BL} (h1:a≤b) (h2:b≤c):a≤c:=List.le_trans h1 h2
theorem bl_lt_of_le_of_lt {a b c:BL} (h1:a≤b) (h2:b < c):a < c:=by
 by_cases e:a=b
 ·rw [e];exact h2
 ·exact bl_trans (bl_lt_of_le_ne h1 e) h2
theorem strict_unique:∀ (a b:List BL),a.Pairwise (· < ·)→b.Pairwise (· < ·)→(∀ x,x ∈ a ↔ x ∈ b)→a=b
 | [],[],_,_,_=>rfl
 | [],y :: b,_,_,h=>absurd ((h y).2 (by simp)) (by simp)
 | x :: a,[],_,_,h=>absurd ((h x).1 (by simp)) (by simp)
 | x :: a,y :: b,ha,hb,h=>by
   rw [List.pairwise_cons] at ha hb
   have hxy:x=y:=by
    rcases List.mem_cons.1 ((h x).1 (by simp)) with e | e
    ·exact e
    ·rcases List.mem_cons.1 ((h y).2 (by simp)) with e2 | e2
     ·exact e2.symm
     ·exact absurd (bl_trans (hb.1 x e) (ha.1 y e2)) (bl_irrefl _)
   subst hxy
   rw [strict_unique a b ha.2 hb.2 fun z=>?_]
   constructor
   ·intro hz
    rcases List.mem_cons.1 ((h z).1 (List.mem_cons_of_mem _ hz)) with e | e
    ·subst e;exact absurd (ha.1 z hz) (bl_irrefl _)
    ·exact e
   ·intro hz
    rcases List.mem_cons.1 ((h z).2 (List.mem_cons_of_mem _ hz)) with e | e
    ·subst e;exact absurd (hb.1 z hz) (bl_irrefl _)
    ·exact e
theorem compact_strict (d:Array BL) (hd:∀ i j,i < j→j < d.size→d[i]!≤d[j]!):∀ m,m≤d.size→(Lib.compactUpTo d m).Pairwise (· < ·)∧(∀ x,x ∈ Lib.compactUpTo d m ↔ ∃ j,j < m∧d[j]! = x)
 | 0,_=>⟨by simp [Lib.compactUpTo],fun x=>by simp [Lib.compactUpTo]⟩
 | m + 1,hm=>by
   obtain ⟨h1,h2⟩:=compact_strict d hd m (by omega)
   rw [Lib.compactUpTo_succ]
   cases hk:Lib.keeps d m with
   | true =>
     rw [if_pos rfl]
     have hlt:∀ x ∈ Lib.compactUpTo d m,x < d[m]!:=fun x hx=>by
      obtain ⟨j,hj,rfl⟩:=(h2 x).1 hx
      have hk':m=0 ∨ d[m]! ≠ d[m - 1]!:=by simpa [Lib.keeps] using hk
      rcases hk' with e | e
      ·omega
      ·have h3:d[j]!≤d[m - 1]!:=by
        by_cases e3:j=m - 1
        ·rw [e3];exact List.le_refl _
        ·exact hd j (m - 1) (by omega) (by omega)
       exact bl_lt_of_le_of_lt h3 (bl_lt_of_le_ne (hd (m - 1) m (by omega) (by omega)) (Ne.symm e))
     refine ⟨?_,fun x=>?_⟩
     ·rw [List.pairwise_append]
      exact ⟨h1,by simp,fun a ha b hb=>by rw [List.mem_singleton.1 hb];exact hlt a ha⟩
     ·rw [List.mem_append,h2,List.mem_singleton]
      constructor
      ·rintro (⟨j,hj,e⟩ | e)
       ·exact ⟨j,by omega,e⟩
       ·exact ⟨m,by omega,e.symm⟩
      ·rintro ⟨j,hj,e⟩
       by_cases e2:j < m
       ·exact .inl ⟨j,e2,e⟩
       ·obtain rfl:j=m:=by omega
        exact .inr e.symm
   | false =>
     rw [if_neg (by simp),List.append_nil]
     refine ⟨h1,fun x=>?_⟩
     rw [h2]
     have hk':m ≠ 0∧d[m]! = d[m - 1]!:=by simpa [Lib.keeps] using hk
     constructor
     ·rintro ⟨j,hj,e⟩;exact ⟨j,by omega,e⟩
     ·rintro ⟨j,hj,e⟩
      by_cases e2:j < m
      ·exact ⟨j,e2,e⟩
      ·obtain rfl:j=m:=by omega
       exact ⟨j - 1,by omega,by rw [← hk'.2];exact e⟩
def sortBL (l:List BL):List BL:=l.mergeSort fun x y=>decide (x≤y)
theorem sortBL_le (l:List BL):(sortBL l).Pairwise (·≤·):=by
 have h:=List.pairwise_mergeSort (le:=fun (x y:BL)=>decide (x≤y)) (fun a b c h1 h2=>by simp at *;exact bl_le_trans h1 h2) (fun a b=>by
  simp only [Bool.or_eq_true,decide_eq_true_eq];exact List.le_total a b) l
 exact h.imp fun h=>by simpa using h
theorem csort_spec (l:List BL):(Lib.compact (sortBL l)).Pairwise (· < ·)∧∀ x,x ∈ Lib.compact (sortBL l) ↔ x ∈ l:=by
 have hp:=sortBL_le l
 have hd:∀ i j,i < j→j < (sortBL l).toArray.size→(sortBL l).toArray[i]!≤(sortBL l).toArray[j]!:=fun i j hij hj=>by
  have hj':j < (sortBL l).length:=by simpa using hj
  rw [getElem!_pos _ i (by simp;omega),getElem!_pos _ j (by simpa using hj)]
  simpa using List.pairwise_iff_getElem.1 hp i j (by omega) hj' hij
 obtain ⟨h1,h2⟩:=compact_strict (sortBL l).toArray hd (sortBL l).length (by simp)
 refine ⟨h1,fun x=>?_⟩
 have hm:x ∈ sortBL l ↔ x ∈ l:=(List.mergeSort_perm l _).mem_iff
 rw [← hm]
 refine (h2 x).trans ?_
 constructor
 ·rintro ⟨j,hj,rfl⟩
  rw [getElem!_pos _ j (by simpa using hj)];simp
 ·intro hx
  obtain ⟨j,hj,rfl⟩:=List.getElem_of_mem hx
  exact ⟨j,hj,by rw [getElem!_pos _ j (by simpa using hj)];simp⟩
def insL (s:BL):List BL→List BL
 | []=>[s]
 | x :: l=>if s < x then s :: x :: l else x :: insL s l
def addL (s:BL) (l:List BL):List BL:=if s ∈ l then l else insL s l
theorem insL_mem (s x:BL):∀ l:List BL,x ∈ insL s l ↔ x=s ∨ x ∈ l
 | []=>by simp [insL]
 | y :: l=>by
   unfold insL
   split
   ·simp
   ·simp only [List.mem_cons,insL_mem s x l]
    constructor
    ·rintro (h | h | h) <;> simp [h]
    ·rintro (h | h | h) <;> simp [h]
theorem insL_strict (s:BL):∀ {l:List BL},l.Pairwise (· < ·)→s ∉ l→(insL s l).Pairwise (· < ·)
 | [],_,_=>by simp [insL]
 | x :: l,h,hn=>by
   rw [List.pairwise_cons] at h
   simp only [List.mem_cons,not_or] at hn
   unfold insL
   split
   ·rename_i hlt
    rw [List.pairwise_cons,List.pairwise_cons]
    exact ⟨fun y hy=>by
     rcases List.mem_cons.1 hy with e | e
     ·rw [e];exact hlt
     ·exact bl_trans hlt (h.1 y e),h⟩
   ·rename_i hlt
    rw [List.pairwise_cons]
    refine ⟨fun y hy=>?_,insL_strict s h.2 hn.2⟩
    rcases (insL_mem s y l).1 hy with e | e
    ·rw [e];exact bl_lt_of_le_ne (bl_not_lt hlt) (Ne.symm hn.1)
    ·exact h.1 y e
theorem addL_spec (s:BL) {l:List BL} (h:l.Pairwise (· < ·)):(addL s l).Pairwise (· < ·)∧∀ x,x ∈ addL s l ↔ x=s ∨ x ∈ l:=by
 unfold addL
 split
 ·rename_i hs
  exact ⟨h,fun x=>⟨.inr,fun e=>by rcases e with e | e;· rw [e];exact hs
                                  ·exact e⟩⟩
 ·rename_i hs
  exact ⟨insL_strict s h hs,fun x=>insL_mem s x l⟩
theorem fold_spec:∀ (ns:List BL) {l:List BL},l.Pairwise (· < ·)→(ns.foldl (fun l s=>addL s l) l).Pairwise (· < ·)∧∀ x,x ∈ ns.foldl (fun l s=>addL s l) l ↔ x ∈ l ∨ x ∈ ns
 | [],l,h=>⟨h,fun x=>by simp⟩
 | n :: ns,l,h=>by
   obtain ⟨h1,h2⟩:=addL_spec n h
   obtain ⟨h3,h4⟩:=fold_spec ns h1
   refine ⟨h3,fun x=>(h4 x).trans ?_⟩
   rw [h2,List.mem_cons]
   constructor
   ·rintro ((e | e) | e) <;> simp [e]
   ·rintro (e | e | e) <;> simp [e]
theorem fold_csort (ns:List BL):ns.foldl (fun l s=>addL s l) []=Lib.compact (sortBL ns):=by
 obtain ⟨h1,h2⟩:=fold_spec ns (l:=[]) List.Pairwise.nil
 obtain ⟨h3,h4⟩:=csort_spec ns
 exact strict_unique _ _ h1 h3 fun x=>by rw [h2,h4];simp
def outL (s:BL) (l:List BL):List BL:=if l.any (fun y=>decide (s < y))=true then insL s l else l
theorem insL_snoc (s x:BL):∀ l:List BL,insL s (l ++ [x])=if l.any (fun y=>decide (s < y))=true then insL s l ++ [x] else if s < x then l ++ [s,x] else l ++ [x,s]
 | []=>by
   by_cases h:s < x <;> simp [insL,h]
 | y :: l=>by
   rw [List.cons_append]
   conv=>lhs;unfold insL
   by_cases h:s < y
   ·simp [h,insL]
   ·rw [if_neg h,insL_snoc s x l,List.any_cons,decide_eq_false h,Bool.false_or]
    conv=>rhs;rw [show insL s (y :: l)=y :: insL s l by conv=>lhs;unfold insL;rw [if_neg h]]
    split
    ·rfl
    ·split <;> rfl
theorem any_snoc (s x:BL) (l:List BL):(l ++ [x]).any (fun y=>decide (s < y))=(l.any (fun y=>decide (s < y)) || decide (s < x)):=by simp
theorem outL_t {s x:BL} {l:List BL} (h:l.any (fun y=>decide (s < y))=true):outL s (l ++ [x])=outL s l ++ [x]:=by
 unfold outL
 rw [any_snoc,h,Bool.true_or,if_pos rfl,if_pos rfl,insL_snoc,if_pos h]
theorem outL_n {s x:BL} {l:List BL} (h:l.any (fun y=>decide (s < y))=false) (hx:s < x):outL s (l ++ [x])=outL s l ++ [s] ++ [x]:=by
 unfold outL
 rw [any_snoc,h,Bool.false_or,decide_eq_true hx,if_pos rfl,if_neg (by simp),insL_snoc,if_neg (by simp [h]),if_pos hx]
 simp
theorem outL_f {s x:BL} {l:List BL} (h:l.any (fun y=>decide (s < y))=false) (hx:¬ s < x):outL s (l ++ [x])=outL s l ++ [x]:=by
 unfold outL
 rw [any_snoc,h,Bool.false_or,decide_eq_false hx,if_neg (by simp),if_neg (by simp)]
theorem insL_last (s:BL):∀ {l:List BL},l.any (fun y=>decide (s < y))=false→insL s l=l ++ [s]
 | [],_=>rfl
 | y :: l,h=>by
   rw [List.any_cons,Bool.or_eq_false_iff] at h
   unfold insL
   rw [if_neg (by simpa using h.1),insL_last s h.2];rfl
theorem outL_end_t {s:BL} {l:List BL} (h:l.any (fun y=>decide (s < y))=true) (hn:s ∉ l):outL s l=addL s l:=by
 unfold outL addL;rw [if_pos h,if_neg hn]
theorem outL_end_f {s:BL} {l:List BL} (h:l.any (fun y=>decide (s < y))=false) (hn:s ∉ l):outL s l ++ [s]=addL s l:=by
 unfold outL addL;rw [if_neg (by simp [h]),if_neg hn,insL_last s h]
theorem insL_len (s:BL):∀ l:List BL,(insL s l).length=l.length + 1
 | []=>rfl
 | y :: l=>by
   unfold insL
   split
   ·rfl
   ·simp [insL_len s l]
theorem addL_len (s:BL) (l:List BL):(addL s l).length≤l.length + 1:=by
 unfold addL
 split
 ·omega
 ·rw [insL_len];omega
def foldL (ns:List BL):List BL:=ns.foldl (fun l s=>addL s l) []
theorem foldL_snoc (ns:List BL) (s:BL):foldL (ns ++ [s])=addL s (foldL ns):=by simp [foldL]
end Go.Unit0
