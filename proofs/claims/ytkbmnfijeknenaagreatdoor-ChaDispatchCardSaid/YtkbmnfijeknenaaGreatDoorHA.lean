/-
  Plain: the program's chains of indices are the reference's chains of names.
  ir.Find: the function of a class with a name.
  Plain: methods looked up along a chain of indices and along a chain of names; subclasses and targets.
-/
import Derived.Test.YtkbmnfijeknenaaGreatDoorTC
import Derived.Test.YtkbmnfijeknenaaGreatDoorWA
import Derived.Test.YtkbmnfijeknenaaGreatDoorGA
import Derived.Test.YtkbmnfijeknenaaGreatDoorUA
namespace Go.Proofs.YtkbmnfijeknenaaGreatDoor
open Go.RowKit Go.Unit0 Go.AM

def isFst (h:List Cls) (i:Int):Prop:=∃ (j:Nat) (hj:j < h.length),i=(j:Int)∧findI h h[j].name=(j:Int)
theorem isFst.nat {h:List Cls} {i:Int} (k:isFst h i):∃ j:Nat,j < h.length∧i=(j:Int):=by
 obtain ⟨j,hj,e,_⟩:=k
 exact ⟨j,hj,e⟩
theorem isFst.ge {h:List Cls} {i:Int} (k:isFst h i):0≤i:=by
 obtain ⟨j,hj,e,_⟩:=k
 omega
theorem findI_fst {h:List Cls} {s:Str} (k:0≤findI h s):isFst h (findI h s):=by
 rcases find_spec h s with ⟨_,f2⟩ | ⟨j,hj,f1,_,f3⟩
 ·omega
 ·exact ⟨j,hj,f1,by rw [f3];exact f1⟩
theorem nameAt_nat {h:List Cls} {j:Nat} (hj:j < h.length):nameAt h (j:Int)=h[j].name:=by
 unfold nameAt
 rw [Int.toNat_natCast,List.getElem?_eq_getElem hj]
theorem supAt_nat {h:List Cls} {j:Nat} (hj:j < h.length):supAt h (j:Int)=supI h h[j]:=by
 unfold supAt
 rw [Int.toNat_natCast,List.getElem?_eq_getElem hj]
theorem find_name {h:List Cls} {s:Str} (k:0≤findI h s):nameAt h (findI h s)=s:=by
 rcases find_spec h s with ⟨_,f2⟩ | ⟨j,hj,f1,_,f3⟩
 ·omega
 ·rw [f1,nameAt_nat hj,f3]
theorem isFst.find {h:List Cls} {i:Int} (k:isFst h i):findI h (nameAt h i)=i:=by
 obtain ⟨j,hj,rfl,e⟩:=k
 rw [nameAt_nat hj,e]
theorem isFst.inj {h:List Cls} {i j:Int} (k:isFst h i) (l:isFst h j) (e:nameAt h i=nameAt h j):i=j:=by
 rw [← k.find,← l.find,e]
theorem supI_fst {h:List Cls} {x:Cls} (k:0≤supI h x):isFst h (supI h x):=by
 unfold supI at *
 by_cases e:(x.super.toList == ([]:List UInt8))=true
 ·rw [if_pos e] at k;omega
 ·rw [if_neg e] at *;exact findI_fst k
theorem supAt_fst {h:List Cls} {i:Int} (k:0≤supAt h i):isFst h (supAt h i):=by
 unfold supAt at *
 cases e:h[i.toNat]? with
 | none=>rw [e] at k;exact absurd k (show ¬ (0:Int)≤-1 by decide)
 | some x=>rw [e] at k;exact supI_fst k
theorem chIF_neg {h:List Cls} (n:Nat) {i:Int} {l:List Int} (k:¬ 0≤i):chIF h n i l=(l,i):=by
 cases n with
 | zero=>rfl
 | succ n=>exact chIF_stop (fun e=>k e.1)
theorem chIF_fst {h:List Cls}:∀ (n:Nat) (i:Int) (l:List Int),(0≤i→isFst h i)→(∀ x ∈ l,isFst h x)→∀ x ∈ (chIF h n i l).1,isFst h x
 | 0,_,_,_,k2=>k2
 | n + 1,i,l,k1,k2=>by
   by_cases hq:0≤i∧i ∉ l
   ·rw [chIF_go hq.1 hq.2]
    refine chIF_fst n _ _ (fun e=>supAt_fst e) (fun x hx=>?_)
    rcases List.mem_append.1 hx with hx | hx
    ·exact k2 x hx
    ·rw [List.mem_singleton.1 hx];exact k1 hq.1
   ·rw [chIF_stop hq];exact k2
theorem chI_fst {h:List Cls} {i:Int} (k:0≤i→isFst h i):∀ x ∈ (chI h i).1,isFst h x:=chIF_fst _ _ _ k (fun _ h=>by cases h)
theorem chain_same {h:List Cls}:∀ (n:Nat) (s:Str) (l:List Int),(∀ x ∈ l,isFst h x)→(chainF h n s (l.map (nameAt h))).1=(chIF h n (findI h s) l).1.map (nameAt h)
 | 0,_,_,_=>rfl
 | n + 1,s,l,k=>by
   rcases find_spec h s with ⟨f1,f2⟩ | ⟨j,hj,f1,f2,f3⟩
   ·rw [chainF_none f1,f2,chIF_stop (by omega)]
   ·have hin:inL (l.map (nameAt h)) s=true ↔ (j:Int) ∈ l:=by
     rw [inL_iff,List.mem_map]
     constructor
     ·rintro ⟨x,hx,e⟩
      have:=(k x hx).find
      rw [e,f1] at this
      rw [this];exact hx
     ·intro hx
      exact ⟨_,hx,by rw [nameAt_nat hj,f3]⟩
    have hfj:isFst h (j:Int):=⟨j,hj,rfl,by rw [f3];exact f1⟩
    rw [f1]
    by_cases hi:(j:Int) ∈ l
    ·rw [chainF_in f2 (hin.2 hi),chIF_stop (fun e=>e.2 hi)]
    ·have hi2:inL (l.map (nameAt h)) s=false:=by
      cases hb:inL (l.map (nameAt h)) s with
      | false=>rfl
      | true=>exact absurd (hin.1 hb) hi
     have hap:l.map (nameAt h) ++ [s]=(l ++ [(j:Int)]).map (nameAt h):=by rw [List.map_append,List.map_singleton,nameAt_nat hj,f3]
     have hall:∀ x ∈ l ++ [(j:Int)],isFst h x:=fun x hx=>by
      rcases List.mem_append.1 hx with hx | hx
      ·exact k x hx
      ·rw [List.mem_singleton.1 hx];exact hfj
     rw [chIF_go (by omega) hi,supAt_nat hj]
     cases hr:(h[j].super.toList == ([]:List UInt8))
     ·have e:supI h h[j]=findI h h[j].super:=by unfold supI;rw [if_neg (by simp [hr])]
      rw [chainF_up f2 hi2 hr,e,hap]
      exact chain_same n _ _ hall
     ·have e:supI h h[j] = -1:=by unfold supI;rw [if_pos hr]
      rw [chainF_root f2 hi2 hr,e,chIF_neg n (by omega),hap]
theorem supP_eq (h:List Cls) (s:Str):supP h s=supers h s:=(chain_same (h:=h) (h.length + 1) s [] (fun _ h=>by cases h)).symm
theorem subP_eq (h:List Cls) (s t:Str):subP h s t=isSub h s t:=by unfold subP isSub;rw [supP_eq]
theorem chain_names {h:List Cls} {i:Int} (k:isFst h i):(chI h i).1.map (nameAt h)=supers h (nameAt h i):=by
 rw [← supP_eq];unfold supP;rw [k.find]
-- up the chain
inductive Up (h:List Cls):Int→Int→Prop
 | refl {i:Int}:0≤i→Up h i i
 | step {i x:Int}:0≤i→Up h (supAt h i) x→Up h i x
theorem Up.ge {h:List Cls} {i x:Int} (k:Up h i x):0≤i:=by cases k <;> assumption
theorem up_iff {h:List Cls} {i x:Int} (hi:0≤i):Up h i x ↔ x=i ∨ Up h (supAt h i) x:=by
 constructor
 ·intro k
  cases k with
  | refl _=>exact .inl rfl
  | step _ k=>exact .inr k
 ·rintro (rfl | k)
  ·exact .refl hi
  ·exact .step hi k
theorem up_closed {h:List Cls} {l:List Int} (hc:∀ y ∈ l,supAt h y ∈ l ∨ supAt h y < 0) {i x:Int} (k:Up h i x):i ∈ l→x ∈ l:=by
 induction k with
 | refl _=>exact fun h=>h
 | step _ k ih =>
   intro hi
   rcases hc _ hi with e | e
   ·exact ih e
   ·exact absurd k.ge (by omega)
theorem chIF_mem {h:List Cls}:∀ (n:Nat) (i:Int) (l:List Int),(i = -1 ∨ ∃ j:Nat,j < h.length∧i=j)→l.Nodup→(∀ x ∈ l,∃ j:Nat,j < h.length∧x=j)→n + l.length=h.length + 1 →
 (∀ y ∈ l,supAt h y=i ∨ supAt h y ∈ l ∨ supAt h y < 0)→∀ x,x ∈ (chIF h n i l).1 ↔ x ∈ l ∨ Up h i x
 | 0,i,l,_,h2,h3,h4,_,x=>by
   have:=nodup_len _ _ h2 h3
   omega
 | n + 1,i,l,h1,h2,h3,h4,h5,x=>by
   by_cases hq:0≤i∧i ∉ l
   ·rw [chIF_go hq.1 hq.2,chIF_mem n (supAt h i) (l ++ [i]) (supAt_in i) ?_ ?_ (by simp;omega) ?_ x,up_iff hq.1,List.mem_append,List.mem_singleton,or_assoc]
    ·rw [List.nodup_append]
     exact ⟨h2,by simp,fun x hx y hy e=>by rw [List.mem_singleton.1 hy] at e;exact hq.2 (e ▸ hx)⟩
    ·intro x hx
     rcases List.mem_append.1 hx with hx | hx
     ·exact h3 x hx
     ·rw [List.mem_singleton.1 hx]
      rcases h1 with rfl | h1
      ·have:=hq.1;omega
      ·exact h1
    ·intro y hy
     rcases List.mem_append.1 hy with hy | hy
     ·rcases h5 y hy with e | e | e
      ·exact .inr (.inl (by rw [e];simp))
      ·exact .inr (.inl (List.mem_append_left _ e))
      ·exact .inr (.inr e)
     ·rw [List.mem_singleton.1 hy];exact .inl rfl
   ·rw [chIF_stop hq]
    constructor
    ·exact .inl
    ·rintro (e | e)
     ·exact e
     ·have hi:=e.ge
      have him:i ∈ l:=Decidable.byContradiction fun hn=>hq ⟨hi,hn⟩
      refine up_closed (fun y hy=>?_) e him
      rcases h5 y hy with e | e | e
      ·exact .inl (by rw [e];exact him)
      ·exact .inl e
      ·exact .inr e
theorem chI_mem {h:List Cls} {i:Int} (hi:i = -1 ∨ ∃ j:Nat,j < h.length∧i=j) (x:Int):x ∈ (chI h i).1 ↔ Up h i x:=by
 unfold chI
 rw [chIF_mem _ _ _ hi List.nodup_nil (fun _ h=>by cases h) (by simp) (fun _ h=>by cases h) x]
 simp
def SubI (h:List Cls) (r x:Int):Prop:=isFst h x∧Up h x r
theorem Up.mem {h:List Cls} {i x:Int} (k:Up h i x) (hi:isFst h i):isFst h x:=by
 induction k with
 | refl _=>exact hi
 | step _ k ih=>exact ih (supAt_fst k.ge)
theorem isSub_iff {h:List Cls} {i:Int} (k:isFst h i) (c:Str):isSub h (nameAt h i) c=true ↔ Up h i (findI h c):=by
 unfold isSub
 rw [inL_iff,← chain_names k,List.mem_map]
 have hi:i = -1 ∨ ∃ j:Nat,j < h.length∧i=j:=.inr k.nat
 constructor
 ·rintro ⟨x,hx,e⟩
  have hf:=chI_fst (fun _=>k) x hx
  have:=hf.find
  rw [e] at this
  rw [this]
  exact (chI_mem hi x).1 hx
 ·intro e
  have hf:=e.mem k
  exact ⟨_,(chI_mem hi _).2 e,find_name hf.ge⟩
def idxL (n:Nat) (p:Nat→Bool):List Int:=((List.range n).filter p).map (fun i:Nat=>(i:Int))
theorem idxL_t {n:Nat} {p:Nat→Bool} (h:p n=true):idxL (n + 1) p=idxL n p ++ [(n:Int)]:=by
 unfold idxL;rw [List.range_succ,List.filter_append,List.map_append];simp [h]
theorem idxL_f {n:Nat} {p:Nat→Bool} (h:p n=false):idxL (n + 1) p=idxL n p:=by
 unfold idxL;rw [List.range_succ,List.filter_append,List.map_append];simp [h]
theorem idxL_len (n:Nat) (p:Nat→Bool):(idxL n p).length≤n:=by
 unfold idxL;rw [List.length_map]
 exact Nat.le_trans (List.length_filter_le _ _) (by simp)
theorem idxL_mem {n:Nat} {p:Nat→Bool} {x:Int}:x ∈ idxL n p ↔ ∃ i:Nat,i < n∧p i=true∧x=(i:Int):=by
 unfold idxL
 simp only [List.mem_map,List.mem_filter,List.mem_range]
 constructor
 ·rintro ⟨i,⟨h1,h2⟩,rfl⟩;exact ⟨i,h1,h2,rfl⟩
 ·rintro ⟨i,h1,h2,rfl⟩;exact ⟨i,⟨h1,h2⟩,rfl⟩
end Go.Proofs.YtkbmnfijeknenaaGreatDoor
namespace Go.Proofs.YtkbmnfijeknenaaGreatDoor
open Go.RowKit Go.Unit0

def isFn (s t:Str) (x:Fnc):Bool:=(x.cls.toList == s.toList) && (x.name.toList == t.toList)
def fnFrom (s t:Str):List Fnc→Nat→Int
 | [],_=>-1
 | x :: l,k=>if isFn s t x=true then (k:Int) else fnFrom s t l (k + 1)
def fnI (l:List Fnc) (s t:Str):Int:=fnFrom s t l 0
theorem fn_hit {s t:Str} {l:List Fnc} {k:Nat} (hk:k < l.length) (e:isFn s t l[k]=true):fnFrom s t (l.drop k) k=k:=by
 rw [List.drop_eq_getElem_cons hk];show (if isFn _ _ _=true then (k:Int) else _)=_;rw [if_pos e]
theorem fn_miss {s t:Str} {l:List Fnc} {k:Nat} (hk:k < l.length) (e:isFn s t l[k]=false):fnFrom s t (l.drop k) k=fnFrom s t (l.drop (k + 1)) (k + 1):=by
 rw [List.drop_eq_getElem_cons hk];show (if isFn _ _ _=true then (k:Int) else _)=_;rw [if_neg (by simp [e])]
theorem fn_end {s t:Str} {l:List Fnc} {k:Nat} (hk:l.length≤k):fnFrom s t (l.drop k) k = -1:=by
 rw [List.drop_of_length_le hk];rfl
set_option maxHeartbeats 1000000 in
theorem findClo (s t:Str) (x:Fnc) (va:Option Addr) (vc:Nat) (ca:Option Addr) (cc:Nat) (p q:Addr) (w:World) (hp:w.cell? p=some (.string s)) (hq:w.cell? q=some (.string t)) :
 Calls Tryz.prog 99 #[fnV x va vc ca cc,.pointer (some p),.pointer (some q)] w (Ret w (.bool (isFn s t x))):=by
 have HB:=Lib.hid (one_below w (.cells #[.string x.cls,.string x.name,.bool x.stat,.int .i64 x.params,.slice va x.vars.length vc,.string x.result,.slice ca x.code.length cc] 55))
 have hp':=cell_below HB.out hp
 have hq':=cell_below HB.out hq
 have HD:Hid (isFn s t x=((x.cls.toList == s.toList) && (x.name.toList == t.toList))):=rfl
 unfold fnV
 generalize isFn s t x=r at *
 go_enter Tryz.func99,Tryz.ntmps99
 cases h1:(x.cls.toList == s.toList)
 ·rw [h1] at HD
  go_wp2
  go_ret
  exact ⟨ret_bool (by rw [HD.out];rfl),HB.out⟩
 ·rw [h1] at HD
  go_wp2
  go_ret
  exact ⟨ret_bool (by rw [HD.out];simp),HB.out⟩
set_option maxHeartbeats 2000000 in
theorem indexFn (l:List Fnc) (s t:Str) (a:Option Addr) (c:Nat) (p q:Addr) (w:World) (hl:FncsAt w a l) (hn:l.length≤1000000) (hp:w.cell? p=some (.string s)) (hq:w.cell? q=some (.string t)) :
 Calls Tryz.prog 98 #[.slice a l.length c,.func (.func 99) #[] #[.pointer (some p),.pointer (some q)]] w (Ret w (.int .i64 (fnI l s t))):=by
 have HL:=Lib.hid hl;clear hl
 have HP:=Lib.hid hp;clear hp
 have HQ:=Lib.hid hq;clear hq
 go_enter Tryz.func98,Tryz.ntmps98
 go_wp2
 go_loopw [8] (fun i wr=>∃ k:Nat,k≤l.length∧i = .int .i64 k∧Hid (fnFrom s t (l.drop k) k=fnI l s t)∧Hid (Below w.heap.size w wr)) (fun i _=>l.length - (intOf i).toNat)
 case atStart=>exact ⟨0,Nat.zero_le _,rfl,rfl,Below.refl _ _⟩
 case round =>
  obtain ⟨k,hk,rfl,HI,HB⟩:=hrel
  by_cases hlt:k < l.length
  ·obtain ⟨b,off,va,vc,ca,cc,rfl,m0,m1,m2,m3,m4,m5,m6,_,_⟩:=HL.out.below HB.out k hlt
   have HT:=Lib.hid (@fn_hit s t l k hlt)
   have HM:=Lib.hid (@fn_miss s t l k hlt)
   have HC:Hid (∀ x:Fnc,Calls Tryz.prog 99 #[fnV x va vc ca cc,.pointer (some p),.pointer (some q)] wr (Ret wr (.bool (isFn s t x)))):=fun x=>findClo s t x va vc ca cc p q wr (cell_below HB.out HP.out) (cell_below HB.out HQ.out)
   unfold fnV at HC
   generalize l[k]=x at *
   have HD:=Lib.hid (HC.out x)
   clear HC
   cases hq:isFn s t x
   ·rw [hq] at HD
    have HN:=Lib.hid (HM.out hq)
    clear HM HT
    go_wp2_with (go_at_call 99;refine HD.out.mono ?_;rintro e w1 ⟨rfl,hb1⟩)
    go_roundw
    case rel=>exact ⟨k+1,by omega,by go_num,by show _=_;rw [← HN.out];exact HI.out,HB.out.trans (hb1.mono HB.out.size)⟩
    case measure=>simp [intOf];omega
   ·rw [hq] at HD
    have HN:=Lib.hid (HT.out hq)
    clear HM HT
    go_wp2_with (go_at_call 99;refine HD.out.mono ?_;rintro e w1 ⟨rfl,hb1⟩)
    go_ret
    exact ⟨ret_int (by rw [← HI.out,HN.out]),HB.out.trans (hb1.mono HB.out.size)⟩
  ·have HN:=Lib.hid (@fn_end s t l k (by omega))
   go_wp2
   go_ret
   exact ⟨ret_int (by rw [← HI.out,HN.out]),HB.out⟩
set_option maxHeartbeats 1000000 in
theorem irFind (u:Unt) (ha:Option Addr) (hc:Nat) (fa:Option Addr) (fc:Nat) (s t:Str) (w:World) (hl:FncsAt w fa u.fs) (hn:u.fs.length≤1000000) :
 Calls Tryz.prog 49 #[.agg #[.slice ha u.h.length hc,.slice fa u.fs.length fc,.int .i64 u.main],.string s,.string t] w (Ret w (.int .i64 (fnI u.fs s t))):=by
 have HB:=Lib.hid (three_below w (.cells #[.slice ha u.h.length hc,.slice fa u.fs.length fc,.int .i64 u.main] 27) (.cells #[.string s] 9) (.cells #[.string t] 9))
 have HX:Hid (∀ W,W=((w.alloc (.cells #[.slice ha u.h.length hc,.slice fa u.fs.length fc,.int .i64 u.main] 27)).alloc (.cells #[.string s] 9)).alloc (.cells #[.string t] 9)→W.cell? ⟨w.heap.size + 1,0,none⟩=some (.string s)∧W.cell? ⟨w.heap.size + 2,0,none⟩=some (.string t)):=by
  rintro _ rfl
  have h2:=blk_new2 (w.alloc (.cells #[.slice ha u.h.length hc,.slice fa u.fs.length fc,.int .i64 u.main] 27)) #[.string t] 9 (.cells #[.string s] 9)
  have h1:=(blk_new (w.alloc (.cells #[.slice ha u.h.length hc,.slice fa u.fs.length fc,.int .i64 u.main] 27)) #[.string s] 9).below (one_below _ (.cells #[.string t] 9))
  have e1:=h1.cell 0 (by simp)
  have e2:=h2.cell 0 (by simp)
  simpa using And.intro e1 e2
 have HL:=Lib.hid hl;clear hl
 go_enter Tryz.func49,Tryz.ntmps49
 go_wp2_with (go_at_call 98;refine (indexFn u.fs s t fa fc _ _ _ (HL.out.below HB.out) hn (HX.out _ rfl).1 (HX.out _ rfl).2).mono ?_;rintro e w1 ⟨rfl,hb1⟩)
 go_ret
 exact ⟨rfl,HB.out.trans (hb1.mono HB.out.size)⟩
end Go.Proofs.YtkbmnfijeknenaaGreatDoor
namespace Go.Proofs.YtkbmnfijeknenaaGreatDoor
open Go.RowKit Go.Unit0 Go.AM

theorem mthFrom_spec (t:Str):∀ (l:List Sgn) (k:Nat),(sgnIn l t=none∧mthFrom t l k = -1) ∨ ∃ (j:Nat) (hj:j < l.length),mthFrom t l k=((k + j:Nat):Int)∧sgnIn l t=some l[j]
 | [],_=>.inl ⟨rfl,rfl⟩
 | x :: l,k=>by
   cases e:(x.name.toList == t.toList)
   ·have e1:mthFrom t (x :: l) k=mthFrom t l (k + 1):=by show (if _ then (k:Int) else _)=_;rw [if_neg (by simp [e])]
    have e2:sgnIn (x :: l) t=sgnIn l t:=by unfold sgnIn;rw [List.find?_cons_of_neg (by unfold eqB;simp [e])]
    rw [e1,e2]
    rcases mthFrom_spec t l (k + 1) with h | ⟨j,hj,h1,h2⟩
    ·exact .inl h
    ·exact .inr ⟨j + 1,by simp;omega,by rw [h1];congr 1;omega,by rw [h2];simp⟩
   ·refine .inr ⟨0,by simp,?_,?_⟩
    ·show (if _ then (k:Int) else _)=_;rw [if_pos e];rfl
    ·unfold sgnIn;rw [List.find?_cons_of_pos (by unfold eqB;exact e)];rfl
theorem mthI_spec (l:List Sgn) (t:Str):(sgnIn l t=none∧mthI l t = -1) ∨ ∃ (j:Nat) (hj:j < l.length),mthI l t=(j:Int)∧sgnIn l t=some l[j]:=by
 rcases mthFrom_spec t l 0 with h | ⟨j,hj,h1,h2⟩
 ·exact .inl h
 ·exact .inr ⟨j,hj,by unfold mthI;rw [h1];simp,h2⟩
theorem findC_fst {h:List Cls} {j:Nat} (hj:j < h.length) (k:findI h h[j].name=(j:Int)):findC h h[j].name=some h[j]:=by
 rcases find_spec h h[j].name with ⟨_,f2⟩ | ⟨i,hi,f1,f2,_⟩
 ·rw [k] at f2;omega
 ·rw [k] at f1
  obtain rfl:j=i:=by omega
  exact f2
theorem lk_look (h:List Cls) (t:Str):∀ l:List Int,(∀ x ∈ l,isFst h x) →
 (lookF h t (l.map (nameAt h))=none∧lkL h t l=(-1,-1)) ∨ ∃ (i k:Nat) (hi:i < h.length) (hk:k < h[i].methods.length),(i:Int) ∈ l∧lkL h t l=((i:Int),(k:Int))∧lookF h t (l.map (nameAt h))=some (h[i].name,h[i].methods[k])
 | [],_=>.inl ⟨rfl,rfl⟩
 | x :: l,hl=>by
   obtain ⟨j,hj,rfl,hf⟩:=hl x (by simp)
   have ih:=lk_look h t l (fun y hy=>hl y (List.mem_cons_of_mem _ hy))
   rw [List.map_cons,nameAt_nat hj]
   have hc:=findC_fst hj hf
   rcases mthI_spec h[j].methods t with ⟨m1,m2⟩ | ⟨k,hk,m1,m2⟩
   ·have e1:lkL h t ((j:Int) :: l)=lkL h t l:=by
     have:=lkL_miss (h:=h) (t:=t) (l:=(j:Int) :: l) (q:=0) (k:=j) (by simp) hj rfl (by rw [m2];omega)
     simpa using this
    have e2:lookF h t (h[j].name :: l.map (nameAt h))=lookF h t (l.map (nameAt h)):=by
     have:=look_miss (h:=h) (s:=t) (L:=h[j].name :: l.map (nameAt h)) (k:=0) (by simp) hc m1
     simpa using this
    rw [e1,e2]
    rcases ih with h1 | ⟨i,k,hi,hk,h0,h1,h2⟩
    ·exact .inl h1
    ·exact .inr ⟨i,k,hi,hk,List.mem_cons_of_mem _ h0,h1,h2⟩
   ·refine .inr ⟨j,k,hj,hk,by simp,?_,?_⟩
    ·have:=lkL_hit (h:=h) (t:=t) (l:=(j:Int) :: l) (q:=0) (k:=j) (by simp) hj rfl (by rw [m1];omega)
     rw [m1] at this
     simpa using this
    ·have:=look_hit (h:=h) (s:=t) (L:=h[j].name :: l.map (nameAt h)) (k:=0) (by simp) hc m2
     simpa using this
theorem lkP_look {h:List Cls} {i:Int} (k:isFst h i) (t:Str):(lookP h (nameAt h i) t=none∧lkP h i t=(-1,-1)) ∨ ∃ (j m:Nat) (hj:j < h.length) (hm:m < h[j].methods.length),isFst h (j:Int)∧lkP h i t=((j:Int),(m:Int))∧lookP h (nameAt h i) t=some (h[j].name,h[j].methods[m]):=by
 unfold lookP lkP
 rw [← chain_names k]
 have hf:=chI_fst (fun _=>k)
 rcases lk_look h t _ hf with e | ⟨j,m,hj,hm,e0,e1,e2⟩
 ·exact .inl e
 ·exact .inr ⟨j,m,hj,hm,hf _ e0,e1,e2⟩
theorem lkP_find (h:List Cls) (s t:Str):(lookP h s t=none∧lkP h (findI h s) t=(-1,-1)) ∨ ∃ (j m:Nat) (hj:j < h.length) (hm:m < h[j].methods.length),isFst h (j:Int)∧lkP h (findI h s) t=((j:Int),(m:Int))∧lookP h s t=some (h[j].name,h[j].methods[m]):=by
 by_cases hs:0≤findI h s
 ·have:=lkP_look (findI_fst hs) t
  rw [find_name hs] at this
  exact this
 ·left
  have e:supers h s = []:=by
   rw [← supP_eq];unfold supP chI
   rw [chIF_neg _ hs];rfl
  refine ⟨by unfold lookP;rw [e];rfl,?_⟩
  unfold lkP chI
  rw [chIF_neg _ hs];rfl
def SubL (h:List Cls) (r:Int) (l:List Int):Prop:=l.Nodup∧∀ x,x ∈ l ↔ SubI h r x
theorem SubL.len {h:List Cls} {r:Int} {l:List Int} (k:SubL h r l):l.length≤h.length :=
 nodup_len _ _ k.1 (fun x hx=>((k.2 x).1 hx).1.nat)
def tgtI (h:List Cls) (t:Str) (l:List Int):List Int:=(l.map (fun i=>(lkP h i t).1)).filter (fun j=>decide (0≤j))
def tgtN (h:List Cls) (t:Str) (l:List Int):List Str:=(tgtI h t l).map (nameAt h)
theorem tgtI_snoc_t {h:List Cls} {t:Str} {l:List Int} {i:Int} (e:0≤(lkP h i t).1):tgtI h t (l ++ [i])=tgtI h t l ++ [(lkP h i t).1]:=by
 unfold tgtI;rw [List.map_append,List.filter_append];simp [e]
theorem tgtI_snoc_f {h:List Cls} {t:Str} {l:List Int} {i:Int} (e:¬ 0≤(lkP h i t).1):tgtI h t (l ++ [i])=tgtI h t l:=by
 unfold tgtI;rw [List.map_append,List.filter_append];simp [e]
theorem tgtI_len (h:List Cls) (t:Str) (l:List Int):(tgtI h t l).length≤l.length:=by
 unfold tgtI
 have:=List.length_filter_le (fun j=>decide (0≤j)) (l.map (fun i=>(lkP h i t).1))
 simpa using this
def subNS (h:List Cls) (c x:Str):Prop:=∃ k ∈ h,k.name=x∧isSub h x c=true
def tgtNS (h:List Cls) (c t x:Str):Prop:=∃ s,subNS h c s∧∃ g,lookP h s t=some (x,g)
theorem sub_names {h:List Cls} {c:Str} {l:List Int} (k:SubL h (findI h c) l) (x:Str):x ∈ l.map (nameAt h) ↔ subNS h c x:=by
 rw [List.mem_map]
 constructor
 ·rintro ⟨i,hi,rfl⟩
  obtain ⟨h1,h2⟩:=(k.2 i).1 hi
  obtain ⟨j,hj,rfl,hf⟩:=h1
  refine ⟨h[j],List.getElem_mem hj,(nameAt_nat hj).symm,?_⟩
  exact (isSub_iff ⟨j,hj,rfl,hf⟩ c).2 h2
 ·rintro ⟨d,hd,rfl,hs⟩
  rcases find_spec h d.name with ⟨f1,_⟩ | ⟨j,hj,f1,_,f3⟩
  ·unfold findC at f1
   rw [List.find?_eq_none] at f1
   exact absurd (eqB_self d.name) (f1 d hd)
  ·have hf:isFst h (j:Int):=⟨j,hj,rfl,by rw [f3];exact f1⟩
   refine ⟨(j:Int),(k.2 _).2 ⟨hf,?_⟩,by rw [nameAt_nat hj,f3]⟩
   exact (isSub_iff hf c).1 (by rw [nameAt_nat hj,f3];exact hs)
theorem tgt_names {h:List Cls} {c t:Str} {l:List Int} (k:SubL h (findI h c) l) (x:Str):x ∈ tgtN h t l ↔ tgtNS h c t x:=by
 unfold tgtN tgtI
 simp only [List.mem_map,List.mem_filter,decide_eq_true_eq]
 constructor
 ·rintro ⟨y,⟨⟨i,hi,rfl⟩,hy⟩,rfl⟩
  obtain ⟨hf,_⟩:=(k.2 i).1 hi
  refine ⟨nameAt h i,(sub_names k _).1 (List.mem_map_of_mem hi),?_⟩
  rcases lkP_look hf t with ⟨_,e⟩ | ⟨j,m,hj,hm,_,e1,e2⟩
  ·rw [e] at hy;exact absurd hy (by decide)
  ·rw [e1]
   exact ⟨_,by rw [e2,nameAt_nat hj]⟩
 ·rintro ⟨s,hs,g,hg⟩
  obtain ⟨i,hi,rfl⟩:=List.mem_map.1 ((sub_names k _).2 hs)
  obtain ⟨hf,_⟩:=(k.2 i).1 hi
  rcases lkP_look hf t with ⟨e,_⟩ | ⟨j,m,hj,hm,_,e1,e2⟩
  ·rw [e] at hg;cases hg
  ·rw [e2] at hg
   cases hg
   exact ⟨(j:Int),⟨⟨i,hi,by rw [e1]⟩,by omega⟩,nameAt_nat hj⟩
-- ascending lists of names, each once
def Asc (l:List Str):Prop:=(l.map bl).Pairwise (· < ·)
theorem blL_inj {a b:List Str} (h:a.map bl=b.map bl):a=b:=by
 have e:∀ l:List Str,(l.map bl).map mkB=l:=fun l=>by rw [List.map_map];exact List.map_id'' mkB_bl l
 rw [← e a,h,e b]
theorem sortBL_eqL (l:List Str):(compB (sortB l)).map bl=Lib.compact (sortBL (l.map bl)):=by
 have e:∀ m:List BL,(m.map mkB).map bl=m:=fun m=>by rw [List.map_map];exact List.map_id'' bl_mkB m
 unfold compB sortB
 rw [e,e];rfl
theorem bl_eq {a b:Str} (h:bl a=bl b):a=b:=by rw [← mkB_bl a,h,mkB_bl]
theorem mem_bl {l:List Str} {x:Str}:bl x ∈ l.map bl ↔ x ∈ l:=by
 rw [List.mem_map]
 constructor
 ·rintro ⟨y,hy,e⟩;rw [← bl_eq e];exact hy
 ·intro hx;exact ⟨x,hx,rfl⟩
theorem asc_unique {a b:List Str} (ha:Asc a) (hb:Asc b) (h:∀ x,x ∈ a ↔ x ∈ b):a=b:=by
 refine blL_inj (strict_unique _ _ ha hb fun y=>?_)
 rw [← bl_mkB y,mem_bl,mem_bl]
 exact h _
theorem csort_asc (l:List Str):Asc (compB (sortB l))∧∀ x,x ∈ compB (sortB l) ↔ x ∈ l:=by
 obtain ⟨h1,h2⟩:=csort_spec (l.map bl)
 refine ⟨by unfold Asc;rw [sortBL_eqL];exact h1,fun x=>?_⟩
 rw [← mem_bl,sortBL_eqL,h2,mem_bl]
theorem sort_nodup {l:List Str} (hn:l.Nodup):Asc (sortB l)∧∀ x,x ∈ sortB l ↔ x ∈ l:=by
 have e:(sortB l).map bl=sortBL (l.map bl):=by
  unfold sortB sortBL
  rw [List.map_map]
  exact List.map_id'' bl_mkB _
 have hp:(sortBL (l.map bl)).Perm (l.map bl):=List.mergeSort_perm _ _
 refine ⟨?_,fun x=>?_⟩
 ·unfold Asc
  rw [e]
  have hn2:(l.map bl).Nodup:=by
   unfold List.Nodup at *
   rw [List.pairwise_map]
   exact hn.imp fun h e=>h (bl_eq e)
  have:=List.pairwise_and_iff.2 ⟨sortBL_le (l.map bl),hp.nodup_iff.2 hn2⟩
  exact this.imp fun h=>bl_lt_of_le_ne h.1 h.2
 ·rw [← mem_bl,e,hp.mem_iff,mem_bl]
end Go.Proofs.YtkbmnfijeknenaaGreatDoor
