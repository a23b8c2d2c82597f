/-
  Plain: in a valid unit a call on an object finds a method that is not static, whatever subclass the object has, and every method is a function.
-/
import Derived.Test.YtkbmnfijeknenaaGreatDoorHX
import Derived.Test.YtkbmnfijeknenaaGreatDoorRA
import Derived.Test.YtkbmnfijeknenaaGreatDoorWF
namespace Go.Proofs.YtkbmnfijeknenaaGreatDoor
open Go.RowKit Go.Unit0 Go.AM

-- what a check has gone through
theorem checkF_all {ident:Str→Bool} {h:List Cls}:∀ {l:List Cls} {i:Nat},(checkF ident h l i).2=0→∀ (j:Nat) (hj:j < l.length),classE ident h (i + j) l[j]=0
 | [],_,_,_,hj=>absurd hj (by simp)
 | c :: l,i,e,j,hj=>by
   unfold checkF at e
   by_cases k:classE ident h i c ≠ 0
   ·rw [if_pos k] at e;exact absurd e k
   ·rw [if_neg k] at e
    cases j with
    | zero=>simpa using k
    | succ j =>
      have:=checkF_all e j (by simpa using hj)
      rw [show i + 1 + j=i + (j + 1) by omega] at this
      simpa using this
theorem methodsE_all {ident:Str→Bool} {h:List Cls} {c:Str}:∀ {l:List Sgn} {bef:List Str},methodsE ident h c bef l=0→∀ m ∈ l,overF h m (upP h c)=false
 | [],_,_,_,hm=>absurd hm (by simp)
 | s :: l,bef,e,m,hm=>by
   unfold methodsE at e
   split at e
   ·cases e
   split at e
   ·cases e
   split at e
   ·cases e
   split at e
   ·rename_i k;exact absurd e k
   split at e
   ·cases e
   rename_i k
   rcases List.mem_cons.1 hm with rfl | hm
   ·simpa using k
   ·exact methodsE_all e m hm
def ClsOk (h:List Cls):Prop:=∀ (j:Nat) (hj:j < h.length),isFst h (j:Int)∧∀ m ∈ h[j].methods,overF h m (upP h h[j].name)=false
theorem clsOk {h:List Cls} (k:(checkH identB h).2=0):ClsOk h:=by
 intro j hj
 unfold checkH at k
 split at k
 ·cases k
 have e:=checkF_all k j hj
 rw [Nat.zero_add] at e
 unfold classE at e
 split at e
 ·cases e
 split at e
 ·cases e
 rename_i hf
 split at e
 ·cases e
 split at e
 ·cases e
 split at e
 ·cases e
 split at e
 ·rename_i hf;exact absurd e hf
 exact ⟨⟨j,hj,rfl,by simpa using hf⟩,methodsE_all e⟩
theorem over_no {h:List Cls} {s:Sgn} {l:List Str} (k:overF h s l=false) {x:Str} {c:Cls} {m:Sgn} (hx:x ∈ l) (hc:findC h x=some c) (hm:m ∈ c.methods) (hn:m.name=s.name):m.stat=false∧s.stat=false:=by
 unfold overF at k
 rw [List.any_eq_false] at k
 have h1:=k x hx
 rw [hc] at h1
 have h2:c.methods.any (fun m=>eqB m.name s.name && (m.stat || s.stat || !sameSig m s))=false:=by simpa using h1
 rw [List.any_eq_false] at h2
 have h3:=h2 m hm
 rw [eqB_iff.2 hn] at h3
 cases e1:m.stat <;> cases e2:s.stat <;> simp [e1,e2] at h3 ⊢
-- chains
theorem chIF_pre (h:List Cls):∀ (n:Nat) (i:Int) (l:List Int),∃ m,(chIF h n i l).1=l ++ m
 | 0,i,l=>⟨[],by simp [chIF]⟩
 | n + 1,i,l=>by
   by_cases k:0≤i∧i ∉ l
   ·obtain ⟨m,e⟩:=chIF_pre h n (supAt h i) (l ++ [i])
    rw [chIF_go k.1 k.2,e]
    exact ⟨[i] ++ m,by rw [List.append_assoc]⟩
   ·rw [chIF_stop k];exact ⟨[],by simp⟩
theorem up_in {h:List Cls} {p q:Int} (kp:isFst h p) (k:Up h p q) (hne:q ≠ p):nameAt h q ∈ upP h (nameAt h p):=by
 have kq:=k.mem kp
 have hp:=kp.ge
 have e1:(chI h p).1=(chIF h h.length (supAt h p) [p]).1:=by unfold chI;rw [chIF_go hp (by simp)];rfl
 obtain ⟨m,e2⟩:=chIF_pre h h.length (supAt h p) [p]
 have h1:=(chI_mem (.inr kp.nat) q).2 k
 rw [e1,e2] at h1
 unfold upP
 rw [← chain_names kp,e1,e2]
 rcases List.mem_append.1 h1 with h1 | h1
 ·exact absurd (by simpa using h1) hne
 ·simpa using List.mem_map_of_mem h1
theorem Up.trans {h:List Cls} {p q r:Int} (k:Up h p q) (l:Up h q r):Up h p r:=by
 induction k with
 | refl _=>exact l
 | step h0 _ ih=>exact .step h0 (ih l)
theorem Up.total {h:List Cls} {i p q:Int} (k:Up h i p) (l:Up h i q):Up h p q ∨ Up h q p:=by
 induction k with
 | refl _=>exact .inl l
 | step h0 k ih =>
   cases l with
   | refl _=>exact .inr (.step h0 k)
   | step _ l=>exact ih l
theorem look_up {h:List Cls} {i:Int} (k:isFst h i) {t x:Str} {g:Sgn} (e:lookP h (nameAt h i) t=some (x,g)):∃ (j:Nat) (hj:j < h.length),Up h i (j:Int)∧isFst h (j:Int)∧x=h[j].name∧g ∈ h[j].methods∧g.name=t∧sgnIn h[j].methods t=some g:=by
 obtain ⟨h1,c,_,_,h3,h4,h5,h6⟩:=lookF_mem e
 rw [← chain_names k] at h1
 obtain ⟨y,hy,rfl⟩:=List.mem_map.1 h1
 have hf:=chI_fst (fun _=>k) y hy
 have hu:=(chI_mem (.inr k.nat) y).1 hy
 obtain ⟨j,hj,rfl,hn⟩:=hf
 rw [nameAt_nat hj,findC_fst hj hn] at h3
 cases h3
 exact ⟨j,hj,hu,⟨j,hj,rfl,hn⟩,nameAt_nat hj,h4,eqB_iff.1 h5,h6⟩
theorem lookF_none {h:List Cls} {t:Str}:∀ {L:List Str},lookF h t L=none→∀ x ∈ L,∀ c,findC h x=some c→sgnIn c.methods t=none
 | [],_,_,hx,_,_=>absurd hx (by simp)
 | y :: L,e,x,hx,c,hc=>by
   unfold lookF at e
   split at e
   ·cases e
   rename_i hb
   rcases List.mem_cons.1 hx with rfl | hx
   ·rw [hc] at hb;exact hb
   ·exact lookF_none e x hx c hc
theorem look_ex {h:List Cls} {i:Int} (k:isFst h i) {j:Nat} (hj:j < h.length) (u:Up h i (j:Int)) {t:Str} {g:Sgn} (e:sgnIn h[j].methods t=some g):∃ x g',lookP h (nameAt h i) t=some (x,g'):=by
 cases e1:lookP h (nameAt h i) t with
 | some p=>exact ⟨p.1,p.2,rfl⟩
 | none =>
   have hf:=u.mem k
   obtain ⟨j',hj',e2,hn⟩:=hf
   obtain rfl:j=j':=by omega
   have hx:h[j].name ∈ supers h (nameAt h i):=by
    rw [← chain_names k,← nameAt_nat hj]
    exact List.mem_map_of_mem ((chI_mem (.inr k.nat) _).2 u)
   have:=lookF_none e1 _ hx _ (findC_fst hj hn)
   rw [e] at this
   cases this
theorem look_sub {h:List Cls} (ok:ClsOk h) {i r:Int} (ki:isFst h i) (ur:Up h i r) {t y:Str} {g:Sgn} (e:lookP h (nameAt h r) t=some (y,g)) (hs:g.stat=false):∃ x g',lookP h (nameAt h i) t=some (x,g')∧g'.stat=false:=by
 obtain ⟨q,hq,uq,kq,-,gq,nq,sq⟩:=look_up (ur.mem ki) e
 obtain ⟨x,g',e'⟩:=look_ex ki hq (ur.trans uq) sq
 refine ⟨x,g',e',?_⟩
 obtain ⟨p,hp,up,kp,-,gp,np,sp⟩:=look_up ki e'
 by_cases hpq:p=q
 ·subst hpq
  rw [sq] at sp
  cases sp
  exact hs
 have hpq':(p:Int) ≠ (q:Int):=by omega
 obtain ⟨_,_,e1,fp⟩:=kp
 obtain ⟨_,_,e2,fq⟩:=kq
 obtain rfl:=Int.ofNat.inj e1
 obtain rfl:=Int.ofNat.inj e2
 rcases Up.total up (ur.trans uq) with u | u
 ·have h1:=up_in ⟨p,hp,rfl,fp⟩ u (Ne.symm hpq')
  rw [nameAt_nat hp,nameAt_nat hq] at h1
  exact (over_no ((ok p hp).2 g' gp) h1 (findC_fst hq fq) gq (by rw [nq,np])).2
 ·have h1:=up_in ⟨q,hq,rfl,fq⟩ u hpq'
  rw [nameAt_nat hp,nameAt_nat hq] at h1
  exact (over_no ((ok q hq).2 g gq) h1 (findC_fst hp fp) gp (by rw [nq,np])).1
-- numbers
theorem numF_ex:∀ {l:List Cls} {c:Cls} {g:Sgn},c ∈ l→g ∈ c.methods→∃ n,n < sumM l∧numF l n=some (c.name,g)
 | [],_,_,hc,_=>absurd hc (by simp)
 | d :: l,c,g,hc,hg=>by
   rcases List.mem_cons.1 hc with rfl | hc
   ·obtain ⟨n,hn,rfl⟩:=List.getElem_of_mem hg
    refine ⟨n,by simp [sumM];omega,?_⟩
    unfold numF
    rw [dif_pos hn]
   ·obtain ⟨n,hn,e⟩:=numF_ex hc hg
    refine ⟨n + d.methods.length,by unfold sumM at *;simp;omega,?_⟩
    unfold numF
    rw [dif_neg (by omega),Nat.add_sub_cancel]
    exact e
theorem fnFrom_ge (s t:Str):∀ (l:List Fnc) (k:Nat),(∃ x ∈ l,isFn s t x=true)→0≤fnFrom s t l k
 | [],_,h=>by obtain ⟨x,hx,_⟩:=h;cases hx
 | y :: l,k,h=>by
   show 0≤(if isFn s t y=true then (k:Int) else fnFrom s t l (k + 1))
   by_cases e:isFn s t y=true
   ·rw [if_pos e];omega
   ·rw [if_neg e]
    refine fnFrom_ge s t l (k + 1) ?_
    obtain ⟨x,hx,h1⟩:=h
    rcases List.mem_cons.1 hx with rfl | hx
    ·exact absurd h1 e
    ·exact ⟨x,hx,h1⟩
theorem fn_ex {u:Unt} (k:UnitOk u) {c:Cls} {g:Sgn} (hc:c ∈ u.h) (hg:g ∈ c.methods):0≤fnI u.fs c.name g.name:=by
 obtain ⟨n,hn,e⟩:=numF_ex hc hg
 rw [k.w.s] at hn
 obtain ⟨x,g',e',f⟩:=k.f n hn
 rw [e] at e'
 cases e'
 refine fnFrom_ge _ _ _ _ ⟨u.fs[n],List.getElem_mem hn,?_⟩
 unfold isFn
 rw [f.c,f.n];rfl
theorem look_fn {u:Unt} (k:UnitOk u) {s t x:Str} {g:Sgn} (e:lookP u.h s t=some (x,g)):0≤fnI u.fs x t:=by
 obtain ⟨-,c,hc,hn,-,hg,ht,-⟩:=lookF_mem e
 have:=fn_ex k hc hg
 rwa [eqB_iff.1 hn,eqB_iff.1 ht] at this
theorem dsp_sub {u:Unt} (k:UnitOk u) {c:Ins} (hc:CallOk u.h c) (h9:c.op=9) {s:Str} (hs:subNS u.h c.cls s):∃ x g,lookP u.h s c.name=some (x,g)∧dspP u.h u.fs s c.name=fnI u.fs x c.name∧0≤fnI u.fs x c.name:=by
 obtain ⟨d,hd,rfl,hi⟩:=hs
 obtain ⟨j,hj,rfl⟩:=List.getElem_of_mem hd
 have ok:=clsOk k.w.h
 have kj:=(ok j hj).1
 rw [← nameAt_nat hj] at hi ⊢
 have ur:=(isSub_iff kj _).1 hi
 have hr:=(ur.mem kj).ge
 obtain ⟨y,g,e,hg⟩:=hc.c h9
 rw [← find_name hr] at e
 obtain ⟨x,g',e',hg'⟩:=look_sub ok kj ur e hg
 refine ⟨x,g',e',?_,look_fn k e'⟩
 unfold dspP
 rw [e']
 show (if g'.stat=true then (-1:Int) else fnI u.fs x c.name)=_
 rw [hg'];rfl
theorem dsp_trg {u:Unt} (k:UnitOk u) {j i:Nat} (hj:j < u.fs.length) (hi:i < u.fs[j].code.length) (h9:u.fs[j].code[i].op=9) {s:Str} (hs:subNS u.h u.fs[j].code[i].cls s):trgS u j i (dspP u.h u.fs s u.fs[j].code[i].name):=by
 obtain ⟨x,g,e,e1,e2⟩:=dsp_sub k (k.c j hj i hi) h9 hs
 rw [e1]
 exact (trgS_at hj hi _).2 ⟨e2,.inr ⟨h9,x,⟨s,hs,g,e⟩,rfl⟩⟩
theorem trg_dsp {u:Unt} (k:UnitOk u) {j i:Nat} (hj:j < u.fs.length) (hi:i < u.fs[j].code.length) (h9:u.fs[j].code[i].op=9) {x:Int} (hx:trgS u j i x):∃ s,subNS u.h u.fs[j].code[i].cls s∧dspP u.h u.fs s u.fs[j].code[i].name=x:=by
 rcases ((trgS_at hj hi _).1 hx).2 with ⟨h10,_⟩ | ⟨_,y,⟨s,hs,g,e⟩,rfl⟩
 ·rw [h9] at h10;cases h10
 obtain ⟨x,g',e',e1,_⟩:=dsp_sub k (k.c j hj i hi) h9 hs
 rw [e] at e'
 cases e'
 exact ⟨s,hs,e1⟩
theorem trg_static {u:Unt} (k:UnitOk u) {j i:Nat} (hj:j < u.fs.length) (hi:i < u.fs[j].code.length) (h10:u.fs[j].code[i].op=10) {L:List Int} (hp:L.Pairwise (· < ·)) (hm:∀ x,x ∈ L ↔ trgS u j i x):L.length=1:=by
 obtain ⟨g,e,_⟩:=(k.c j hj i hi).s h10
 have h0:=look_fn k e
 have:L = [fnI u.fs u.fs[j].code[i].cls u.fs[j].code[i].name]:=set_unique hp hm (by simp) (fun x=>by
  rw [trgS_at hj hi,List.mem_singleton]
  constructor
  ·rintro rfl;exact ⟨h0,.inl ⟨h10,rfl⟩⟩
  ·rintro ⟨_,⟨_,rfl⟩ | ⟨h9,_⟩⟩
   ·rfl
   ·rw [h10] at h9;cases h9)
 rw [this];rfl
theorem trg_other {u:Unt} {f i:Int} (h:∀ (j k:Nat) (hj:j < u.fs.length) (hk:k < u.fs[j].code.length),f=(j:Int)→i=(k:Int)→u.fs[j].code[k].op ≠ 9∧u.fs[j].code[k].op ≠ 10) {L:List Int} (hm:∀ x,x ∈ L ↔ trgS u f i x):L = []:=by
 rw [List.eq_nil_iff_forall_not_mem]
 intro x hx
 obtain ⟨_,j,k,hj,hk,rfl,rfl,hc⟩:=(hm x).1 hx
 obtain ⟨h9,h10⟩:=h j k hj hk rfl rfl
 rcases hc with ⟨e,_⟩ | ⟨e,_⟩
 ·exact h10 e
 ·exact h9 e
end Go.Proofs.YtkbmnfijeknenaaGreatDoor
