/-
  The sites that a cell refers to, program and reference; the place of a name.
  callgraph.Cell and the reference's Cell.
  The program's follow: the cells of a field of sites, and the sites to which they refer.
-/
import Derived.Test.YtffcklfigpmlgaaGreatDoorPA
import Derived.Test.YtffcklfigpmlgaaGreatDoorHK
import Derived.Test.YtffcklfigpmlgaaGreatDoorRA
import Derived.Test.YtffcklfigpmlgaaGreatDoorXA
import Derived.Test.YtffcklfigpmlgaaGreatDoorVB
import Derived.Test.YtffcklfigpmlgaaGreatDoorXC
import Derived.Test.YtffcklfigpmlgaaGreatDoorXE
namespace Go.Proofs.YtffcklfigpmlgaaGreatDoor
open Go.RowKit Go.Unit0 Go.AM

theorem less_true {s x:Str} (h:bl s < bl x):Op.bytesLess s.toList x.toList=true:=by
 cases e:Op.bytesLess s.toList x.toList
 ·exact absurd h (less_f e)
 ·rfl
theorem less_false {s x:Str} (h:¬ bl s < bl x):Op.bytesLess s.toList x.toList=false:=by
 cases e:Op.bytesLess s.toList x.toList
 ·rfl
 ·exact absurd (less_t e) h
theorem place (l:List Str) (x:Str) (ha:(l.map bl).Pairwise (· < ·)):∃ k,k≤l.length∧(∀ t (ht:t < l.length),t < k→bl l[t] < bl x)∧(∀ t (ht:t < l.length),k≤t→¬ bl l[t] < bl x)∧(0≤nmI l x→nmI l x=(k:Int)):=by
 have hasc:∀ i j (hi:i < l.length) (hj:j < l.length),i < j→bl l[i] < bl l[j]:=fun i j hi hj hij=>by
  have:=List.pairwise_iff_getElem.1 ha i j (by simpa using hi) (by simpa using hj) hij
  simpa using this
 obtain ⟨k,hk⟩:∃ k,k=l.findIdx (fun y=>!decide (bl y < bl x)):=⟨_,rfl⟩
 have hkl:k≤l.length:=by rw [hk];exact List.findIdx_le_length
 have hlo:∀ t (ht:t < l.length),t < k→bl l[t] < bl x:=fun t ht htk=>by
  rw [hk] at htk
  have:=List.not_of_lt_findIdx htk
  simpa using this
 have hhi:∀ t (ht:t < l.length),k≤t→¬ bl l[t] < bl x:=fun t ht htk hlt=>by
  have hkk:k < l.length:=by omega
  have h1:¬ bl l[k] < bl x:=by
   have h2:=List.findIdx_getElem (p:=fun y=>!decide (bl y < bl x)) (xs:=l) (w:=by rw [← hk];exact hkk)
   simp only [← hk] at h2
   simpa using h2
  by_cases e:k=t
  ·subst e;exact h1 hlt
  ·exact h1 (bl_trans (hasc k t hkk ht (by omega)) hlt)
 refine ⟨k,hkl,hlo,hhi,fun h=>?_⟩
 rcases nmI_spec l x with ⟨h1,_⟩ | ⟨j,hj,h1,h2⟩
 ·omega
 ·rw [h1]
  have h3:¬ j < k:=fun hlt=>by
   have:=hlo j hj hlt
   rw [h2] at this
   exact bl_irrefl _ this
  have h4:¬ k < j:=fun hlt=>hhi k (by omega) (Nat.le_refl _) (by have:=hasc k j (by omega) hj hlt;rw [h2] at this;exact this)
  have:j=k:=by omega
  rw [this]
theorem search41 (l:List Str) (x:Str) (a:Option Addr) (c:Nat) (w:World) (hs:StrsAt w a l) (ha:(l.map bl).Pairwise (· < ·)) (hl:l.length≤1000000) :
 Calls Tryz.prog 102 #[.slice a l.length c,.string x] w (fun e w'=>Below w.heap.size w w'∧∃ i:Int,e = .returned (.tuple #[.int .i64 i,.bool (decide (0≤nmI l x))])∧(0≤nmI l x→i=nmI l x)):=by
 by_cases h0:0 < l.length
 ·obtain ⟨b,off,rfl,_⟩:=hs 0 h0
  obtain ⟨k,hkl,hlo,hhi,hnm⟩:=place l x ha
  have hS:∀ t (ht:t < l.length),(l[t]?).getD x=l[t]:=fun t ht=>by rw [List.getElem?_eq_getElem ht];rfl
  have hI:Lib.bsGo (fun t=>Op.bytesLess ((l[t]?).getD x).toList x.toList) l.length 0 l.length=k:=by
   refine Lib.bsGo_spec _ k (fun t ht=>?_) (fun t ht=>?_) _ _ _ (by omega) (Nat.zero_le _) hkl
   ·show Op.bytesLess ((l[t]?).getD x).toList x.toList=true
    rw [hS t (by omega)];exact less_true (hlo t (by omega) ht)
   ·show Op.bytesLess ((l[t]?).getD x).toList x.toList=false
    by_cases htl:t < l.length
    ·rw [hS t htl];exact less_false (hhi t htl ht)
    ·rw [List.getElem?_eq_none (by omega)];exact less_false (bl_irrefl _)
  have:=Tryz.slices_BinarySearch_string b off l.length c (fun t=>(l[t]?).getD x) x w (by omega) (fun j hj=>by
   obtain ⟨b',off',he,hc⟩:=hs j hj
   cases he
   rw [hc,hS j hj])
  rw [hI] at this
  refine this.mono ?_
  rintro e w' ⟨rfl,q,rfl⟩
  refine ⟨below_drewN' (Below.refl _ _) q,(k:Int),?_,fun h=>(hnm h).symm⟩
  have:decide (k < l.length∧(l[k]?).getD x=x)=decide (0≤nmI l x):=by
   rw [Bool.eq_iff_iff,decide_eq_true_eq,decide_eq_true_eq]
   constructor
   ·rintro ⟨h1,h2⟩
    rw [hS k h1] at h2
    rcases nmI_spec l x with ⟨_,h4⟩ | ⟨j,hj,h3,h4⟩
    ·exact absurd (by rw [← h2];exact List.getElem_mem h1) h4
    ·omega
   ·intro h
    rcases nmI_spec l x with ⟨h3,_⟩ | ⟨j,hj,h3,h4⟩
    ·omega
    ·have h5:=hnm h
     obtain rfl:j=k:=by omega
     exact ⟨hj,by rw [hS j hj];exact h4⟩
  rw [this]
 ·have hl0:l = []:=List.eq_nil_of_length_eq_zero (by omega)
  subst hl0
  refine (Tryz.slices_BinarySearch_string_empty a c x w).mono ?_
  rintro e w' ⟨rfl,rfl⟩
  exact ⟨Below.refl _ _,0,rfl,fun h=>absurd (show (0:Int)≤-1 from h) (by decide)⟩
set_option maxRecDepth 100000 in
set_option maxHeartbeats 4000000 in
theorem index41 (u:Unt) (ha:Option Addr) (hc:Nat) (fa:Option Addr) (fc:Nat) (fld:Str) (w:World) (h:ClssAt w ha u.h) (hf:FncsAt w fa u.fs) (hk:FitOk u 150) :
 Calls Tryz.prog 123 #[unV u ha hc fa fc,.string fld] w (Ret w (.int .i64 (nmI (setB (fldNames u.h)) fld))):=by
 have S0:=Lib.hid (UB.start (hc:=hc) (fc:=fc) h hf)
 have HFI:Hid (∀ w1,ClssAt w1 ha u.h→FncsAt w1 fa u.fs→Calls Tryz.prog 37 #[unV u ha hc fa fc] w1 (StrsB (foldL ((fldNames u.h).map bl)) w1)):=fun w1 h1 h2=>fields31 u ha hc fa fc w1 h1 h2 (by have:=hk.nc;omega) (fun x hx=>by have:=(hk.c x hx).f;omega)
 have HNL:Hid ((setB (fldNames u.h)).length≤1000000):=by
  show _≤_
  have h1:=setB_len (fldNames u.h)
  have h2:(fldNames u.h).length≤u.h.length * 20:=fldNames_le (fun x hx=>(hk.c x hx).f)
  have:=hk.nc
  omega
 have HRF:Hid (∀ l:List Str,l.map bl=foldL ((fldNames u.h).map bl)→l=setB (fldNames u.h)):=fun l e=>setB_ref e
 clear h hf hk
 generalize setB (fldNames u.h)=N at *
 generalize foldL ((fldNames u.h).map bl)=NB at *
 obtain ⟨R,hR⟩:∃ R,R=nmI N fld:=⟨_,rfl⟩
 rw [← hR]
 have H0:Hid (nmF fld (N.drop 0) 0=R):=by show _=_;rw [hR];rfl
 clear hR
 unfold unV at *
 go_enter Tryz.func123,Tryz.ntmps123
 go_upto_region 1 with (fail)
 generalize w.alloc _=W at *
 obtain ⟨z0,z1,z2⟩:=S0.out.cells
 go_upto_region 2 with (go_at_call 37;refine (HFI.out _ S0.out.h S0.out.f).mono ?_;rintro e w1 ⟨hb,l,la,lc,rfl,hat,hre⟩)
 obtain rfl:=HRF.out l hre
 have HB:=Lib.hid (S0.out.hb.trans (hb.mono S0.out.hb.size))
 have HA:=Lib.hid hat
 have hln:=HNL.out
 clear S0 hb hat hre HFI HRF HNL z0 z1 z2
 go_wp2
 go_loop [6] (fun i=>∃ k:Nat,k≤l.length∧i = .int .i64 k∧Hid (nmF fld (l.drop k) k=R)) (fun i=>l.length - (intOf i).toNat)
 case atStart=>exact ⟨0,Nat.zero_le _,rfl,H0.out⟩
 case round =>
  clear H0
  obtain ⟨k,hk,rfl,HN⟩:=hrel
  by_cases hlt:k < l.length
  case neg =>
   have HE:Hid (R = -1):=by show _=_;rw [← HN.out,nm_end (by omega)]
   clear HN
   go_wp2
   go_ret
   exact ⟨ret_int HE.out.symm,HB.out⟩
  obtain ⟨b,off,he,c0⟩:=HA.out k hlt
  subst he
  have HH:Hid ((l[k].toList == fld.toList)=true→R=k):=fun e=>by rw [← HN.out,nm_hit hlt e]
  have HM:Hid ((l[k].toList == fld.toList)=false→nmF fld (l.drop (k + 1)) (k + 1)=R):=fun e=>by rw [← HN.out,nm_miss hlt e]
  clear HN
  generalize l[k]=x at *
  cases e1:(x.toList == fld.toList)
  ·have HN:=Lib.hid (HM.out e1)
   clear HH HM
   go_wp2
   go_round
   case rel=>exact ⟨k + 1,by omega,by go_num,HN.out⟩
   case measure=>simp [intOf];omega
  ·have HN:=Lib.hid (HH.out e1)
   clear HH HM
   go_wp2
   go_ret
   exact ⟨ret_int HN.out.symm,HB.out⟩
theorem celI_0 {u:Unt} {r:Rsl} {s:Int} {f:Str} (h:nmI (setB (fldNames u.h)) f < 0 ∨ s < 0 ∨ ((sitL u).length:Int)≤s):celI u r s f = []:=if_pos h
theorem celI_at {u:Unt} {r:Rsl} {s:Nat} {f:Str} {i:Nat} (h:nmI (setB (fldNames u.h)) f=(i:Int)) (hs:s < (sitL u).length):celI u r s f=(r.cells[s * (setB (fldNames u.h)).length + i]?).getD []:=by
 unfold celI
 rw [if_neg (by omega),h]
 congr 1
end Go.Proofs.YtffcklfigpmlgaaGreatDoor
namespace Go.Proofs.YtffcklfigpmlgaaGreatDoor
open Go.RowKit Go.Unit0 Go.AM

theorem NumsPost.nil {w:World} {wx:World} (hb:Below w.heap.size w wx) {l:List Int} (h:l = []):NumsPost l w (.returned (.slice none 0 0)) wx:=by
 subst h
 exact ⟨hb,none,0,rfl,fun k hk=>by simp at hk⟩
theorem UOk.nm {u:Unt} {fc:Nat} {r:Rsl} (k:UOk u fc r):(setB (fldNames u.h)).length≤240:=by
 have h1:=setB_len (fldNames u.h)
 have h2:(fldNames u.h).length≤u.h.length * 20:=fldNames_le (fun x hx=>(k.fit.c x hx).f)
 have:=k.fit.nc
 omega
set_option maxRecDepth 100000 in
set_option maxHeartbeats 8000000 in
theorem cellP41 (u:Unt) (ha:Option Addr) (hc:Nat) (fa:Option Addr) (fc:Nat) (r:Rsl) (p:RP) (s:Int) (fld:Str) (w:World) (h:ClssAt w ha u.h) (hf:FncsAt w fa u.fs) (hr:RslAt w p r) (hk:UOk u fc r) :
 Calls Tryz.prog 56 #[unV u ha hc fa fc,rsV r p,.int .i64 s,.string fld] w (NumsPost (celI u r s fld) w):=by
 have S0:Hid (URB u ha hc fa fc r p w _):=URB.start (hc:=hc) (fc:=fc) h hf hr
 have HSI:Hid (∀ w1,ClssAt w1 ha u.h→FncsAt w1 fa u.fs→Calls Tryz.prog 20 #[unV u ha hc fa fc] w1 (SitsPost (sitL u) w1)):=fun w1 h1 h2=>sitesP u ha hc fa fc w1 h1 h2 hk.fit
 have HFI:Hid (∀ w1,ClssAt w1 ha u.h→FncsAt w1 fa u.fs→Calls Tryz.prog 101 #[unV u ha hc fa fc] w1 (StrsPost (setB (fldNames u.h)) w1)):=fun w1 h1 h2=>fields30 u ha hc fa fc w1 h1 h2 (by have:=hk.fit.nc;omega) (fun x hx=>by have:=(hk.fit.c x hx).f;omega)
 have HNL:=Lib.hid hk.nm
 have HSL:=Lib.hid hk.sl
 have HCL:=Lib.hid hk.few.cl
 have HC0:=Lib.hid (@celI_0 u r s fld)
 have HC1:Hid (∀ (k i:Nat),s=(k:Int)→nmI (setB (fldNames u.h)) fld=(i:Int)→k < (sitL u).length→celI u r s fld=(r.cells[k * (setB (fldNames u.h)).length + i]?).getD []):=fun k i e h1 h2=>by rw [e];exact celI_at h1 h2
 have HBS:Hid (∀ (a:Option Addr) (c:Nat) w1,StrsAt w1 a (setB (fldNames u.h))→Calls Tryz.prog 102 #[.slice a (setB (fldNames u.h)).length c,.string fld] w1 (fun e w'=>Below w1.heap.size w1 w'∧∃ i:Int,e = .returned (.tuple #[.int .i64 i,.bool (decide (0≤nmI (setB (fldNames u.h)) fld))])∧(0≤nmI (setB (fldNames u.h)) fld→i=nmI (setB (fldNames u.h)) fld))):=fun a c w1 h1=>search41 _ fld a c w1 h1 (setB_asc _) (by have:=hk.nm;omega)
 have HIN:Hid (nmI (setB (fldNames u.h)) fld < (setB (fldNames u.h)).length):=by
  show _ < _
  rcases nmI_spec (setB (fldNames u.h)) fld with ⟨h1,_⟩ | ⟨j,hj,h1,_⟩ <;> omega
 clear h hf hr hk
 generalize celI u r s fld=L at *
 generalize nmI (setB (fldNames u.h)) fld=q at *
 generalize setB (fldNames u.h)=N at *
 generalize sitL u=SL at *
 unfold unV rsV at *
 go_enter Tryz.func56,Tryz.ntmps56
 go_upto_region 1 with (fail)
 generalize (w.alloc _).alloc _=W at *
 obtain ⟨⟨z0,z1,z2⟩,z3,z4,z5,z6⟩:=S0.out.now (Below.refl _ _)
 by_cases g1:s < 0
 case pos =>
  have t1:=decide_eq_true g1
  have HL:=Lib.hid (HC0.out (.inr (.inl g1)))
  clear g1
  go_wp2
  go_ret
  exact NumsPost.nil S0.out.ub.hb HL.out
 have t1:=decide_eq_false g1
 by_cases g2:(SL.length:Int)≤s
 case pos =>
  have t2:=decide_eq_true g2
  have HL:=Lib.hid (HC0.out (.inr (.inr g2)))
  clear g1 g2
  go_wp2_with (go_at_call 20;refine (HSI.out _ S0.out.ub.h S0.out.ub.f).mono ?_;rintro e w1 ⟨hb1,sa,sc,rfl,own1⟩)
  go_ret
  exact NumsPost.nil (S0.out.ub.hb.trans (hb1.mono S0.out.ub.hb.size)) HL.out
 have t2:=decide_eq_false g2
 obtain ⟨k,rfl⟩:∃ k:Nat,s=k:=⟨s.toNat,by omega⟩
 have hks:k < SL.length:=by omega
 clear g1 g2
 go_upto_region 3 with (go_at_call 20;refine (HSI.out _ S0.out.ub.h S0.out.ub.f).mono ?_;rintro e w1 ⟨hb1,sa,sc,rfl,own1⟩)
 have S1:=Lib.hid (S0.out.below hb1)
 clear S0 hb1 own1 HSI z0 z1 z2 z3 z4 z5 z6
 obtain ⟨⟨z0,z1,z2⟩,z3,z4,z5,z6⟩:=S1.out.now (Below.refl _ _)
 go_upto_region 4 with (go_at_call 101;refine (HFI.out _ S1.out.ub.h S1.out.ub.f).mono ?_;rintro e w2 ⟨hb2,la,lc,rfl,own2⟩)
 have HN2:=Lib.hid (owns_strs' own2).2
 have S2:=Lib.hid (S1.out.below hb2)
 clear S1 hb2 own2 HFI z0 z1 z2 z3 z4 z5 z6
 go_upto_region 5 with (go_at_call 102;refine (HBS.out la lc _ HN2.out).mono ?_;rintro e w3 ⟨hb3,i,rfl,hi⟩)
 have S3:=Lib.hid (S2.out.below hb3)
 have HI:=Lib.hid hi
 clear S2 hb3 HN2 HBS hi
 obtain ⟨⟨z0,z1,z2⟩,z3,z4,z5,z6⟩:=S3.out.now (Below.refl _ _)
 by_cases g3:0≤q
 case neg =>
  have t3:=decide_eq_false g3
  have HL:=Lib.hid (HC0.out (.inl (by omega)))
  clear g3
  go_wp2
  go_ret
  exact NumsPost.nil S3.out.ub.hb HL.out
 have t3:=decide_eq_true g3
 obtain rfl:=HI.out g3
 obtain ⟨j,rfl⟩:∃ j:Nat,i=j:=⟨i.toNat,by omega⟩
 have hjn:j < N.length:=by have:=HIN.out;omega
 have hnl:=HNL.out
 have hsl:=HSL.out
 have HL1:=Lib.hid (HC1.out k j rfl rfl hks)
 have hmb:k * N.length≤150 * 240:=Nat.mul_le_mul (by omega) hnl
 have hmc:((k:Int) * (N.length:Int))=((k * N.length:Nat):Int):=by simp
 clear HI HIN HNL HSL HC0 HC1 g3 hks
 generalize k * N.length=M at *
 have q1:IntKind.i64.wrap ((k:Int) * (N.length:Int))=(M:Int):=by rw [hmc];exact IntWalk.i64_in _ (by omega)
 by_cases g4:r.cells.length≤M + j
 case pos =>
  have t4:decide ((r.cells.length:Int)≤(M:Int) + (j:Int))=true:=decide_eq_true (by omega)
  have HL:Hid (L = []):=by show _=_;rw [HL1.out,List.getElem?_eq_none g4];rfl
  clear g4 hmc
  go_wp2
  go_ret
  exact NumsPost.nil S3.out.ub.hb HL.out
 have t4:decide ((r.cells.length:Int)≤(M:Int) + (j:Int))=false:=decide_eq_false (by omega)
 have hlt:M + j < r.cells.length:=by omega
 have HL:Hid (L=r.cells[M + j]):=by show _=_;rw [HL1.out,List.getElem?_eq_getElem hlt];rfl
 obtain ⟨b,off,xa,xc,he,c0,hi⟩:=S3.out.rb.m.c (M + j) hlt
 have hll:=HCL.out _ (List.getElem_mem hlt)
 rw [he] at z6
 rw [← HL.out] at c0 hi hll
 have HIX:=Lib.hid hi
 have HCO:Hid (∀ w1,IntsAt w1 xa L→Calls Tryz.prog 54 #[.slice xa L.length xc] w1 (IntsPost L w1)):=fun w1 h1=>cloneInt L xa xc w1 h1 (by omega)
 clear g4 he hi HL HL1 hmc
 have hn0:(0:Int)≤(M:Int) + (j:Int):=by omega
 have hnt:((M:Int) + (j:Int)).toNat=M + j:=by omega
 go_wp2_with (go_at_call 54;refine (HCO.out _ HIX.out).mono ?_;rintro e w2 ⟨hb2,qa,qc,rfl,own⟩)
 obtain ⟨-,_,_,he,-,hat⟩:=owns_ints own
 cases he
 have HA:=Lib.hid hat
 have HB:=Lib.hid (S3.out.ub.hb.trans (hb2.mono S3.out.ub.hb.size))
 clear own hat hb2 S3 HIX HCO z0 z1 z2 z3 z4 z5 z6 c0
 go_ret
 exact ⟨HB.out,qa,qc,rfl,HA.out⟩
set_option maxRecDepth 100000 in
set_option maxHeartbeats 8000000 in
theorem cellR41 (u:Unt) (ha:Option Addr) (hc:Nat) (fa:Option Addr) (fc:Nat) (r:Rsl) (p:RP) (s:Int) (fld:Str) (w:World) (h:ClssAt w ha u.h) (hf:FncsAt w fa u.fs) (hr:RslAt w p r) (hk:UOk u fc r) :
 Calls Tryz.prog 65 #[unV u ha hc fa fc,rsV r p,.int .i64 s,.string fld] w (NumsPost (celI u r s fld) w):=by
 have S0:Hid (URB u ha hc fa fc r p w _):=URB.start (hc:=hc) (fc:=fc) h hf hr
 have HSI:Hid (∀ w1,ClssAt w1 ha u.h→FncsAt w1 fa u.fs→Calls Tryz.prog 32 #[unV u ha hc fa fc] w1 (SitsPost (sitL u) w1)):=fun w1 h1 h2=>sitesR u ha hc fa fc w1 h1 h2 hk.fit
 have HFI:Hid (∀ w1,ClssAt w1 ha u.h→FncsAt w1 fa u.fs→Calls Tryz.prog 37 #[unV u ha hc fa fc] w1 (fun e w'=>Below w1.heap.size w1 w'∧∃ (a:Option Addr) (c:Nat),e = .returned (.slice a (setB (fldNames u.h)).length c))):=fun w1 h1 h2=>(fields31 u ha hc fa fc w1 h1 h2 (by have:=hk.fit.nc;omega) (fun x hx=>by have:=(hk.fit.c x hx).f;omega)).mono (by
  rintro e w' ⟨hb,l,a,c,rfl,_,hl⟩
  obtain rfl:=setB_ref hl
  exact ⟨hb,a,c,rfl⟩)
 have HIX:Hid (∀ w1,ClssAt w1 ha u.h→FncsAt w1 fa u.fs→Calls Tryz.prog 123 #[unV u ha hc fa fc,.string fld] w1 (Ret w1 (.int .i64 (nmI (setB (fldNames u.h)) fld)))):=fun w1 h1 h2=>index41 u ha hc fa fc fld w1 h1 h2 hk.fit
 have HNL:=Lib.hid hk.nm
 have HSL:=Lib.hid hk.sl
 have HC0:=Lib.hid (@celI_0 u r s fld)
 have HC1:Hid (∀ (k i:Nat),s=(k:Int)→nmI (setB (fldNames u.h)) fld=(i:Int)→k < (sitL u).length→celI u r s fld=(r.cells[k * (setB (fldNames u.h)).length + i]?).getD []):=fun k i e h1 h2=>by rw [e];exact celI_at h1 h2
 have HIN:Hid (nmI (setB (fldNames u.h)) fld < (setB (fldNames u.h)).length):=by
  show _ < _
  rcases nmI_spec (setB (fldNames u.h)) fld with ⟨h1,_⟩ | ⟨j,hj,h1,_⟩ <;> omega
 clear h hf hr hk
 generalize celI u r s fld=L at *
 generalize nmI (setB (fldNames u.h)) fld=q at *
 generalize setB (fldNames u.h)=N at *
 generalize sitL u=SL at *
 unfold unV rsV at *
 go_enter Tryz.func65,Tryz.ntmps65
 go_upto_region 1 with (fail)
 generalize (w.alloc _).alloc _=W at *
 obtain ⟨⟨z0,z1,z2⟩,z3,z4,z5,z6⟩:=S0.out.now (Below.refl _ _)
 go_upto_region 2 with (go_at_call 123;refine (HIX.out _ S0.out.ub.h S0.out.ub.f).mono ?_;rintro e w1 ⟨rfl,hb1⟩)
 have S1:=Lib.hid (S0.out.below hb1)
 clear S0 hb1 HIX z0 z1 z2 z3 z4 z5 z6
 obtain ⟨⟨z0,z1,z2⟩,z3,z4,z5,z6⟩:=S1.out.now (Below.refl _ _)
 by_cases g3:q < 0
 case pos =>
  have t3:=decide_eq_true g3
  have HL:=Lib.hid (HC0.out (.inl g3))
  clear g3
  go_wp2
  go_ret
  exact NumsPost.nil S1.out.ub.hb HL.out
 have t3:=decide_eq_false g3
 by_cases g1:s < 0
 case pos =>
  have t1:=decide_eq_true g1
  have HL:=Lib.hid (HC0.out (.inr (.inl g1)))
  clear g1 g3
  go_wp2
  go_ret
  exact NumsPost.nil S1.out.ub.hb HL.out
 have t1:=decide_eq_false g1
 by_cases g2:(SL.length:Int)≤s
 case pos =>
  have t2:=decide_eq_true g2
  have HL:=Lib.hid (HC0.out (.inr (.inr g2)))
  clear g1 g2 g3
  go_wp2_with (go_at_call 32;refine (HSI.out _ S1.out.ub.h S1.out.ub.f).mono ?_;rintro e w2 ⟨hb2,sa,sc,rfl,own1⟩)
  go_ret
  exact NumsPost.nil (S1.out.ub.hb.trans (hb2.mono S1.out.ub.hb.size)) HL.out
 have t2:=decide_eq_false g2
 obtain ⟨k,rfl⟩:∃ k:Nat,s=k:=⟨s.toNat,by omega⟩
 obtain ⟨j,rfl⟩:∃ j:Nat,q=j:=⟨q.toNat,by omega⟩
 have hks:k < SL.length:=by omega
 have hjn:j < N.length:=by have:=HIN.out;omega
 clear g1 g2 g3
 go_upto_region 4 with (go_at_call 32;refine (HSI.out _ S1.out.ub.h S1.out.ub.f).mono ?_;rintro e w2 ⟨hb2,sa,sc,rfl,own1⟩)
 have S2:=Lib.hid (S1.out.below hb2)
 clear S1 hb2 own1 HSI z0 z1 z2 z3 z4 z5 z6
 obtain ⟨⟨z0,z1,z2⟩,z3,z4,z5,z6⟩:=S2.out.now (Below.refl _ _)
 have hnl:=HNL.out
 have hsl:=HSL.out
 have HL1:=Lib.hid (HC1.out k j rfl rfl hks)
 have hmb:k * N.length≤150 * 240:=Nat.mul_le_mul (by omega) hnl
 have hmc:((k:Int) * (N.length:Int))=((k * N.length:Nat):Int):=by simp
 clear HIN HNL HSL HC0 HC1 hks
 generalize k * N.length=M at *
 have q1:IntKind.i64.wrap ((k:Int) * (N.length:Int))=(M:Int):=by rw [hmc];exact IntWalk.i64_in _ (by omega)
 clear hmc
 go_upto_region 5 with (go_at_call 37;refine (HFI.out _ S2.out.ub.h S2.out.ub.f).mono ?_;rintro e w3 ⟨hb3,la,lc,rfl⟩)
 have S3:=Lib.hid (S2.out.below hb3)
 clear S2 hb3 HFI z0 z1 z2 z3 z4 z5 z6
 obtain ⟨⟨z0,z1,z2⟩,z3,z4,z5,z6⟩:=S3.out.now (Below.refl _ _)
 by_cases g4:r.cells.length≤M + j
 case pos =>
  have t4:decide ((r.cells.length:Int)≤(M:Int) + (j:Int))=true:=decide_eq_true (by omega)
  have HL:Hid (L = []):=by show _=_;rw [HL1.out,List.getElem?_eq_none g4];rfl
  clear g4
  go_wp2
  go_ret
  exact NumsPost.nil S3.out.ub.hb HL.out
 have t4:decide ((r.cells.length:Int)≤(M:Int) + (j:Int))=false:=decide_eq_false (by omega)
 have hlt:M + j < r.cells.length:=by omega
 have HL:Hid (L=r.cells[M + j]):=by show _=_;rw [HL1.out,List.getElem?_eq_getElem hlt];rfl
 obtain ⟨b,off,xa,xc,he,c0,hi⟩:=S3.out.rb.m.c (M + j) hlt
 rw [he] at z6
 rw [← HL.out] at c0 hi
 have HIX:=Lib.hid hi
 clear g4 he hi HL HL1
 have hn0:(0:Int)≤(M:Int) + (j:Int):=by omega
 have hnt:((M:Int) + (j:Int)).toNat=M + j:=by omega
 go_wp2
 go_ret
 exact ⟨S3.out.ub.hb,xa,xc,rfl,HIX.out⟩
end Go.Proofs.YtffcklfigpmlgaaGreatDoor
namespace Go.Proofs.YtffcklfigpmlgaaGreatDoor
open Go.RowKit Go.Unit0 Go.AM

theorem app_intsB {ops:Array Oper} {rest:List Oper} {o:Oper} {a:Act} {Q:Exit→Act→World→Prop} {w:World} (hgd:o.guard=none) (s x:Operand)
 (ho:o.op = .call { callee:=.builtin .append,args:=#[s,x],argTypes:=#[28,28] })
 (base:Nat) (v:Value) (l:List Int) (hs:a.eval s=v) (hown:w.ownsRow base 3 1 v l.length (l.map intV))
 (ad:Option Addr) (c:Nat) (m:List Int) (hx:a.eval x = .slice ad m.length c) (hat:IntsAt w ad m)
 (hn:l.length≤20000000) (hm:m.length≤1000000) (hbase:base≤w.heap.size)
 (h:∀ v' w',w'.ownsRow base 3 1 v' (l ++ m).length ((l ++ m).map intV)→w.grownBy w' v.ownBlock→wpList Tryz.prog ops Q rest (a.put o.dst v') w'):wpList Tryz.prog ops Q (o :: rest) a w:=by
 obtain ⟨i0,hi,hz0,hz1,hz2⟩:=info_parts infoI
 cases ad with
 | none =>
   have hm0:m = []:=by
    cases m with
    | nil=>rfl
    | cons y m=>obtain ⟨_,_,he,_⟩:=hat 0 (by simp);cases he
   subst hm0
   refine wpList_plain hgd fun K hK=>?_
   have hrun:∀ ty,(Builtin.append_ #[28,28] ty #[v,.slice none 0 c]).run Tryz.prog w = .ok v w:=fun ty=>by
    rcases hown.2 with ⟨rfl,_⟩ | ⟨g,cap,cur,rfl,_,_,hnc,_⟩
    ·simp [Builtin.append_,run_underlying Tryz.underlying28,sizeOf,typeInfo,hi,Builtin.lenOf,Builtin.firstCells]
    ·simp [Builtin.append_,run_underlying Tryz.underlying28,sizeOf,typeInfo,hi,Builtin.lenOf,Builtin.firstCells,hnc,storeCells]
   unfold Oper.wp
   simp [execOp,ho,resolve,invoke,builtin,hs,hx,hrun,Result.andThen]
   exact hK _ _ (h v w (by simpa using hown) (World.grownBy.refl w _))
 | some adr =>
   refine wpList_append_own w hgd s x 28 ho base 3 i0 (.int .i64 0) 1 8 Tryz.underlying28 hi hz0 hz1 hz2 rfl (by decide) v l.length (l.map intV) hs hown adr m.length c (m.map intV) hx (by simp) ?_ (by intro u hu;obtain ⟨y,_,rfl⟩:=List.mem_map.1 hu;rfl) (by unfold maxLen;omega) (by omega) hbase ?_
   ·intro j u hu
    obtain ⟨hj,rfl⟩:=List.getElem?_eq_some_iff.1 hu
    rw [List.length_map] at hj
    obtain ⟨b,off,he,hc⟩:=hat j hj
    cases he
    rw [addr_add,hc]
    simp [intV]
   ·intro v' w' h1 h2 _
    refine h v' w' ?_ h2
    rw [List.map_append,List.length_append]
    exact h1
theorem celI_len {u:Unt} {fc:Nat} {r:Rsl} (k:UOk u fc r) (s:Int) (f:Str):(celI u r s f).length≤4000:=by
 unfold celI
 split
 ·simp
 ·cases h:r.cells[(s * ((setB (fldNames u.h)).length:Int) + nmI (setB (fldNames u.h)) f).toNat]? with
  | none=>simp
  | some l =>
    obtain ⟨hi,rfl⟩:=List.getElem?_eq_some_iff.1 h
    simpa using k.few.cl _ (List.getElem_mem hi)
theorem nxtL_len {u:Unt} {fc:Nat} {r:Rsl} (k:UOk u fc r):∀ L:List Cel,(nxtL u r L).length≤L.length * 4000
 | []=>by simp [nxtL]
 | c :: L=>by
   have e:nxtL u r (c :: L)=celI u r c.s c.f ++ nxtL u r L:=by simp [nxtL]
   have h1:=nxtL_len k L
   have h2:=celI_len k c.s c.f
   rw [e,List.length_append,List.length_cons]
   omega
structure FW41 (g:Nat) (A:Array Value) (X:List Cel) (xa:Option Addr) (xc:Nat) (Y:List Int) (ya:Option Addr) (yc:Nat) (W wr:World):Prop where
 hb:Below W.heap.size W wr
 b1:Blk wr g A 65
 ox:wr.ownsRow W.heap.size 61 2 (.slice xa X.length xc) X.length (flatCe X)
 oy:wr.ownsRow W.heap.size 3 1 (.slice ya Y.length yc) Y.length (Y.map intV)
theorem owns_keep2 {wr w':World} {e1 e2 s1 s2 n1 n2 base base2:Nat} {v1 v2:Value} {x1 x2:List Value} (h1:wr.ownsRow base e1 s1 v1 n1 x1) (h2:wr.ownsRow base2 e2 s2 v2 n2 x2) (hne:e1 ≠ e2) (hg:wr.grownBy w' v2.ownBlock):w'.ownsRow base e1 s1 v1 n1 x1:=by
 refine h1.kept hg ?_
 rcases h1.2 with ⟨rfl,_⟩ | ⟨g1,c1,cu1,rfl,_,hh1,_⟩
 ·exact .inl rfl
 ·exact .inr (owns_ne h2 hh1 hne)
section
variable {g:Nat} {A:Array Value} {X X':List Cel} {xa xa':Option Addr} {xc xc':Nat} {Y Y':List Int} {ya ya':Option Addr} {yc yc':Nat} {W wr w':World}
theorem FW41.below (k:FW41 g A X xa xc Y ya yc W wr) (hb:Below wr.heap.size wr w'):FW41 g A X xa xc Y ya yc W w' :=
 ⟨k.hb.trans (hb.mono k.hb.size),k.b1.below hb,owns_below k.ox hb,owns_below k.oy hb⟩
theorem FW41.growX (k:FW41 g A X xa xc Y ya yc W wr) (own:w'.ownsRow W.heap.size 61 2 (.slice xa' X'.length xc') X'.length (flatCe X')) (hg:wr.grownBy w' (Value.slice xa X.length xc).ownBlock):FW41 g A X' xa' xc' Y ya yc W w' :=
 ⟨grow_below k.hb k.ox hg,k.b1.grown hg (owns_ne k.ox k.b1 (by decide)),own,owns_keep2 k.oy k.ox (by decide) hg⟩
theorem FW41.growY (k:FW41 g A X xa xc Y ya yc W wr) (own:w'.ownsRow W.heap.size 3 1 (.slice ya' Y'.length yc') Y'.length (Y'.map intV)) (hg:wr.grownBy w' (Value.slice ya Y.length yc).ownBlock):FW41 g A X xa xc Y' ya' yc' W w' :=
 ⟨grow_below k.hb k.oy hg,k.b1.grown hg (owns_ne k.oy k.b1 (by decide)),owns_keep2 k.ox k.oy (by decide) hg,own⟩
end
theorem hp_cells {g:Nat} {u:Unt} {ha:Option Addr} {hc:Nat} {fa:Option Addr} {fc:Nat} {r:Rsl} {p:RP} {sa:Option Addr} {sc n:Nat} {W o:World} (k:Blk W g (hpA u ha hc fa fc r p sa sc n) 65) (hb:Below W.heap.size W o) :
 (o.cell? ⟨g,0,none⟩=some (.slice ha u.h.length hc)∧o.cell? ⟨g,1,none⟩=some (.slice fa u.fs.length fc)∧o.cell? ⟨g,2,none⟩=some (.int .i64 u.main)) ∧
 (o.cell? ⟨g,3,none⟩=some (.slice p.ra r.reached p.rc)∧o.cell? ⟨g,4,none⟩=some (.slice p.ca r.calls.length p.cc)∧o.cell? ⟨g,5,none⟩=some (.slice p.va r.vars.length p.vc)∧o.cell? ⟨g,6,none⟩=some (.slice p.xa r.cells.length p.xc))∧o.cell? ⟨g,7,none⟩=some (.slice sa n sc):=by
 have k':=k.below hb
 exact ⟨⟨k'.cell 0 (by simp [hpA]),k'.cell 1 (by simp [hpA]),k'.cell 2 (by simp [hpA])⟩,⟨k'.cell 3 (by simp [hpA]),k'.cell 4 (by simp [hpA]),k'.cell 5 (by simp [hpA]),k'.cell 6 (by simp [hpA])⟩,k'.cell 7 (by simp [hpA])⟩
theorem fieldRet (h:List Cls) (c f:Str) (a:Option Addr) (n:Nat) (hl:h.length≤100000) (hm:∀ x ∈ h,x.fields.length≤100000):∃ s1 s2,∀ w1,ClssAt w1 a h →
 Calls Tryz.prog 55 #[.agg #[.slice a h.length n],.string c,.string f] w1 (Ret w1 (.tuple #[.string s1,.string s2,.bool (fieldP h c f).isSome])):=by
 cases hf:fieldP h c f with
 | none =>
   refine ⟨⟨#[]⟩,⟨#[]⟩,fun w1 h1=>(fieldP86 h c f a n w1 h1 hl hm).mono ?_⟩
   rintro e w' ⟨hb,hp⟩
   rw [hf] at hp
   rcases hp with ⟨_,rfl⟩ | ⟨x,g,hx,_⟩
   ·exact ⟨rfl,hb⟩
   ·cases hx
 | some q =>
   refine ⟨q.1,q.2.type,fun w1 h1=>(fieldP86 h c f a n w1 h1 hl hm).mono ?_⟩
   rintro e w' ⟨hb,hp⟩
   rw [hf] at hp
   rcases hp with ⟨hx,_⟩ | ⟨x,g,hx,rfl⟩
   ·cases hx
   ·cases hx;exact ⟨rfl,hb⟩
def FolPost (X:List Cel) (Y:List Int) (w:World) (e:Ending) (w':World):Prop:=Below w.heap.size w w'∧∃ (xa:Option Addr) (xc:Nat) (ya:Option Addr) (yc:Nat),e = .returned (.tuple #[.slice xa X.length xc,.slice ya Y.length yc]) ∧
 w'.ownsRow w.heap.size 61 2 (.slice xa X.length xc) X.length (flatCe X)∧w'.ownsRow w.heap.size 3 1 (.slice ya Y.length yc) Y.length (Y.map intV)
set_option maxRecDepth 100000 in
set_option maxHeartbeats 16000000 in
theorem follow41 (u:Unt) (ha:Option Addr) (hc:Nat) (fa:Option Addr) (fc:Nat) (r:Rsl) (p:RP) (sa:Option Addr) (sc:Nat) (S:List Int) (la:Option Addr) (lc:Nat) (fld:Str) (w:World) (h:ClssAt w ha u.h) (hf:FncsAt w fa u.fs) (hr:RslAt w p r) (hs:SitsAt w sa (sitL u)) (hL:IntsAt w la S) (hll:S.length≤150) (hin:∀ x ∈ S,inN (sitL u).length x=true) (hk:UOk u fc r) :
 Calls Tryz.prog 23 #[hpV u ha hc fa fc r p sa sc (sitL u).length,.slice la S.length lc,.string fld] w (FolPost (cfL u fld S) (conL u r (cfL u fld S)) w):=by
 have HM:Hid (ClssAt (w.alloc (hpC u ha hc fa fc r p sa sc (sitL u).length)) ha u.h∧FncsAt (w.alloc (hpC u ha hc fa fc r p sa sc (sitL u).length)) fa u.fs∧RslAt (w.alloc (hpC u ha hc fa fc r p sa sc (sitL u).length)) p r∧SitsAt (w.alloc (hpC u ha hc fa fc r p sa sc (sitL u).length)) sa (sitL u)∧IntsAt (w.alloc (hpC u ha hc fa fc r p sa sc (sitL u).length)) la S):=⟨h.below (one_below ..),hf.below (one_below ..),hr.below (one_below ..),hs.below (one_below ..),hL.below (one_below ..)⟩
 have B0:Hid (FW41 w.heap.size (hpA u ha hc fa fc r p sa sc (sitL u).length) [] none 0 [] none 0 (w.alloc (hpC u ha hc fa fc r p sa sc (sitL u).length)) (w.alloc (hpC u ha hc fa fc r p sa sc (sitL u).length))):=⟨Below.refl _ _,blk_new ..,World.ownsRow_nil _ _ _ _,World.ownsRow_nil _ _ _ _⟩
 have HB0:=Lib.hid (one_below w (hpC u ha hc fa fc r p sa sc (sitL u).length))
 have HZ:Hid (w.heap.size < (w.alloc (hpC u ha hc fa fc r p sa sc (sitL u).length)).heap.size):=by show _ < _;simp
 have HCE:Hid (∀ (s:Int) w1,ClssAt w1 ha u.h→FncsAt w1 fa u.fs→RslAt w1 p r→Calls Tryz.prog 56 #[unV u ha hc fa fc,rsV r p,.int .i64 s,.string fld] w1 (NumsPost (celI u r s fld) w1)):=fun s w1 h1 h2 h3=>cellP41 u ha hc fa fc r p s fld w1 h1 h2 h3 hk
 have HKN:Hid (∀ (L:List Int) (a:Option Addr) (c:Nat) w1,IntsAt w1 a L→L.length≤1000000→Calls Tryz.prog 21 #[hpV u ha hc fa fc r p sa sc (sitL u).length,.slice a L.length c] w1 (IntsPost (knoL (sitL u).length L) w1)):=fun L a c w1 h1 h2=>known41 u ha hc fa fc r p sa sc (sitL u).length L a c w1 h1 h2
 have HFR:Hid (∀ c,∃ s1 s2,∀ w1,ClssAt w1 ha u.h→Calls Tryz.prog 55 #[.agg #[.slice ha u.h.length hc],.string c,.string fld] w1 (Ret w1 (.tuple #[.string s1,.string s2,.bool (fieldP u.h c fld).isSome]))):=fun c=>fieldRet u.h c fld ha hc hk.hh hk.hf
 have HIN:=Lib.hid hin
 have HXL:Hid (∀ k,(cfL u fld (S.take k)).length≤S.length):=fun k=>Nat.le_trans (celL_len _ _ _ _) (by simp;omega)
 have HYL:Hid (∀ k,(nxtL u r (cfL u fld (S.take k))).length≤600000):=fun k=>by
  have h1:=nxtL_len hk (cfL u fld (S.take k))
  have h2:(cfL u fld (S.take k)).length≤S.length:=Nat.le_trans (celL_len _ _ _ _) (by simp;omega)
  omega
 have HCL:Hid (∀ s,(celI u r s fld).length≤4000):=fun s=>celI_len hk s fld
 have HAF:Hid (∀ k (hk:k < S.length),fldB u.h (sitL u) fld S[k]=false→cfL u fld (S.take (k + 1))=cfL u fld (S.take k)):=fun k hk e=>by rw [take_snoc hk];exact celL_f e
 have HAT:Hid (∀ k (hk:k < S.length),fldB u.h (sitL u) fld S[k]=true→cfL u fld (S.take (k + 1))=cfL u fld (S.take k) ++ [⟨S[k],fld⟩]):=fun k hk e=>by rw [take_snoc hk];exact celL_t e
 have HE:Hid (cfL u fld (S.take S.length)=cfL u fld S):=by show _=_;rw [List.take_length]
 have HNX:Hid (∀ (L:List Cel) (c:Cel),nxtL u r (L ++ [c])=nxtL u r L ++ celI u r c.s c.f):=fun L c=>nxtL_snoc u r L c
 have HCO:Hid (∀ L,conL u r L=knoL (sitL u).length (nxtL u r L)):=fun L=>rfl
 have HFB:Hid (∀ (j:Nat) (hj:j < (sitL u).length),fldB u.h (sitL u) fld (j:Int)=(fieldP u.h (sitL u)[j].c fld).isSome):=fun j hj=>fldB_at hj
 have HX0:Hid (cfL u fld (S.take 0) = []):=rfl
 have HN0:Hid (nxtL u r [] = []):=rfl
 clear h hf hr hs hL hin hk
 rw [HCO.out]
 clear HCO
 generalize cfL u fld S=XR at *
 obtain ⟨G,hG⟩:∃ G:Nat→List Cel,G=fun k=>cfL u fld (S.take k):=⟨_,rfl⟩
 have HG:Hid (∀ k,cfL u fld (S.take k)=G k):=fun k=>by rw [hG]
 clear hG
 simp only [HG.out] at HXL HYL HAF HAT HE HX0
 clear HG
 generalize fldB u.h (sitL u) fld=FB at *
 generalize nxtL u r=NX at *
 generalize sitL u=SL at *
 generalize celI u r=CI at *
 unfold hpV hpC unV rsV at *
 go_enter Tryz.func23,Tryz.ntmps23
 go_upto_region 1 with (fail)
 generalize w.alloc _=W at *
 go_wp2
 go_loopw [6,7,15] (fun v6 v7 i wr=>∃ (k:Nat) (xa:Option Addr) (xc:Nat) (ya:Option Addr) (yc:Nat),k≤S.length∧v6 = .slice xa (G k).length xc∧v7 = .slice ya (NX (G k)).length yc∧i = .int .i64 k∧Hid (FW41 w.heap.size (hpA u ha hc fa fc r p sa sc SL.length) (G k) xa xc (NX (G k)) ya yc W wr)) (fun _ _ i _=>S.length - (intOf i).toNat)
 case atStart=>exact ⟨0,none,0,none,0,Nat.zero_le _,by rw [HX0.out];rfl,by rw [HX0.out,HN0.out];rfl,rfl,by rw [HX0.out,HN0.out];exact B0.out⟩
 case round =>
  clear B0 HX0 HN0
  obtain ⟨k,xa,xc,ya,yc,hk,rfl,rfl,rfl,B⟩:=hrel
  have hxl:=HXL.out k
  have hyl:=HYL.out k
  by_cases hlt:k < S.length
  case neg =>
   obtain rfl:k=S.length:=by omega
   rw [HE.out] at B hxl hyl ⊢
   have HKN1:=Lib.hid (HKN.out (NX XR) ya yc wr (owns_ints' B.out.oy).2 (by omega))
   obtain ⟨⟨z0,z1,z2⟩,⟨z3,z4,z5,z6⟩,z7⟩:=hp_cells B.out.b1 (Below.refl _ _)
   clear HKN HAF HAT HCE HFR HNX HFB HIN HM
   unfold hpA at *
   go_wp2_with (go_at_call 21;refine HKN1.out.mono ?_;rintro e w1 ⟨hb1,ka,kc,rfl,own1⟩)
   have B1:=Lib.hid (B.out.below hb1)
   have O1:=Lib.hid own1
   have hww:=B.out.hb.size
   clear B own1 hb1 z0 z1 z2 z3 z4 z5 z6 z7 HKN1
   refine bodyPost_ret (v:=.tuple #[.slice xa XR.length xc,.slice ka (knoL SL.length (NX XR)).length kc]) (by simp [results,Tryz.results23,go_sem]) rfl ?_
   exact ⟨HB0.out.trans (B1.out.hb.mono HB0.out.size),xa,xc,ka,kc,rfl,owns_mono B1.out.ox (Nat.le_of_lt HZ.out),owns_mono O1.out (by have:=HZ.out;omega)⟩
  obtain ⟨b1,o1,he,p1⟩:=(HM.out.2.2.2.2.below B.out.hb) k hlt
  subst he
  obtain ⟨j,hjs⟩:∃ j:Nat,S[k]=j:=⟨S[k].toNat,by have:=inN_iff.1 (HIN.out _ (List.getElem_mem hlt));omega⟩
  have hj:j < SL.length:=by have:=inN_iff.1 (HIN.out _ (List.getElem_mem hlt));omega
  have HAF1:=Lib.hid (HAF.out k hlt)
  have HAT1:=Lib.hid (HAT.out k hlt)
  rw [hjs] at HAF1 HAT1 p1
  rw [HFB.out j hj] at HAF1 HAT1
  clear hjs
  obtain ⟨b2,o2,he,q0,q1,q2⟩:=(HM.out.2.2.2.1.below B.out.hb) j hj
  obtain ⟨⟨z0,z1,z2⟩,⟨z3,z4,z5,z6⟩,z7⟩:=hp_cells B.out.b1 (Below.refl _ _)
  subst he
  obtain ⟨s1,s2,hfr⟩:=HFR.out SL[j].c
  have HF1:Hid (∀ o:WB wr,Calls Tryz.prog 55 #[.agg #[.slice ha u.h.length hc],.string SL[j].c,.string fld] o.u (Ret o.u (.tuple #[.string s1,.string s2,.bool (fieldP u.h SL[j].c fld).isSome]))):=fun o=>hfr _ ((HM.out.1.below B.out.hb).below o.h)
  generalize (fieldP u.h SL[j].c fld).isSome=d at *
  generalize SL[j].c=cls at *
  clear hfr q0 q1
  go_upto_region 4 with (fail)
  have k0:∀ o:WB wr,o.u.cell? ⟨w.heap.size,0,none⟩=some (.slice ha u.h.length hc):=fun o=>cell_below o.h z0
  have k7:∀ o:WB wr,o.u.cell? ⟨w.heap.size,7,none⟩=some (.slice (some ⟨b2,o2,none⟩) SL.length sc):=fun o=>cell_below o.h z7
  have k9:∀ o:WB wr,o.u.cell? ⟨b2,o2 + j * 3 + 2,none⟩=some (.string cls):=fun o=>cell_below o.h q2
  have hne:Nonempty (WB wr):=⟨⟨wr,Below.refl _ _⟩⟩
  clear z0 z1 z2 z3 z4 z5 z6 z7 q2 p1
  refine wp_region_WB wr (by kernel_rfl) ?_
  repeat (go_big_quiet_step ((rename_i o;exact (HF1.out o).mono (fun _ _ h=>Ret.inB h))))
  refine wpQuiet_nil ?_
  intro _ hw'
  obtain ⟨o,rfl⟩:=hw'
  have B1:=Lib.hid (B.out.below o.h)
  clear B k0 k7 k9 HF1
  generalize o.u=w1 at *
  cases d
  case false =>
   have HN:=Lib.hid (HAF1.out rfl)
   go_wp2
   go_roundw
   case rel=>exact ⟨k + 1,xa,xc,ya,yc,by omega,by rw [HN.out],by rw [HN.out],by go_num,by rw [HN.out];exact B1.out⟩
   case measure=>simp [intOf];omega
  have HN:=Lib.hid (HAT1.out rfl)
  have HNN:Hid (NX (G (k + 1))=NX (G k) ++ CI (j:Int) fld):=by show _=_;rw [HN.out,HNX.out]
  have BC:Hid (Blk (w1.alloc (.cells #[.int .i64 j,.string fld] 61)) w1.heap.size #[.int .i64 j,.string fld] 61):=blk_new ..
  have B2:=Lib.hid (B1.out.below (one_below w1 (.cells #[.int .i64 j,.string fld] 61)))
  have hbs2:=B2.out.hb.size
  have hx1:(G k).length≤1000000:=by omega
  go_upto_region 7 with (at_builtin;refine appCe rfl _ _ rfl W.heap.size _ (G k) rfl B2.out.ox w1.heap.size ⟨(j:Int),fld⟩ rfl BC.out hx1 hbs2 ?_;intro v7 W7 own7 hg7;obtain ⟨-,xa7,xc7,rfl,-,-⟩:=ownsCe own7)
  rw [← HN.out] at own7
  have B7:=Lib.hid (B2.out.growX own7 hg7)
  clear B1 B2 BC own7 hg7 HAF1 HAT1
  obtain ⟨⟨z0,z1,z2⟩,⟨z3,z4,z5,z6⟩,z7⟩:=hp_cells B7.out.b1 (Below.refl _ _)
  have HC1:=Lib.hid (HCE.out (j:Int) _ (HM.out.1.below B7.out.hb) (HM.out.2.1.below B7.out.hb) (HM.out.2.2.1.below B7.out.hb))
  have hcl:=HCL.out (j:Int)
  generalize CI (j:Int) fld=cl at *
  have HAP:Hid (∀ (w8:World) (qa:Option Addr) (qc:Nat),Below W7.heap.size W7 w8→FW41 w.heap.size (hpA u ha hc fa fc r p (some ⟨b2,o2,none⟩) sc SL.length) (G (k + 1)) xa7 xc7 (NX (G k)) ya yc W w8):=fun w8 qa qc hb=>B7.out.below hb
  go_wp2_with (first | (go_at_call 56;refine HC1.out.mono ?_;rintro e w8 ⟨hb8,qa,qc,rfl,hat8⟩;have B8:=Lib.hid (HAP.out w8 qa qc hb8);have hbs8:=B8.out.hb.size;have A8:=Lib.hid hat8;clear hb8 hat8) | (at_builtin;refine app_ints rfl _ _ rfl W.heap.size _ (NX (G k)) rfl B8.out.oy qa qc cl rfl A8.out (by omega) (by omega) hbs8 ?_;intro v9 W9 own9 hg9;obtain ⟨-,ya9,yc9,rfl,-,-⟩:=owns_ints own9))
  rw [← HNN.out] at own9
  have B9:=Lib.hid (B8.out.growY own9 hg9)
  clear B7 B8 A8 HAP HC1 own9 hg9 z0 z1 z2 z3 z4 z5 z6 z7
  go_roundw
  case rel=>exact ⟨k + 1,xa7,xc7,ya9,yc9,by omega,(by rw [HN.out];simp),(by rw [HNN.out];simp),by go_num,B9.out⟩
  case measure=>simp [intOf];omega
end Go.Proofs.YtffcklfigpmlgaaGreatDoor
