/-
  Aliases, by the program and by the reference.
-/
import Derived.Test.YthbialnddkboiaaGreatDoorXE
namespace Go.Proofs.YthbialnddkboiaaGreatDoor
open Go.RowKit Go.Unit0 Go.AM

def aliB (n:Nat) (L1 L2:List Int):Bool:=L2.any (fun s=>decide (s ∈ L1∧0≤s∧s < (n:Int)))
theorem aliB_iff {n:Nat} {L1 L2:List Int}:aliB n L1 L2=true ↔ ∃ s ∈ L2,s ∈ L1∧0≤s∧s < (n:Int):=by
 unfold aliB
 rw [List.any_eq_true]
 simp
def aliF (n:Nat) (l:List Int) (k:Int):Option Value:=if k ∈ l then some (.bool (decide (0≤k∧k < (n:Int)))) else none
theorem aliF_nil (n:Nat):(fun _:Int=>(none:Option Value))=aliF n []:=by funext k;simp [aliF]
theorem aliF_snoc (n:Nat) (l:List Int) (s:Int):(fun k'=>if k' = s then some (.bool (decide (0≤s∧s < (n:Int)))) else aliF n l k')=aliF n (l ++ [s]):=by
 funext k
 unfold aliF
 by_cases h:k=s
 ·subst h;simp
 ·simp [h]
theorem aliF_get (n:Nat) (l:List Int) (s:Int):(aliF n l s).getD (.bool false) = .bool (decide (s ∈ l∧0≤s∧s < (n:Int))):=by
 unfold aliF
 by_cases h:s ∈ l
 ·simp [h]
 ·simp [h]
set_option maxRecDepth 100000 in
set_option maxHeartbeats 8000000 in
theorem aliasP13 (u:Unt) (ha:Option Addr) (hc:Nat) (fa:Option Addr) (fc:Nat) (r:Rsl) (p:RP) (f v g x:Int) (w:World) (h:ClssAt w ha u.h) (hf:FncsAt w fa u.fs) (hr:RslAt w p r) (hk:UOk u fc r) :
 Calls Tryz.prog 9 #[unV u ha hc fa fc,rsV r p,.int .i64 f,.int .i64 v,.int .i64 g,.int .i64 x] w (Ret w (.bool (aliB (sitL u).length (ofP u r f v) (ofP u r g x)))):=by
 have S0:Hid (URB u ha hc fa fc r p w _):=URB.start (hc:=hc) (fc:=fc) h hf hr
 have HZ:Hid (((w.alloc (unC u ha hc fa fc)).alloc (rsC r p)).heap.size=w.heap.size + 2):=by show _=_;simp
 have HM:Hid (ClssAt w ha u.h∧FncsAt w fa u.fs∧RslAt w p r):=⟨h,hf,hr⟩
 have HOF:Hid (∀ (f v:Int) w1,ClssAt w1 ha u.h→FncsAt w1 fa u.fs→RslAt w1 p r→Calls Tryz.prog 24 #[unV u ha hc fa fc,rsV r p,.int .i64 f,.int .i64 v] w1 (NumsPost (ofP u r f v) w1)):=fun f v w1 h1 h2 h3=>ofP25 u ha hc fa fc r p f v w1 h1 h2 h3 hk.hl hk.cap hk.hv hk.few
 have HSI:Hid (∀ w1,ClssAt w1 ha u.h→FncsAt w1 fa u.fs→Calls Tryz.prog 22 #[unV u ha hc fa fc] w1 (SitsPost (sitL u) w1)):=fun w1 h1 h2=>sitesP u ha hc fa fc w1 h1 h2 hk.fit
 have hl1:=hk.ofl f v
 have hl2:=hk.ofl g x
 have hsl:=hk.sl
 have HO1:=Lib.hid (HOF.out f v)
 have HO2:=Lib.hid (HOF.out g x)
 have HR:Hid (∀ b:Bool,(b=true ↔ ∃ s ∈ ofP u r g x,s ∈ ofP u r f v∧0≤s∧s < ((sitL u).length:Int))→aliB (sitL u).length (ofP u r f v) (ofP u r g x)=b):=fun b hb=>by
  rw [Bool.eq_iff_iff,aliB_iff,hb]
 clear h hf hr hk HOF
 generalize aliB (sitL u).length (ofP u r f v) (ofP u r g x)=R at *
 generalize ofP u r f v=L1 at *
 generalize ofP u r g x=L2 at *
 generalize sitL u=SL at *
 unfold unV rsV at *
 go_enter Tryz.func9,Tryz.ntmps9
 go_upto_region 1 with (fail)
 have hW2:=HZ.out
 clear HZ
 generalize (w.alloc _).alloc _=W at *
 obtain ⟨⟨z0,z1,z2⟩,z3,z4,z5,z6⟩:=S0.out.now (Below.refl _ _)
 go_upto_region 2 with (go_at_call 22;refine (HSI.out _ S0.out.ub.h S0.out.ub.f).mono ?_;rintro e w1 ⟨hb1,sa,sc,rfl,own1⟩)
 have S1:=Lib.hid (S0.out.below hb1)
 have hgm:w.heap.size + 2≤w1.heap.size:=by have:=hb1.size;omega
 clear S0 own1 hb1 HSI z0 z1 z2 z3 z4 z5 z6 hW2
 go_upto_region 3 with (refine wpList_makeF rfl 76 rfl undMIB (Value.int .i64) ?_;intro hmp)
 have S2:=Lib.hid (S1.out.below (one_below w1 (.map #[] 0)))
 have HMP:=Lib.hid hmp
 clear S1 hmp
 generalize w1.heap.size=gm at *
 generalize w1.alloc (.map #[] 0)=W2 at *
 obtain ⟨⟨z0,z1,z2⟩,z3,z4,z5,z6⟩:=S2.out.now (Below.refl _ _)
 go_wp2_with (go_at_call 24;refine (HO1.out _ S2.out.ub.h S2.out.ub.f S2.out.rb.m).mono ?_;rintro e W3 ⟨hb3,la,lc,rfl,hat⟩)
 have S3:=Lib.hid (S2.out.below hb3)
 have M3:Hid (MapF W3 gm (Value.int .i64) (aliF SL.length []) 0):=by rw [← aliF_nil];exact HMP.out.below hb3
 have HI3:Hid (∀ wx,W3.grownBy wx (some gm)→IntsAt wx la L1):=fun wx hx k hk=>by
  obtain ⟨b,off,he,c0⟩:=hat k hk
  exact ⟨b,off,he,hx.cell c0 (cell_mapF c0 M3.out)⟩
 have HU3:Hid (∀ wx,W3.grownBy wx (some gm)→URB u ha hc fa fc r p w wx):=fun wx hx=>S3.out.grow HM.out.1 HM.out.2.1 HM.out.2.2 hx (fun q hq=>by cases hq;omega)
 have HT:Hid (∀ k (hk:k < L1.length),L1.take (k + 1)=L1.take k ++ [L1[k]]):=fun k hk=>take_snoc hk
 clear S2 S3 HMP hb3 hat HO1 z0 z1 z2 z3 z4 z5 z6
 go_loopw [29] (fun i wr=>∃ (k m:Nat),k≤L1.length∧i = .int .i64 k∧Hid (W3.grownBy wr (some gm))∧Hid (MapF wr gm (Value.int .i64) (aliF SL.length (L1.take k)) m)) (fun i _=>L1.length - (intOf i).toNat)
 case atStart=>exact ⟨0,0,Nat.zero_le _,rfl,World.grownBy.refl _ _,M3.out⟩
 case round =>
  clear M3
  obtain ⟨k,m,hk,rfl,HG,HP⟩:=hrel
  by_cases hlt:k < L1.length
  case pos =>
   obtain ⟨b1,o1,he,p1⟩:=HI3.out _ HG.out k hlt
   subst he
   have HTK:=Lib.hid (HT.out k hlt)
   have HSN:=Lib.hid (aliF_snoc SL.length (L1.take k) L1[k])
   rw [← HTK.out] at HSN
   clear HTK
   generalize L1[k]=s at *
   by_cases h1:0≤s
   case neg =>
    have t1:decide (0≤s)=false:=decide_eq_false h1
    rw [decide_eq_false (show ¬ (0≤s∧s < (SL.length:Int)) from fun e=>h1 e.1)] at HSN
    clear h1
    go_wp2_with (refine wpList_mapF rfl _ _ _ _ rfl keyInt undMIB gm rfl HP.out s rfl (.bool false) rfl ?_;intro w7 hm7 hg7 hs7)
    rw [HSN.out] at hm7
    have HG7:=Lib.hid (grown_grown HG.out hg7 (fun q hq=>.inr hq))
    have HP7:=Lib.hid hm7
    clear hm7 hg7 hs7 HG HP
    go_roundw
    case rel=>exact ⟨k + 1,m + 1,by omega,by go_num,HG7.out,HP7.out⟩
    case measure=>simp [intOf];omega
   have t1:decide (0≤s)=true:=decide_eq_true h1
   by_cases h2:s < (SL.length:Int)
   case neg =>
    have t2:decide (s < (SL.length:Int))=false:=decide_eq_false h2
    rw [decide_eq_false (show ¬ (0≤s∧s < (SL.length:Int)) from fun e=>h2 e.2)] at HSN
    clear h1 h2
    go_wp2_with (refine wpList_mapF rfl _ _ _ _ rfl keyInt undMIB gm rfl HP.out s rfl (.bool false) rfl ?_;intro w7 hm7 hg7 hs7)
    rw [HSN.out] at hm7
    have HG7:=Lib.hid (grown_grown HG.out hg7 (fun q hq=>.inr hq))
    have HP7:=Lib.hid hm7
    clear hm7 hg7 hs7 HG HP
    go_roundw
    case rel=>exact ⟨k + 1,m + 1,by omega,by go_num,HG7.out,HP7.out⟩
    case measure=>simp [intOf];omega
   have t2:decide (s < (SL.length:Int))=true:=decide_eq_true h2
   rw [decide_eq_true (show 0≤s∧s < (SL.length:Int) from ⟨h1,h2⟩)] at HSN
   clear h1 h2
   go_wp2_with (refine wpList_mapF rfl _ _ _ _ rfl keyInt undMIB gm rfl HP.out s rfl (.bool true) rfl ?_;intro w7 hm7 hg7 hs7)
   rw [HSN.out] at hm7
   have HG7:=Lib.hid (grown_grown HG.out hg7 (fun q hq=>.inr hq))
   have HP7:=Lib.hid hm7
   clear hm7 hg7 hs7 HG HP
   go_roundw
   case rel=>exact ⟨k + 1,m + 1,by omega,by go_num,HG7.out,HP7.out⟩
   case measure=>simp [intOf];omega
  case neg =>
   have HP2:Hid (MapF wr gm (Value.int .i64) (aliF SL.length L1) m):=by
    have:=HP.out
    rw [List.take_of_length_le (by omega)] at this
    exact this
   have S4:=Lib.hid (HU3.out _ HG.out)
   clear HP HI3 HU3 HG HT
   obtain ⟨⟨z0,z1,z2⟩,z3,z4,z5,z6⟩:=S4.out.now (Below.refl _ _)
   go_wp2_with (go_at_call 24;refine (HO2.out _ S4.out.ub.h S4.out.ub.f S4.out.rb.m).mono ?_;rintro e W5 ⟨hb5,qa,qc,rfl,hat⟩)
   have HP5:=Lib.hid (HP2.out.below hb5)
   have HB5:=Lib.hid (S4.out.below hb5).ub.hb
   have HA5:=Lib.hid hat
   clear S4 hb5 hat HP2 HO2 z0 z1 z2 z3 z4 z5 z6
   go_loop [49] (fun i=>∃ k:Nat,k≤L2.length∧i = .int .i64 k∧Hid (∀ j (hj:j < L2.length),j < k→¬ (L2[j] ∈ L1∧0≤L2[j]∧L2[j] < (SL.length:Int)))) (fun i=>L2.length - (intOf i).toNat)
   case atStart=>exact ⟨0,Nat.zero_le _,rfl,fun j _ h=>absurd h (by omega)⟩
   case round =>
    obtain ⟨k,hk,rfl,HN⟩:=hrel
    by_cases hlt2:k < L2.length
    case neg =>
     have HV:Hid (R=false):=HR.out false ⟨fun e=>(by cases e),fun ⟨s,h1,h2⟩=>(by
      obtain ⟨j,hj,rfl⟩:=List.getElem_of_mem h1
      exact absurd h2 (HN.out j hj (by omega)))⟩
     go_wp2
     go_ret
     exact ⟨by rw [HV.out];rfl,HB5.out⟩
    obtain ⟨b1,o1,he,p1⟩:=HA5.out k hlt2
    subst he
    have HMEM:=Lib.hid (List.getElem_mem hlt2)
    have HNX:Hid (¬ (L2[k] ∈ L1∧0≤L2[k]∧L2[k] < (SL.length:Int))→∀ j (hj:j < L2.length),j < k + 1→¬ (L2[j] ∈ L1∧0≤L2[j]∧L2[j] < (SL.length:Int))):=fun e j hj hjk=>by
     by_cases e2:j < k
     ·exact HN.out j hj e2
     ·obtain rfl:j=k:=by omega
      exact e
    have HGE:=Lib.hid (aliF_get SL.length L1 L2[k])
    generalize hs:L2[k]=s at p1 HGE HNX HMEM
    clear hs
    by_cases hq:s ∈ L1∧0≤s∧s < (SL.length:Int)
    case pos =>
     rw [decide_eq_true hq] at HGE
     have HV:Hid (R=true):=HR.out true ⟨fun _=>⟨s,HMEM.out,hq⟩,fun _=>rfl⟩
     clear hq
     go_wp2_with (at_lookup;refine wpList_lookF rfl _ _ _ _ rfl keyInt undMIB _ (zeroBool _) gm rfl HP5.out s rfl ?_;rw [if_neg (by decide),HGE.out])
     go_ret
     exact ⟨by rw [HV.out];rfl,HB5.out⟩
    case neg =>
     rw [decide_eq_false hq] at HGE
     have HN2:=Lib.hid (HNX.out hq)
     clear hq
     go_wp2_with (at_lookup;refine wpList_lookF rfl _ _ _ _ rfl keyInt undMIB _ (zeroBool _) gm rfl HP5.out s rfl ?_;rw [if_neg (by decide),HGE.out])
     go_round
     case rel=>exact ⟨k + 1,by omega,by go_num,HN2.out⟩
     case measure=>simp [intOf];omega
set_option maxRecDepth 100000 in
set_option maxHeartbeats 8000000 in
theorem aliasR14 (u:Unt) (ha:Option Addr) (hc:Nat) (fa:Option Addr) (fc:Nat) (r:Rsl) (p:RP) (f v g x:Int) (w:World) (h:ClssAt w ha u.h) (hf:FncsAt w fa u.fs) (hr:RslAt w p r) (hk:UOk u fc r) :
 Calls Tryz.prog 10 #[unV u ha hc fa fc,rsV r p,.int .i64 f,.int .i64 v,.int .i64 g,.int .i64 x] w (Ret w (.bool (aliB (sitL u).length (ofP u r f v) (ofP u r g x)))):=by
 have S0:Hid (URB u ha hc fa fc r p w _):=URB.start (hc:=hc) (fc:=fc) h hf hr
 have HOF:Hid (∀ (f v:Int) w1,ClssAt w1 ha u.h→FncsAt w1 fa u.fs→RslAt w1 p r→Calls Tryz.prog 25 #[unV u ha hc fa fc,rsV r p,.int .i64 f,.int .i64 v] w1 (NumsPost (ofP u r f v) w1)):=fun f v w1 h1 h2 h3=>ofR21 u ha hc fa fc r p f v w1 h1 h2 h3 hk.hl hk.hv
 have HSI:Hid (∀ w1,ClssAt w1 ha u.h→FncsAt w1 fa u.fs→Calls Tryz.prog 26 #[unV u ha hc fa fc] w1 (SitsPost (sitL u) w1)):=fun w1 h1 h2=>sitesR u ha hc fa fc w1 h1 h2 hk.fit
 have hl1:=hk.ofl f v
 have hl2:=hk.ofl g x
 have hsl:=hk.sl
 have HO1:=Lib.hid (HOF.out f v)
 have HO2:=Lib.hid (HOF.out g x)
 have HR:Hid (∀ b:Bool,(b=true ↔ ∃ s ∈ ofP u r g x,s ∈ ofP u r f v∧0≤s∧s < ((sitL u).length:Int))→aliB (sitL u).length (ofP u r f v) (ofP u r g x)=b):=fun b hb=>by
  rw [Bool.eq_iff_iff,aliB_iff,hb]
 clear h hf hr hk HOF
 generalize aliB (sitL u).length (ofP u r f v) (ofP u r g x)=R at *
 generalize ofP u r f v=L1 at *
 generalize ofP u r g x=L2 at *
 generalize sitL u=SL at *
 unfold unV rsV at *
 go_enter Tryz.func10,Tryz.ntmps10
 go_upto_region 1 with (fail)
 generalize (w.alloc _).alloc _=W at *
 obtain ⟨⟨z0,z1,z2⟩,z3,z4,z5,z6⟩:=S0.out.now (Below.refl _ _)
 go_upto_region 2 with (go_at_call 25;refine (HO1.out _ S0.out.ub.h S0.out.ub.f S0.out.rb.m).mono ?_;rintro e w1 ⟨hb1,la,lc,rfl,hat⟩)
 have S1:=Lib.hid (S0.out.below hb1)
 have HA1:=Lib.hid hat
 clear S0 hb1 hat HO1 z0 z1 z2 z3 z4 z5 z6
 obtain ⟨⟨z0,z1,z2⟩,z3,z4,z5,z6⟩:=S1.out.now (Below.refl _ _)
 go_upto_region 3 with (go_at_call 25;refine (HO2.out _ S1.out.ub.h S1.out.ub.f S1.out.rb.m).mono ?_;rintro e w2 ⟨hb2,qa,qc,rfl,hat⟩)
 have S2:=Lib.hid (S1.out.below hb2)
 have HA12:=Lib.hid (HA1.out.below hb2)
 have HA2:=Lib.hid hat
 clear S1 hb2 hat HO2 HA1 z0 z1 z2 z3 z4 z5 z6
 obtain ⟨⟨z0,z1,z2⟩,z3,z4,z5,z6⟩:=S2.out.now (Below.refl _ _)
 go_upto_region 4 with (go_at_call 26;refine (HSI.out _ S2.out.ub.h S2.out.ub.f).mono ?_;rintro e w3 ⟨hb3,sa,sc,rfl,own3⟩)
 have HB3:=Lib.hid (S2.out.below hb3).ub.hb
 have HA1:=Lib.hid (HA12.out.below hb3)
 have HA2':=Lib.hid (HA2.out.below hb3)
 clear S2 hb3 own3 HSI HA12 HA2 z0 z1 z2 z3 z4 z5 z6
 go_wp2
 go_loopw [16] (fun i wr=>∃ k:Nat,k≤L1.length∧i = .int .i64 k∧Hid (Below w3.heap.size w3 wr)∧Hid (∀ j (hj:j < L1.length),j < k→¬ (L1[j] ∈ L2∧0≤L1[j]∧L1[j] < (SL.length:Int)))) (fun i _=>L1.length - (intOf i).toNat)
 case atStart=>exact ⟨0,Nat.zero_le _,rfl,Below.refl _ _,fun j _ h=>absurd h (by omega)⟩
 case round =>
  obtain ⟨k,hk,rfl,HW,HN⟩:=hrel
  by_cases hlt:k < L1.length
  case neg =>
   have HV:Hid (R=false):=HR.out false ⟨fun e=>(by cases e),fun ⟨s,h1,h2,h3⟩=>(by
    obtain ⟨j,hj,rfl⟩:=List.getElem_of_mem h2
    exact absurd ⟨h1,h3⟩ (HN.out j hj (by omega)))⟩
   go_wp2
   go_ret
   exact ⟨by rw [HV.out];rfl,HB3.out.trans (HW.out.mono HB3.out.size)⟩
  have HM1:=Lib.hid (List.getElem_mem hlt)
  have HNX:Hid (¬ (L1[k] ∈ L2∧0≤L1[k]∧L1[k] < (SL.length:Int))→∀ j (hj:j < L1.length),j < k + 1→¬ (L1[j] ∈ L2∧0≤L1[j]∧L1[j] < (SL.length:Int))):=fun e j hj hjk=>by
   by_cases e2:j < k
   ·exact HN.out j hj e2
   ·obtain rfl:j=k:=by omega
    exact e
  have HAK:Hid (∀ wx,Below w3.heap.size w3 wx→∃ b o,la=some ⟨b,o,none⟩∧wx.cell? ⟨b,o + k,none⟩=some (.int .i64 L1[k])):=fun wx hx=>(HA1.out.below hx) k hlt
  generalize hs:L1[k]=s at HM1 HNX HAK
  clear hs HN
  go_wp2
  obtain ⟨wo,rfl⟩:∃ wo,wo=wr:=⟨_,rfl⟩
  go_loopw [17] (fun i wr=>∃ m:Nat,m≤L2.length∧i = .int .i64 m∧Hid (Below w3.heap.size w3 wr)∧Hid (∀ j (hj:j < L2.length),j < m→¬ (s=L2[j]∧0≤s∧s < (SL.length:Int)))) (fun i _=>L2.length - (intOf i).toNat)
  case atStart=>exact ⟨0,Nat.zero_le _,rfl,HW.out,fun j _ h=>absurd h (by omega)⟩
  case round =>
   clear HW
   obtain ⟨m,hm,rfl,HW,HN⟩:=hrel
   by_cases hlm:m < L2.length
   case neg =>
    have HN2:Hid (∀ j (hj:j < L1.length),j < k + 1→¬ (L1[j] ∈ L2∧0≤L1[j]∧L1[j] < (SL.length:Int))):=HNX.out (fun e=>by
     obtain ⟨j,hj,e2⟩:=List.getElem_of_mem e.1
     exact HN.out j hj (by omega) ⟨e2.symm,e.2⟩)
    go_wp2
    go_roundw
    case rel=>exact ⟨k + 1,by omega,by go_num,HW.out,HN2.out⟩
    case measure=>simp [intOf];omega
   obtain ⟨b1,o1,he1,p1⟩:=HAK.out _ HW.out
   subst he1
   obtain ⟨b2,o2,he2,p2⟩:=(HA2'.out.below HW.out) m hlm
   subst he2
   have HM2:=Lib.hid (List.getElem_mem hlm)
   have HNM:Hid (¬ (s=L2[m]∧0≤s∧s < (SL.length:Int))→∀ j (hj:j < L2.length),j < m + 1→¬ (s=L2[j]∧0≤s∧s < (SL.length:Int))):=fun e j hj hjk=>by
    by_cases e2:j < m
    ·exact HN.out j hj e2
    ·obtain rfl:j=m:=by omega
     exact e
   generalize ht:L2[m]=t at p2 HM2 HNM
   clear ht HN
   have hne:Nonempty (WB wr):=⟨⟨wr,Below.refl _ _⟩⟩
   have k0:∀ o:WB wr,o.u.cell? ⟨b1,o1 + k,none⟩=some (.int .i64 s):=fun o=>cell_below o.h p1
   have k1:∀ o:WB wr,o.u.cell? ⟨b2,o2 + m,none⟩=some (.int .i64 t):=fun o=>cell_below o.h p2
   clear p1 p2
   by_cases hst:s=t
   case neg =>
    have t1:(s == t)=false:=by simpa using hst
    have HN2:=Lib.hid (HNM.out (fun e=>hst e.1))
    clear hst
    go_upto_region 10 with (fail)
    refine wp_region_WB wr (by kernel_rfl) ?_
    repeat (go_big_quiet_step (fail))
    refine wpQuiet_nil ?_
    intro _ hw'
    obtain ⟨o,rfl⟩:=hw'
    have HW3:=Lib.hid (HW.out.trans (o.h.mono HW.out.size))
    clear k0 k1
    go_wp2
    go_roundw
    case rel=>exact ⟨m + 1,by omega,by go_num,HW3.out,HN2.out⟩
    case measure=>simp [intOf];omega
   subst hst
   have t1:(s == s)=true:=by simp
   by_cases h1:0≤s
   case neg =>
    have t2:decide (0≤s)=false:=decide_eq_false h1
    have HN2:=Lib.hid (HNM.out (fun e=>h1 e.2.1))
    clear h1
    go_upto_region 10 with (fail)
    refine wp_region_WB wr (by kernel_rfl) ?_
    repeat (go_big_quiet_step (fail))
    refine wpQuiet_nil ?_
    intro _ hw'
    obtain ⟨o,rfl⟩:=hw'
    have HW3:=Lib.hid (HW.out.trans (o.h.mono HW.out.size))
    clear k0 k1
    go_wp2
    go_roundw
    case rel=>exact ⟨m + 1,by omega,by go_num,HW3.out,HN2.out⟩
    case measure=>simp [intOf];omega
   have t2:decide (0≤s)=true:=decide_eq_true h1
   by_cases h2:s < (SL.length:Int)
   case neg =>
    have t3:decide (s < (SL.length:Int))=false:=decide_eq_false h2
    have HN2:=Lib.hid (HNM.out (fun e=>h2 e.2.2))
    clear h1 h2
    go_upto_region 10 with (fail)
    refine wp_region_WB wr (by kernel_rfl) ?_
    repeat (go_big_quiet_step (fail))
    refine wpQuiet_nil ?_
    intro _ hw'
    obtain ⟨o,rfl⟩:=hw'
    have HW3:=Lib.hid (HW.out.trans (o.h.mono HW.out.size))
    clear k0 k1
    go_wp2
    go_roundw
    case rel=>exact ⟨m + 1,by omega,by go_num,HW3.out,HN2.out⟩
    case measure=>simp [intOf];omega
   have t3:decide (s < (SL.length:Int))=true:=decide_eq_true h2
   have HV:Hid (R=true):=HR.out true ⟨fun _=>⟨s,HM2.out,HM1.out,h1,h2⟩,fun _=>rfl⟩
   clear h1 h2
   go_upto_region 10 with (fail)
   refine wp_region_WB wr (by kernel_rfl) ?_
   repeat (go_big_quiet_step (fail))
   refine wpQuiet_nil ?_
   intro _ hw'
   obtain ⟨o,rfl⟩:=hw'
   have HW3:=Lib.hid (HW.out.trans (o.h.mono HW.out.size))
   clear k0 k1
   go_wp2
   go_ret
   exact ⟨by rw [HV.out];rfl,HB3.out.trans (HW3.out.mono HB3.out.size)⟩
end Go.Proofs.YthbialnddkboiaaGreatDoor
