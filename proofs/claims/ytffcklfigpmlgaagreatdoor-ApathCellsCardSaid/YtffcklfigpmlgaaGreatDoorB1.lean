/-
  The reference's cellsOf and contents. (Printed by pre.py.)
-/
import Derived.Test.YtffcklfigpmlgaaGreatDoorPA
import Derived.Test.YtffcklfigpmlgaaGreatDoorPC
import Derived.Test.YtffcklfigpmlgaaGreatDoorXA
import Derived.Test.YtffcklfigpmlgaaGreatDoorRG
namespace Go.Proofs.YtffcklfigpmlgaaGreatDoor
open Go.RowKit Go.Unit0 Go.AM

theorem cfP_end {u:Unt} {f:Str} {S:List Int} (h:S.Pairwise (· < ·)):celPuts [] (cfL u f (S.take S.length))=cfL u f S:=by
 rw [List.take_length,celPuts_set];exact celSet_same (cfL_asc h)
structure RU41 (u:Unt) (ha:Option Addr) (hc:Nat) (fa:Option Addr) (fc:Nat) (SL:List Sit) (sa:Option Addr) (L:List Int) (la:Option Addr) (out:List Cel) (oa:Option Addr) (oc:Nat) (w wr:World):Prop where
 ub:UB u ha hc fa fc w wr
 si:SitsAt wr sa SL
 vs:IntsAt wr la L
 oc:out.length≤oc
 ot:CelsAt wr oa out
theorem RU41.below {u:Unt} {ha:Option Addr} {hc:Nat} {fa:Option Addr} {fc:Nat} {SL:List Sit} {sa:Option Addr} {L:List Int} {la:Option Addr} {out:List Cel} {oa:Option Addr} {oc:Nat} {w wr w':World} (k:RU41 u ha hc fa fc SL sa L la out oa oc w wr) (hb:Below wr.heap.size wr w'):RU41 u ha hc fa fc SL sa L la out oa oc w w' :=
 ⟨k.ub.below hb,k.si.below hb,k.vs.below hb,k.oc,k.ot.below hb⟩
theorem UB.now9 {u:Unt} {ha:Option Addr} {hc:Nat} {fa:Option Addr} {fc:Nat} {w wr:World} (k:UB u ha hc fa fc w wr) {o:World} (h:Below wr.heap.size wr o):o.cell? ⟨w.heap.size,0,none⟩=some (.slice ha u.h.length hc)∧o.cell? ⟨w.heap.size,1,none⟩=some (.slice fa u.fs.length fc)∧o.cell? ⟨w.heap.size,2,none⟩=some (.int .i64 u.main):=(k.below h).cells
set_option maxRecDepth 100000 in
set_option maxHeartbeats 16000000 in
theorem cellsOf41 (u:Unt) (ha:Option Addr) (hc:Nat) (fa:Option Addr) (fc:Nat) (S:List Int) (la:Option Addr) (lc:Nat) (fld:Str) (w:World) (h:ClssAt w ha u.h) (hf:FncsAt w fa u.fs) (hL:IntsAt w la S) (hasc:S.Pairwise (· < ·)) (hin:∀ x ∈ S,inN (sitL u).length x=true) (hk:FitOk u 150) :
 Calls Tryz.prog 35 #[unV u ha hc fa fc,.slice la S.length lc,.string fld] w (CelsLie (cfL u fld S) w):=by
 have S0:Hid (UB u ha hc fa fc w _):=UB.start (hc:=hc) (fc:=fc) h hf
 have HLI:=Lib.hid (hL.below (one_below w (unC u ha hc fa fc)))
 have HSI:Hid (∀ w1,ClssAt w1 ha u.h→FncsAt w1 fa u.fs→Calls Tryz.prog 32 #[unV u ha hc fa fc] w1 (SitsPost (sitL u) w1)):=fun w1 h1 h2=>sitesR u ha hc fa fc w1 h1 h2 hk
 have HFI:Hid (∀ (s:Str) w1,ClssAt w1 ha u.h→Calls Tryz.prog 64 #[.agg #[.slice ha u.h.length hc],.string s,.string fld] w1 (FOk (fieldP u.h s fld).isSome w1)):=fun s w1 h1=>(field275 u.h s fld ha hc w1 h1 (by have:=hk.nc;omega) (fun x hx=>by have:=(hk.c x hx).f;omega)).mono (fun _ _ h=>h.ok)
 have hsl:(sitL u).length≤150:=by
  have h1:=sitU_len (fs:=u.fs) (m:=u.fs.length) (Nat.le_refl _)
  rw [List.take_length] at h1
  have:=hk.t
  unfold sitL
  omega
 have hll:S.length≤150:=by have:=asc_len hasc hin;omega
 have HIN:=Lib.hid hin
 have HRE:Hid (celPuts [] (cfL u fld (S.take S.length))=cfL u fld S):=cfP_end hasc
 have HR0:Hid (celPuts [] (cfL u fld (S.take 0)) = []):=rfl
 have HRL:Hid (∀ k,(celPuts [] (cfL u fld (S.take k))).length≤150):=fun k=>by
  have h1:=celPuts_len (cfL u fld (S.take k)) []
  have h2:=celL_len u.h (sitL u) fld (S.take k)
  have h3:(S.take k).length≤S.length:=by simp;omega
  have h4:(cfL u fld (S.take k)).length≤(S.take k).length:=h2
  simp only [List.length_nil] at h1
  omega
 have HAF:Hid (∀ (k:Nat) (hk:k < S.length),fldB u.h (sitL u) fld S[k]=false→celPuts [] (cfL u fld (S.take (k + 1)))=celPuts [] (cfL u fld (S.take k))):=fun k hk e=>by
  have:cfL u fld (S.take (k + 1))=cfL u fld (S.take k):=by rw [take_snoc hk];exact celL_f e
  rw [this]
 have HAT:Hid (∀ (k:Nat) (hk:k < S.length),fldB u.h (sitL u) fld S[k]=true→celPuts [] (cfL u fld (S.take (k + 1)))=celPut (celPuts [] (cfL u fld (S.take k))) ⟨S[k],fld⟩):=fun k hk e=>by
  have:cfL u fld (S.take (k + 1))=cfL u fld (S.take k) ++ [⟨S[k],fld⟩]:=by rw [take_snoc hk];exact celL_t e
  rw [this,celPuts_snoc]
 have HFB:Hid (∀ (j:Nat) (hj:j < (sitL u).length),fldB u.h (sitL u) fld (j:Int)=(fieldP u.h (sitL u)[j].c fld).isSome):=fun j hj=>fldB_at hj
 clear h hf hL hin hasc hk
 generalize cfL u fld S=R at *
 obtain ⟨G,hG⟩:∃ G:Nat→List Cel,G=fun k=>celPuts [] (cfL u fld (S.take k)):=⟨_,rfl⟩
 have HG:Hid (∀ k,celPuts [] (cfL u fld (S.take k))=G k):=fun k=>by rw [hG]
 clear hG
 simp only [HG.out] at HRE HR0 HRL HAF HAT
 clear HG
 generalize fldB u.h (sitL u) fld=FB at *
 generalize sitL u=SL at *
 unfold unV at *
 go_enter Tryz.func35,Tryz.ntmps35
 go_upto_region 1 with (fail)
 generalize w.alloc _=W at *
 obtain ⟨z0,z1,z2⟩:=S0.out.now9 (Below.refl _ _)
 go_upto_region 3 with (go_at_call 32;refine (HSI.out _ S0.out.h S0.out.f).mono ?_;rintro e w1 ⟨hb1,sa,sc,rfl,own1⟩)
 have R0:Hid (RU41 u ha hc fa fc SL sa S la [] none 0 w w1):=⟨S0.out.below hb1,(ownsS' own1).2,HLI.out.below hb1,Nat.le_refl _,fun k hk=>by simp at hk⟩
 clear S0 own1 hb1 HSI HLI z0 z1 z2
 go_wp2
 go_loopw [7,9] (fun v i wr=>∃ (k:Nat) (oa:Option Addr) (oc:Nat),k≤S.length∧v = .slice oa (G k).length oc∧i = .int .i64 k∧Hid (RU41 u ha hc fa fc SL sa S la (G k) oa oc w wr)) (fun _ i _=>S.length - (intOf i).toNat)
 case atStart=>exact ⟨0,none,0,Nat.zero_le _,by rw [HR0.out];rfl,rfl,by rw [HR0.out];exact R0.out⟩
 case round =>
  clear R0 HR0
  obtain ⟨k,oa,oc,hk,rfl,rfl,B⟩:=hrel
  by_cases hlt:k < S.length
  case neg =>
   have HF:Hid (G k=R):=by show _=_;rw [← HRE.out,show k=S.length by omega]
   rw [HF.out] at B
   rw [HF.out]
   go_wp2
   go_ret
   exact ⟨B.out.ub.hb,oa,oc,rfl,B.out.oc,B.out.ot⟩
  obtain ⟨b1,o1,he,p1⟩:=B.out.vs k hlt
  subst he
  obtain ⟨j,hjs⟩:∃ j:Nat,S[k]=j:=⟨S[k].toNat,by have:=inN_iff.1 (HIN.out _ (List.getElem_mem hlt));omega⟩
  have hj:j < SL.length:=by have:=inN_iff.1 (HIN.out _ (List.getElem_mem hlt));omega
  have HSK:=Lib.hid hjs
  have HAF1:=Lib.hid (HAF.out k hlt)
  have HAT1:=Lib.hid (HAT.out k hlt)
  rw [hjs] at HAF1 HAT1 p1
  rw [HFB.out j hj] at HAF1 HAT1
  clear hjs
  obtain ⟨b2,o2,he,q0,q1,q2⟩:=B.out.si j hj
  subst he
  have HFX:=Lib.hid (HFI.out SL[j].c)
  have hgl:=HRL.out k
  have HPU:Hid (∀ w1,CelsAt w1 oa (G k)→Calls Tryz.prog 38 #[.slice oa (G k).length oc,.agg #[.int .i64 j,.string fld]] w1 (CelsLie (celPut (G k) ⟨j,fld⟩) w1)):=fun w1 h1=>putR26 (G k) ⟨j,fld⟩ oa oc w1 h1 B.out.oc (by omega)
  generalize (fieldP u.h SL[j].c fld).isSome=d at *
  generalize SL[j].c=cls at *
  clear q0 q1
  go_upto_region 6 with (fail)
  go_cut [12] (fun v wx=>v = .bool d∧Hid (RU41 u ha hc fa fc SL (some ⟨b2,o2,none⟩) S (some ⟨b1,o1,none⟩) (G k) oa oc w wx))
  case first =>
   have hne:Nonempty (WB wr):=⟨⟨wr,Below.refl _ _⟩⟩
   have k0:∀ o:WB wr,o.u.cell? ⟨w.heap.size,0,none⟩=some (.slice ha u.h.length hc):=fun o=>(B.out.ub.now9 o.h).1
   have k1:∀ o:WB wr,o.u.cell? ⟨b1,o1 + k,none⟩=some (.int .i64 j):=fun o=>cell_below o.h p1
   have k2:∀ o:WB wr,o.u.cell? ⟨b2,o2 + j * 3 + 2,none⟩=some (.string cls):=fun o=>cell_below o.h q2
   have h0:Below wr.heap.size wr wr.drew:=(Below.refl _ _).drew
   clear p1 q2 HPU HAF1 HAT1
   refine wp_region_Y (fun w'=>∃ o:WB wr,w' = o.u) (by kernel_rfl) ?_
   change wpAnyY _ _ _ _ _ _ _ _ wr.drew
   refine wpAnyY_take 0 rfl (by kernel_rfl) (fun _ _ _ _ h=>h) ⟨⟨_,h0⟩,rfl⟩ (fun K hK=>?_);go_simp;refine hK _ ?_;clear hK K
   refine wpAnyY_take 1 rfl (by kernel_rfl) (fun _ _ _ _ h=>h) ⟨⟨_,h0⟩,rfl⟩ (fun K hK=>?_);go_simp;refine hK _ ?_;clear hK K
   refine wpAnyY_take 2 rfl (by kernel_rfl) (fun _ _ _ _ h=>h) ⟨⟨_,h0⟩,rfl⟩ (fun K hK=>?_);go_simp;refine hK _ ?_;clear hK K
   refine wpAnyY_take 3 rfl (by kernel_rfl) (fun _ _ _ _ h=>h) ⟨⟨_,h0⟩,rfl⟩ (fun K hK=>?_);go_simp;refine hK _ ?_;clear hK K
   refine wpAnyY_take 4 rfl (by kernel_rfl) (fun _ _ _ _ h=>h) ⟨⟨_,h0⟩,rfl⟩ (fun K hK=>?_);go_simp;refine hK _ ?_;clear hK K
   refine wpAnyY_take 5 rfl (by kernel_rfl) (fun _ _ _ _ h=>h) ⟨⟨_,h0⟩,rfl⟩ (fun K hK=>?_);go_simp;refine hK _ ?_;clear hK K
   refine wpAnyY_take 6 rfl (by kernel_rfl) (fun _ _ _ _ h=>h) ⟨⟨_,h0⟩,rfl⟩ (fun K hK=>?_);go_simp;refine hK _ ?_;clear hK K
   refine wpAnyY_take 7 rfl (by kernel_rfl) (fun _ _ _ _ h=>h) ⟨⟨_,h0⟩,rfl⟩ (fun K hK=>?_);go_simp;refine hK _ ?_;clear hK K
   refine wpAnyY_take 8 rfl (by kernel_rfl) (fun _ _ _ _ h=>h) ⟨⟨_,h0⟩,rfl⟩ (fun K hK=>?_);go_simp;refine hK _ ?_;clear hK K
   refine wpAnyY_take 9 rfl (by kernel_rfl) (fun _ _ _ _ h=>h) ⟨⟨_,h0⟩,rfl⟩ (fun K hK=>?_);go_simp;refine hK _ ?_;clear hK K
   refine wpAnyY_take 10 rfl (by kernel_rfl) (fun _ _ _ _ h=>h) ⟨⟨_,h0⟩,rfl⟩ (fun K hK=>?_);go_simp;refine hK _ ?_;clear hK K
   refine wpAnyY_one 11 rfl (by kernel_rfl) ?_
   go_wp2_with fail
   refine (HFX.out _ (B.out.below h0).ub.h).mono ?_
   rintro e w2 ⟨hb2,s1,s2,rfl⟩
   have h2:Below wr.heap.size wr w2:=h0.trans (hb2.mono h0.size)
   go_wp2
   refine ⟨⟨⟨_,h2⟩,rfl⟩,?_⟩
   refine wpAnyY_take 12 rfl (by kernel_rfl) (fun _ _ _ _ h=>h) ⟨⟨_,h2⟩,rfl⟩ (fun K hK=>?_);go_simp;refine hK _ ?_;clear hK K
   refine wpAnyY_take 13 rfl (by kernel_rfl) (fun _ _ _ _ h=>h) ⟨⟨_,h2⟩,rfl⟩ (fun K hK=>?_);go_simp;refine hK _ ?_;clear hK K
   refine wpAnyY_take 14 rfl (by kernel_rfl) (fun _ _ _ _ h=>h) ⟨⟨_,h2⟩,rfl⟩ (fun K hK=>?_);go_simp;refine hK _ ?_;clear hK K
   refine wpAnyY_take 15 rfl (by kernel_rfl) (fun _ _ _ _ h=>h) ⟨⟨_,h2⟩,rfl⟩ (fun K hK=>?_);go_simp;refine hK _ ?_;clear hK K
   refine wpAnyY_one 16 rfl (by kernel_rfl) ?_
   go_wp2
   refine ⟨⟨⟨_,h2⟩,rfl⟩,?_⟩
   refine wpAnyY_one 17 rfl (by kernel_rfl) ?_
   go_wp2
   refine ⟨⟨⟨_,h2⟩,rfl⟩,?_⟩
   refine wpAnyY_one 18 rfl (by kernel_rfl) ?_
   go_wp2
   refine ⟨⟨⟨_,h2⟩,rfl⟩,?_⟩
   refine wpAnyY_done (by kernel_rfl) ?_ _
   clear k0 k1 k2
   go_wp2
   go_meet
   exact ⟨rfl,B.out.below h2⟩
  case rest =>
   obtain ⟨rfl,S2⟩:=hcut
   clear B p1 q2 HFX
   obtain ⟨_,_,he,p1⟩:=S2.out.vs k hlt
   cases he
   rw [HSK.out] at p1
   cases d
   case false =>
    have HN:=Lib.hid (HAF1.out rfl)
    clear HPU HAF1 HAT1
    go_wp2
    go_roundw
    case rel=>exact ⟨k + 1,oa,oc,by omega,by rw [HN.out],by go_num,by rw [HN.out];exact S2.out⟩
    case measure=>simp [intOf];omega
   case true =>
    have HN:=Lib.hid (HAT1.out rfl)
    rw [← HN.out] at HPU
    clear HAF1 HAT1
    go_wp2_with (go_at_call 38;refine (HPU.out _ S2.out.ot).mono ?_;rintro e w3 ⟨hb3,qa,qc,rfl,hq,hat⟩)
    have S3:Hid (RU41 u ha hc fa fc SL (some ⟨b2,o2,none⟩) S (some ⟨b1,o1,none⟩) (G (k + 1)) qa qc w w3):=⟨S2.out.ub.below hb3,S2.out.si.below hb3,S2.out.vs.below hb3,hq,hat⟩
    clear hb3 hq hat S2 HPU
    go_roundw
    case rel=>exact ⟨k + 1,qa,qc,by omega,rfl,by go_num,S3.out⟩
    case measure=>simp [intOf];omega
def conQ (u:Unt) (r:Rsl) (L:List Cel) (k:Nat) (l:List Int) (m:Nat):List Int:=iPuts [] ((nxtL u r (L.take k) ++ l.take m).filter (inN (sitL u).length))
theorem conQ_len (u:Unt) (r:Rsl) (L:List Cel) (k:Nat) (l:List Int) (m:Nat):(conQ u r L k l m).length≤(sitL u).length:=asc_len (iPuts_asc _ _ List.Pairwise.nil) (fun x hx=>by
 rcases (iPuts_mem _ _ x).1 hx with h | h
 ·simp at h
 ·exact (List.mem_filter.1 h).2)
theorem conQ_t {u:Unt} {r:Rsl} {L:List Cel} {k:Nat} {l:List Int} {m:Nat} (hm:m < l.length) (e:inN (sitL u).length l[m]=true):conQ u r L k l (m + 1)=iPut (conQ u r L k l m) l[m]:=by
 unfold conQ;rw [take_snoc hm,← List.append_assoc,List.filter_append,List.filter_cons_of_pos e,List.filter_nil,iPuts_snoc]
theorem conQ_f {u:Unt} {r:Rsl} {L:List Cel} {k:Nat} {l:List Int} {m:Nat} (hm:m < l.length) (e:inN (sitL u).length l[m]=false):conQ u r L k l (m + 1)=conQ u r L k l m:=by
 unfold conQ;rw [take_snoc hm,← List.append_assoc,List.filter_append,List.filter_cons_of_neg (by simp [e]),List.filter_nil,List.append_nil]
theorem conQ_next {u:Unt} {r:Rsl} {L:List Cel} {k:Nat} (hk:k < L.length):conQ u r L k (celI u r L[k].s L[k].f) (celI u r L[k].s L[k].f).length=conQ u r L (k + 1) [] 0:=by
 unfold conQ;rw [List.take_length,take_snoc hk,nxtL_snoc];simp
theorem conQ_0 (u:Unt) (r:Rsl) (L:List Cel) (k:Nat) (l:List Int):conQ u r L k l 0=conQ u r L k [] 0:=rfl
structure RN (u:Unt) (ha:Option Addr) (hc:Nat) (fa:Option Addr) (fc:Nat) (r:Rsl) (p:RP) (L:List Cel) (la:Option Addr) (out:List Int) (oa:Option Addr) (oc:Nat) (w wr:World):Prop where
 ub:URB u ha hc fa fc r p w wr
 vs:CelsAt wr la L
 oc:out.length≤oc
 ot:IntsAt wr oa out
theorem RN.below {u:Unt} {ha:Option Addr} {hc:Nat} {fa:Option Addr} {fc:Nat} {r:Rsl} {p:RP} {L:List Cel} {la:Option Addr} {out:List Int} {oa:Option Addr} {oc:Nat} {w wr w':World} (k:RN u ha hc fa fc r p L la out oa oc w wr) (hb:Below wr.heap.size wr w'):RN u ha hc fa fc r p L la out oa oc w w' :=
 ⟨k.ub.below hb,k.vs.below hb,k.oc,k.ot.below hb⟩
set_option maxRecDepth 100000 in
set_option maxHeartbeats 16000000 in
theorem contents41 (u:Unt) (ha:Option Addr) (hc:Nat) (fa:Option Addr) (fc:Nat) (r:Rsl) (p:RP) (L:List Cel) (la:Option Addr) (lc:Nat) (w:World) (h:ClssAt w ha u.h) (hf:FncsAt w fa u.fs) (hr:RslAt w p r) (hL:CelsAt w la L) (hll:L.length≤1000000) (hk:UOk u fc r) :
 Calls Tryz.prog 36 #[unV u ha hc fa fc,rsV r p,.slice la L.length lc] w (IntsLie (conL u r L) w):=by
 have S0:Hid (URB u ha hc fa fc r p w _):=URB.start (hc:=hc) (fc:=fc) h hf hr
 have HLI:=Lib.hid (hL.below (two_below w (unC u ha hc fa fc) (rsC r p)))
 have HSI:Hid (∀ w1,ClssAt w1 ha u.h→FncsAt w1 fa u.fs→Calls Tryz.prog 32 #[unV u ha hc fa fc] w1 (SitsPost (sitL u) w1)):=fun w1 h1 h2=>sitesR u ha hc fa fc w1 h1 h2 hk.fit
 have HCE:Hid (∀ (s:Int) (fld:Str) w1,ClssAt w1 ha u.h→FncsAt w1 fa u.fs→RslAt w1 p r→Calls Tryz.prog 65 #[unV u ha hc fa fc,rsV r p,.int .i64 s,.string fld] w1 (NumsPost (celI u r s fld) w1)):=fun s fld w1 h1 h2 h3=>cellR41 u ha hc fa fc r p s fld w1 h1 h2 h3 hk
 have HIS:Hid (∀ (l:List Int) (x:Int) (a:Option Addr) (c:Nat) w1,IntsAt w1 a l→l.length≤c→l.length≤900000→Calls Tryz.prog 34 #[.slice a l.length c,.int .i64 x] w1 (IntsLie (iPut l x) w1)):=fun l x a c w1 h1 h2 h3=>insertR23 l x a c w1 h1 h2 h3
 have hsl:=hk.sl
 have HQL:Hid (∀ k l m,(conQ u r L k l m).length≤150):=fun k l m=>Nat.le_trans (conQ_len u r L k l m) hsl
 have HCL:Hid (∀ s f,(celI u r s f).length≤4000):=fun s f=>celI_len hk s f
 have HQT:Hid (∀ k (l:List Int) m (hm:m < l.length),inN (sitL u).length l[m]=true→conQ u r L k l (m + 1)=iPut (conQ u r L k l m) l[m]):=fun k l m hm e=>conQ_t hm e
 have HQF:Hid (∀ k (l:List Int) m (hm:m < l.length),inN (sitL u).length l[m]=false→conQ u r L k l (m + 1)=conQ u r L k l m):=fun k l m hm e=>conQ_f hm e
 have HQN:Hid (∀ k (hk:k < L.length),conQ u r L k (celI u r L[k].s L[k].f) (celI u r L[k].s L[k].f).length=conQ u r L (k + 1) [] 0):=fun k hk=>conQ_next hk
 have HQ0:Hid (∀ k l,conQ u r L k l 0=conQ u r L k [] 0):=fun k l=>conQ_0 u r L k l
 have HQE:Hid (conQ u r L L.length [] 0=conL u r L):=by show _=_;unfold conQ conL knoL;rw [List.take_length];simp
 have HQS:Hid (conQ u r L 0 [] 0 = []):=rfl
 clear h hf hr hL hk
 generalize conL u r L=R at *
 generalize conQ u r L=Q at *
 generalize celI u r=CI at *
 generalize hSL:(sitL u).length=n at *
 have HNL:=Lib.hid hSL
 clear hSL
 unfold unV rsV at *
 go_enter Tryz.func36,Tryz.ntmps36
 go_upto_region 1 with (fail)
 generalize (w.alloc _).alloc _=W at *
 obtain ⟨⟨z0,z1,z2⟩,z3,z4,z5,z6⟩:=S0.out.now (Below.refl _ _)
 go_upto_region 3 with (go_at_call 32;refine (HSI.out _ S0.out.ub.h S0.out.ub.f).mono ?_;rintro e w1 ⟨hb1,sa,sc,rfl,own1⟩)
 have R0:Hid (RN u ha hc fa fc r p L la [] none 0 w w1):=⟨S0.out.below hb1,HLI.out.below hb1,Nat.le_refl _,fun k hk=>by simp at hk⟩
 clear S0 own1 hb1 HSI HLI z0 z1 z2 z3 z4 z5 z6
 rw [HNL.out]
 clear HNL
 go_wp2
 go_loopw [7,9] (fun v i wr=>∃ (k:Nat) (oa:Option Addr) (oc:Nat),k≤L.length∧v = .slice oa (Q k [] 0).length oc∧i = .int .i64 k∧Hid (RN u ha hc fa fc r p L la (Q k [] 0) oa oc w wr)) (fun _ i _=>L.length - (intOf i).toNat)
 case atStart=>exact ⟨0,none,0,Nat.zero_le _,by rw [HQS.out];rfl,rfl,by rw [HQS.out];exact R0.out⟩
 case round =>
  clear R0 HQS
  obtain ⟨k,oa,oc,hk,rfl,rfl,B⟩:=hrel
  by_cases hlt:k < L.length
  case neg =>
   have HF:Hid (Q k [] 0=R):=by show _=_;rw [← HQE.out,show k=L.length by omega]
   rw [HF.out] at B
   rw [HF.out]
   clear HQT HQF HQN HQ0
   go_wp2
   go_ret
   exact ⟨B.out.ub.ub.hb,oa,oc,rfl,B.out.oc,B.out.ot⟩
  obtain ⟨b1,o1,he,p0,p1⟩:=B.out.vs k hlt
  subst he
  have HQNk:=Lib.hid (HQN.out k hlt)
  have HQ0k:=Lib.hid (HQ0.out k (CI L[k].s L[k].f))
  have HQTk:=Lib.hid (HQT.out k (CI L[k].s L[k].f))
  have HQFk:=Lib.hid (HQF.out k (CI L[k].s L[k].f))
  have HCEk:=Lib.hid (HCE.out L[k].s L[k].f)
  have hcl:=HCL.out L[k].s L[k].f
  have HQLk:=Lib.hid (HQL.out k (CI L[k].s L[k].f))
  generalize CI L[k].s L[k].f=cl at *
  generalize L[k].s=s at *
  generalize L[k].f=fl at *
  clear HQT HQF HQN HQ0 HCL
  go_upto_region 6 with (fail)
  have k1:∀ o:WB wr,o.u.cell? ⟨w.heap.size,0,none⟩=some (.slice ha u.h.length hc):=fun o=>(B.out.ub.now o.h).1.1
  have k2:∀ o:WB wr,o.u.cell? ⟨w.heap.size,1,none⟩=some (.slice fa u.fs.length fc):=fun o=>(B.out.ub.now o.h).1.2.1
  have k3:∀ o:WB wr,o.u.cell? ⟨w.heap.size,2,none⟩=some (.int .i64 u.main):=fun o=>(B.out.ub.now o.h).1.2.2
  have k4:∀ o:WB wr,o.u.cell? ⟨w.heap.size + 1,0,none⟩=some (.slice p.ra r.reached p.rc):=fun o=>(B.out.ub.now o.h).2.1
  have k5:∀ o:WB wr,o.u.cell? ⟨w.heap.size + 1,1,none⟩=some (.slice p.ca r.calls.length p.cc):=fun o=>(B.out.ub.now o.h).2.2.1
  have k6:∀ o:WB wr,o.u.cell? ⟨w.heap.size + 1,2,none⟩=some (.slice p.va r.vars.length p.vc):=fun o=>(B.out.ub.now o.h).2.2.2.1
  have k7:∀ o:WB wr,o.u.cell? ⟨w.heap.size + 1,3,none⟩=some (.slice p.xa r.cells.length p.xc):=fun o=>(B.out.ub.now o.h).2.2.2.2
  have k8:∀ o:WB wr,o.u.cell? ⟨b1,o1 + k * 2,none⟩=some (.int .i64 s):=fun o=>cell_below o.h p0
  have k9:∀ o:WB wr,o.u.cell? ⟨b1,o1 + k * 2 + 1,none⟩=some (.string fl):=fun o=>cell_below o.h p1
  have hne:Nonempty (WB wr):=⟨⟨wr,Below.refl _ _⟩⟩
  have h0:Below wr.heap.size wr wr.drew:=(Below.refl _ _).drew
  clear p0 p1
  refine wp_region_Y (fun w'=>∃ o:WB wr,w' = o.u) (by kernel_rfl) ?_
  change wpAnyY _ _ _ _ _ _ _ _ wr.drew
  refine wpAnyY_take 0 rfl (by kernel_rfl) (fun _ _ _ _ h=>h) ⟨⟨_,h0⟩,rfl⟩ (fun K hK=>?_);go_simp;refine hK _ ?_;clear hK K
  refine wpAnyY_take 1 rfl (by kernel_rfl) (fun _ _ _ _ h=>h) ⟨⟨_,h0⟩,rfl⟩ (fun K hK=>?_);go_simp;refine hK _ ?_;clear hK K
  refine wpAnyY_take 2 rfl (by kernel_rfl) (fun _ _ _ _ h=>h) ⟨⟨_,h0⟩,rfl⟩ (fun K hK=>?_);go_simp;refine hK _ ?_;clear hK K
  refine wpAnyY_take 3 rfl (by kernel_rfl) (fun _ _ _ _ h=>h) ⟨⟨_,h0⟩,rfl⟩ (fun K hK=>?_);go_simp;refine hK _ ?_;clear hK K
  refine wpAnyY_take 4 rfl (by kernel_rfl) (fun _ _ _ _ h=>h) ⟨⟨_,h0⟩,rfl⟩ (fun K hK=>?_);go_simp;refine hK _ ?_;clear hK K
  refine wpAnyY_take 5 rfl (by kernel_rfl) (fun _ _ _ _ h=>h) ⟨⟨_,h0⟩,rfl⟩ (fun K hK=>?_);go_simp;refine hK _ ?_;clear hK K
  refine wpAnyY_take 6 rfl (by kernel_rfl) (fun _ _ _ _ h=>h) ⟨⟨_,h0⟩,rfl⟩ (fun K hK=>?_);go_simp;refine hK _ ?_;clear hK K
  refine wpAnyY_take 7 rfl (by kernel_rfl) (fun _ _ _ _ h=>h) ⟨⟨_,h0⟩,rfl⟩ (fun K hK=>?_);go_simp;refine hK _ ?_;clear hK K
  refine wpAnyY_take 8 rfl (by kernel_rfl) (fun _ _ _ _ h=>h) ⟨⟨_,h0⟩,rfl⟩ (fun K hK=>?_);go_simp;refine hK _ ?_;clear hK K
  refine wpAnyY_take 9 rfl (by kernel_rfl) (fun _ _ _ _ h=>h) ⟨⟨_,h0⟩,rfl⟩ (fun K hK=>?_);go_simp;refine hK _ ?_;clear hK K
  refine wpAnyY_take 10 rfl (by kernel_rfl) (fun _ _ _ _ h=>h) ⟨⟨_,h0⟩,rfl⟩ (fun K hK=>?_);go_simp;refine hK _ ?_;clear hK K
  refine wpAnyY_take 11 rfl (by kernel_rfl) (fun _ _ _ _ h=>h) ⟨⟨_,h0⟩,rfl⟩ (fun K hK=>?_);go_simp;refine hK _ ?_;clear hK K
  refine wpAnyY_one 12 rfl (by kernel_rfl) ?_
  go_wp2_with fail
  refine (HCEk.out _ (B.out.below h0).ub.ub.h (B.out.below h0).ub.ub.f (B.out.below h0).ub.rb.m).mono ?_
  rintro e w2 ⟨hb2,ca,cc,rfl,hat2⟩
  have h2:Below wr.heap.size wr w2:=h0.trans (hb2.mono h0.size)
  have A2:=Lib.hid hat2
  clear hb2 hat2
  go_wp2
  refine ⟨⟨⟨_,h2⟩,rfl⟩,?_⟩
  refine wpAnyY_one 13 rfl (by kernel_rfl) ?_
  go_wp2
  refine ⟨⟨⟨_,h2⟩,rfl⟩,?_⟩
  refine wpAnyY_done (by kernel_rfl) ?_ _
  have B2:=Lib.hid (B.out.below h2)
  clear B k1 k2 k3 k4 k5 k6 k7 k8 k9 h0 h2
  rw [← HQ0k.out] at B2 ⊢
  go_wp2
  go_loopw [7,11] (fun v i wx=>∃ (m:Nat) (oa:Option Addr) (oc:Nat),m≤cl.length∧v = .slice oa (Q k cl m).length oc∧i = .int .i64 m∧Hid (RN u ha hc fa fc r p L (some ⟨b1,o1,none⟩) (Q k cl m) oa oc w wx)∧Hid (IntsAt wx ca cl)) (fun _ i _=>cl.length - (intOf i).toNat)
  case atStart=>exact ⟨0,oa,oc,Nat.zero_le _,rfl,rfl,B2.out,A2.out⟩
  case round =>
   clear B2 A2 HQ0k
   obtain ⟨m,oa,oc,hm,rfl,rfl,B,A⟩:=hrel
   by_cases hml:m < cl.length
   case neg =>
    obtain rfl:m=cl.length:=by omega
    rw [HQNk.out] at B
    rw [HQNk.out]
    go_wp2
    go_roundw
    case rel=>exact ⟨k + 1,oa,oc,by omega,rfl,by go_num,B.out⟩
    case measure=>simp [intOf];omega
   obtain ⟨b3,o3,he3,c3⟩:=A.out m hml
   subst he3
   have HT1:=Lib.hid (HQTk.out m hml)
   have HF1:=Lib.hid (HQFk.out m hml)
   have hql:=HQLk.out m
   generalize cl[m]=x at *
   by_cases g1:x < 0
   ·have t1:decide (0≤x)=false:=decide_eq_false (by omega)
    have HN:=Lib.hid (HF1.out (inN_f1 g1))
    clear g1 HT1 HF1
    go_wp2
    go_roundw
    case rel=>exact ⟨m + 1,oa,oc,by omega,by rw [HN.out],by go_num,by rw [HN.out];exact B.out,A.out⟩
    case measure=>simp [intOf];omega
   have t1:decide (0≤x)=true:=decide_eq_true (by omega)
   by_cases g2:(n:Int)≤x
   ·have t2:decide (x < (n:Int))=false:=decide_eq_false (by omega)
    have HN:=Lib.hid (HF1.out (inN_f2 g2))
    clear g1 g2 HT1 HF1
    go_wp2
    go_roundw
    case rel=>exact ⟨m + 1,oa,oc,by omega,by rw [HN.out],by go_num,by rw [HN.out];exact B.out,A.out⟩
    case measure=>simp [intOf];omega
   have t2:decide (x < (n:Int))=true:=decide_eq_true (by omega)
   have HN:=Lib.hid (HT1.out (inN_t (by omega) (by omega)))
   have HI1:=Lib.hid (HIS.out (Q k cl m) x oa oc _ B.out.ot B.out.oc (by omega))
   rw [← HN.out] at HI1
   clear g1 g2 HT1 HF1 HN
   go_wp2_with (go_at_call 34;refine HI1.out.mono ?_;rintro e w4 ⟨hb4,qa,qc,rfl,hq,hat⟩)
   have B4:Hid (RN u ha hc fa fc r p L (some ⟨b1,o1,none⟩) (Q k cl (m + 1)) qa qc w w4):=⟨B.out.ub.below hb4,B.out.vs.below hb4,hq,hat⟩
   have A4:=Lib.hid (A.out.below hb4)
   clear hb4 hq hat B A HI1 c3
   go_roundw
   case rel=>exact ⟨m + 1,qa,qc,by omega,rfl,by go_num,B4.out,A4.out⟩
   case measure=>simp [intOf];omega
end Go.Proofs.YtffcklfigpmlgaaGreatDoor
