/-
  The reference's Same and Cells. (Printed by pre.py.)
  The reference's Own. (Printed by pre.py.)
-/
import Derived.Test.YthbialnddkboiaaGreatDoorHK
import Derived.Test.YthbialnddkboiaaGreatDoorRA
import Derived.Test.YthbialnddkboiaaGreatDoorXA
import Derived.Test.YthbialnddkboiaaGreatDoorRG
namespace Go.Proofs.YthbialnddkboiaaGreatDoor
open Go.RowKit Go.Unit0 Go.AM

set_option maxHeartbeats 2000000 in
theorem same26 (l:List Cel) (pa:Option Addr) (ca:Nat) (pb:Option Addr) (cb:Nat) (w:World) (ha:CelsAt w pa l) (hb:CelsAt w pb l) (hll:l.length≤1000000) :
 Calls Tryz.prog 11 #[.slice pa l.length ca,.slice pb l.length cb] w (Ret w (.bool true)):=by
 have HA:=Lib.hid ha
 have HB:=Lib.hid hb
 clear ha hb
 go_enter Tryz.func11,Tryz.ntmps11
 go_wp2
 go_loopw [5] (fun i wr=>∃ k:Nat,k≤l.length∧i = .int .i64 k∧Hid (Below w.heap.size w wr)) (fun i _=>l.length - (intOf i).toNat)
 case atStart=>exact ⟨0,Nat.zero_le _,rfl,Below.refl _ _⟩
 case round =>
  obtain ⟨k,hk,rfl,HW⟩:=hrel
  by_cases hlt:k < l.length
  case neg =>
   go_wp2
   go_ret
   exact ⟨rfl,HW.out⟩
  obtain ⟨b1,o1,he1,p1,p2⟩:=(HA.out.below HW.out) k hlt
  obtain ⟨b2,o2,he2,q1,q2⟩:=(HB.out.below HW.out) k hlt
  subst he1
  subst he2
  have HQ:Hid (∀ w1,(binOp .neq 64 (.agg #[.int .i64 l[k].s,.string l[k].f]) (.agg #[.int .i64 l[k].s,.string l[k].f])).run Tryz.prog w1 = .ok (.bool false) w1):=fun w1=>by
   have:=neqCel l[k] l[k] w1
   rw [decide_eq_true rfl] at this
   exact this
  generalize l[k].s=xs at *
  generalize l[k].f=xf at *
  have hq:=HQ.out
  have hne:Nonempty (WB wr):=⟨⟨wr,Below.refl _ _⟩⟩
  have k0:∀ o:WB wr,o.u.cell? ⟨b1,o1 + k * 2,none⟩=some (.int .i64 xs):=fun o=>cell_below o.h p1
  have k1:∀ o:WB wr,o.u.cell? ⟨b1,o1 + k * 2 + 1,none⟩=some (.string xf):=fun o=>cell_below o.h p2
  have k2:∀ o:WB wr,o.u.cell? ⟨b2,o2 + k * 2,none⟩=some (.int .i64 xs):=fun o=>cell_below o.h q1
  have k3:∀ o:WB wr,o.u.cell? ⟨b2,o2 + k * 2 + 1,none⟩=some (.string xf):=fun o=>cell_below o.h q2
  go_upto_region 6 with (fail)
  clear p1 p2 q1 q2
  refine wp_region_WB wr (by kernel_rfl) ?_
  repeat (go_big_quiet_step (fail))
  refine wpQuiet_nil ?_
  intro _ hw'
  obtain ⟨o,rfl⟩:=hw'
  have HW3:=Lib.hid (HW.out.trans (o.h.mono HW.out.size))
  clear k0 k1 k2 k3 hq
  go_wp2
  go_roundw
  case rel=>exact ⟨k + 1,by omega,by go_num,HW3.out⟩
  case measure=>simp [intOf];omega
structure UOk (u:Unt) (fc:Nat) (r:Rsl):Prop where
 fit:FitOk u 150
 cap:u.fs.length≤fc
 few:FewOk r
theorem UOk.hl {u:Unt} {fc:Nat} {r:Rsl} (k:UOk u fc r):u.fs.length≤1000:=by have:=k.fit.nf;omega
theorem UOk.hv {u:Unt} {fc:Nat} {r:Rsl} (k:UOk u fc r):∀ f ∈ u.fs,f.vars.length≤1000:=fun f hf=>by have:=(k.fit.f f hf).v;omega
theorem UOk.hh {u:Unt} {fc:Nat} {r:Rsl} (k:UOk u fc r):u.h.length≤100000:=by have:=k.fit.nc;omega
theorem UOk.hf {u:Unt} {fc:Nat} {r:Rsl} (k:UOk u fc r):∀ x ∈ u.h,x.fields.length≤100000:=fun x hx=>by have:=(k.fit.c x hx).f;omega
theorem UOk.ofl {u:Unt} {fc:Nat} {r:Rsl} (k:UOk u fc r) (f v:Int):(ofP u r f v).length≤4000:=by
 unfold ofP
 split
 ·simp
 ·cases h:r.vars[(varP u f v).toNat]? with
  | none=>simp
  | some l =>
    obtain ⟨hi,rfl⟩:=List.getElem?_eq_some_iff.1 h
    simpa using k.few.vl _ (List.getElem_mem hi)
theorem UOk.sl {u:Unt} {fc:Nat} {r:Rsl} (k:UOk u fc r):(sitL u).length≤150:=by
 have h1:=sitU_len (fs:=u.fs) (m:=u.fs.length) (Nat.le_refl _)
 rw [List.take_length] at h1
 have:=k.fit.t
 unfold sitL
 omega
def FOk (d:Bool) (w:World) (e:Ending) (w':World):Prop:=Below w.heap.size w w'∧∃ s1 s2,e = .returned (.tuple #[.string s1,.string s2,.bool d])
theorem FieldPost.ok {r:Option (Str × Fld)} {w:World} {e:Ending} {w':World} (h:FieldPost r w e w'):FOk r.isSome w e w':=by
 obtain ⟨hb,⟨rfl,rfl⟩ | ⟨x,g,rfl,rfl⟩⟩:=h
 ·exact ⟨hb,_,_,rfl⟩
 ·exact ⟨hb,_,_,rfl⟩
theorem fldB_neg {h:List Cls} {sites:List Sit} {field:Str} {s:Int} (e:s < 0):fldB h sites field s=false:=by
 unfold fldB;rw [decide_eq_false (by omega)];rfl
theorem fldB_big {h:List Cls} {sites:List Sit} {field:Str} {s:Int} (e:(sites.length:Int)≤s):fldB h sites field s=false:=by
 unfold fldB
 rw [List.getElem?_eq_none (by omega)]
 simp
theorem fldB_at {h:List Cls} {sites:List Sit} {field:Str} {j:Nat} (e:j < sites.length):fldB h sites field (j:Int)=(fieldP h sites[j].c field).isSome:=by
 unfold fldB
 rw [decide_eq_true (by omega),Int.toNat_natCast,List.getElem?_eq_getElem e]
 rfl
def accL (h:List Cls) (sites:List Sit) (field:Str) (l:List Int) (n:Nat):List Cel:=celPuts [] (celL h sites field (l.take n))
theorem accL_f {h:List Cls} {sites:List Sit} {field:Str} {l:List Int} {k:Nat} (hk:k < l.length) (e:fldB h sites field l[k]=false):accL h sites field l (k + 1)=accL h sites field l k:=by
 unfold accL;rw [take_snoc hk,celL_f e]
theorem accL_t {h:List Cls} {sites:List Sit} {field:Str} {l:List Int} {k:Nat} (hk:k < l.length) (e:fldB h sites field l[k]=true):accL h sites field l (k + 1)=celPut (accL h sites field l k) ⟨l[k],field⟩:=by
 unfold accL;rw [take_snoc hk,celL_t e,celPuts_snoc]
theorem accL_len (h:List Cls) (sites:List Sit) (field:Str) (l:List Int) (k:Nat):(accL h sites field l k).length≤l.length:=by
 unfold accL
 have h1:=celPuts_len (celL h sites field (l.take k)) []
 have h2:=celL_len h sites field (l.take k)
 have h3:(l.take k).length≤l.length:=by simp;omega
 simp at h1
 omega
structure RC (u:Unt) (ha:Option Addr) (hc:Nat) (fa:Option Addr) (fc:Nat) (r:Rsl) (p:RP) (SL:List Sit) (sa:Option Addr) (L:List Int) (la:Option Addr) (out:List Cel) (oa:Option Addr) (oc:Nat) (w wr:World):Prop where
 ub:URB u ha hc fa fc r p w wr
 si:SitsAt wr sa SL
 vs:IntsAt wr la L
 oc:out.length≤oc
 ot:CelsAt wr oa out
theorem RC.below {u:Unt} {ha:Option Addr} {hc:Nat} {fa:Option Addr} {fc:Nat} {r:Rsl} {p:RP} {SL:List Sit} {sa:Option Addr} {L:List Int} {la:Option Addr} {out:List Cel} {oa:Option Addr} {oc:Nat} {w wr w':World} (k:RC u ha hc fa fc r p SL sa L la out oa oc w wr) (hb:Below wr.heap.size wr w'):RC u ha hc fa fc r p SL sa L la out oa oc w w' :=
 ⟨k.ub.below hb,k.si.below hb,k.vs.below hb,k.oc,k.ot.below hb⟩
set_option maxRecDepth 100000 in
set_option maxHeartbeats 8000000 in
theorem cellsR26 (u:Unt) (ha:Option Addr) (hc:Nat) (fa:Option Addr) (fc:Nat) (r:Rsl) (p:RP) (f v:Int) (fld:Str) (w:World) (h:ClssAt w ha u.h) (hf:FncsAt w fa u.fs) (hr:RslAt w p r) (hk:UOk u fc r) :
 Calls Tryz.prog 13 #[unV u ha hc fa fc,rsV r p,.int .i64 f,.int .i64 v,.string fld] w (CelsLie (celPuts [] (celL u.h (sitL u) fld (ofP u r f v))) w):=by
 have S0:Hid (URB u ha hc fa fc r p w _):=URB.start (hc:=hc) (fc:=fc) h hf hr
 have HOF:Hid (∀ w1,ClssAt w1 ha u.h→FncsAt w1 fa u.fs→RslAt w1 p r→Calls Tryz.prog 25 #[unV u ha hc fa fc,rsV r p,.int .i64 f,.int .i64 v] w1 (NumsPost (ofP u r f v) w1)):=fun w1 h1 h2 h3=>ofR21 u ha hc fa fc r p f v w1 h1 h2 h3 hk.hl hk.hv
 have HSI:Hid (∀ w1,ClssAt w1 ha u.h→FncsAt w1 fa u.fs→Calls Tryz.prog 26 #[unV u ha hc fa fc] w1 (SitsPost (sitL u) w1)):=fun w1 h1 h2=>sitesR u ha hc fa fc w1 h1 h2 hk.fit
 have HFI:Hid (∀ (s:Str) w1,ClssAt w1 ha u.h→Calls Tryz.prog 30 #[.agg #[.slice ha u.h.length hc],.string s,.string fld] w1 (FOk (fieldP u.h s fld).isSome w1)):=fun s w1 h1=>(field275 u.h s fld ha hc w1 h1 hk.hh hk.hf).mono (fun _ _ h=>h.ok)
 have hll:=hk.ofl f v
 have hsl:=hk.sl
 have HRE:Hid (accL u.h (sitL u) fld (ofP u r f v) (ofP u r f v).length=celPuts [] (celL u.h (sitL u) fld (ofP u r f v))):=by show _=_;unfold accL;rw [List.take_length]
 have HR0:Hid (accL u.h (sitL u) fld (ofP u r f v) 0 = []):=rfl
 have HRL:=Lib.hid (accL_len u.h (sitL u) fld (ofP u r f v))
 clear h hf hr hk
 generalize celPuts [] (celL u.h (sitL u) fld (ofP u r f v))=R at *
 generalize ofP u r f v=L at *
 generalize sitL u=SL at *
 have HAF:Hid (∀ (k:Nat) (hk:k < L.length),fldB u.h SL fld L[k]=false→accL u.h SL fld L (k + 1)=accL u.h SL fld L k):=fun k hk e=>accL_f hk e
 have HAT:Hid (∀ (k:Nat) (hk:k < L.length),fldB u.h SL fld L[k]=true→accL u.h SL fld L (k + 1)=celPut (accL u.h SL fld L k) ⟨L[k],fld⟩):=fun k hk e=>accL_t hk e
 generalize accL u.h SL fld L=G at *
 unfold unV rsV at *
 go_enter Tryz.func13,Tryz.ntmps13
 go_upto_region 1 with (fail)
 generalize (w.alloc _).alloc _=W at *
 obtain ⟨⟨z0,z1,z2⟩,z3,z4,z5,z6⟩:=S0.out.now (Below.refl _ _)
 go_upto_region 3 with (go_at_call 26;refine (HSI.out _ S0.out.ub.h S0.out.ub.f).mono ?_;rintro e w1 ⟨hb1,sa,sc,rfl,own1⟩)
 have S1:=Lib.hid (S0.out.below hb1)
 have HS1:=Lib.hid (ownsS' own1).2
 clear S0 own1 hb1 HSI z0 z1 z2 z3 z4 z5 z6
 obtain ⟨⟨z0,z1,z2⟩,z3,z4,z5,z6⟩:=S1.out.now (Below.refl _ _)
 go_upto_region 4 with (go_at_call 25;refine (HOF.out _ S1.out.ub.h S1.out.ub.f S1.out.rb.m).mono ?_;rintro e w2 ⟨hb2,la,lc,rfl,hat⟩)
 have R0:Hid (RC u ha hc fa fc r p SL sa L la [] none 0 w w2):=⟨S1.out.below hb2,HS1.out.below hb2,hat,Nat.le_refl _,fun k hk=>by simp at hk⟩
 clear S1 HS1 hb2 hat HOF z0 z1 z2 z3 z4 z5 z6
 go_wp2
 go_loopw [11,14] (fun v i wr=>∃ (k:Nat) (oa:Option Addr) (oc:Nat),k≤L.length∧v = .slice oa (G k).length oc∧i = .int .i64 k∧Hid (RC u ha hc fa fc r p SL sa L la (G k) oa oc w wr)) (fun _ i _=>L.length - (intOf i).toNat)
 case atStart=>exact ⟨0,none,0,Nat.zero_le _,by rw [HR0.out];rfl,rfl,by rw [HR0.out];exact R0.out⟩
 case round =>
  clear R0 HR0
  obtain ⟨k,oa,oc,hk,rfl,rfl,S⟩:=hrel
  by_cases hlt:k < L.length
  case neg =>
   have HF:Hid (G k=R):=by show _=_;rw [← HRE.out,show k=L.length by omega]
   rw [HF.out] at S
   rw [HF.out]
   go_wp2
   go_ret
   exact ⟨S.out.ub.ub.hb,oa,oc,rfl,S.out.oc,S.out.ot⟩
  obtain ⟨b1,o1,he,p1⟩:=S.out.vs k hlt
  subst he
  have HAF1:=Lib.hid (HAF.out k hlt)
  have HAT1:=Lib.hid (HAT.out k hlt)
  generalize hs:L[k]=s at *
  have HSK:=Lib.hid hs
  clear hs
  by_cases h1:s < 0
  case pos =>
   have t1:decide (s < 0)=true:=decide_eq_true h1
   have HN:=Lib.hid (HAF1.out (fldB_neg h1))
   clear h1
   go_wp2
   go_roundw
   case rel=>exact ⟨k + 1,oa,oc,by omega,by rw [HN.out],by go_num,by rw [HN.out];exact S.out⟩
   case measure=>simp [intOf];omega
  have t1:decide (s < 0)=false:=decide_eq_false h1
  by_cases h2:(SL.length:Int)≤s
  case pos =>
   have t2:decide ((SL.length:Int)≤s)=true:=decide_eq_true h2
   have HN:=Lib.hid (HAF1.out (fldB_big h2))
   clear h1 h2
   go_wp2
   go_roundw
   case rel=>exact ⟨k + 1,oa,oc,by omega,by rw [HN.out],by go_num,by rw [HN.out];exact S.out⟩
   case measure=>simp [intOf];omega
  have t2:decide ((SL.length:Int)≤s)=false:=decide_eq_false h2
  obtain ⟨j,rfl⟩:∃ j:Nat,s=j:=⟨s.toNat,by omega⟩
  have hj:j < SL.length:=by omega
  rw [fldB_at hj] at HAF1 HAT1
  obtain ⟨b2,o2,he,q0,q1,q2⟩:=S.out.si j hj
  subst he
  have HFX:=Lib.hid (HFI.out SL[j].c)
  have hgl:=HRL.out k
  have HPU:Hid (∀ w1,CelsAt w1 oa (G k)→Calls Tryz.prog 31 #[.slice oa (G k).length oc,.agg #[.int .i64 j,.string fld]] w1 (CelsLie (celPut (G k) ⟨j,fld⟩) w1)):=fun w1 h1=>putR26 (G k) ⟨j,fld⟩ oa oc w1 h1 S.out.oc (by omega)
  generalize (fieldP u.h SL[j].c fld).isSome=d at *
  generalize SL[j].c=cls at *
  clear h1 h2 q0 q1
  go_upto_region 8 with (fail)
  go_cut [17] (fun v wx=>v = .bool d∧Hid (RC u ha hc fa fc r p SL (some ⟨b2,o2,none⟩) L (some ⟨b1,o1,none⟩) (G k) oa oc w wx))
  case first =>
   have hne:Nonempty (WB wr):=⟨⟨wr,Below.refl _ _⟩⟩
   have k0:∀ o:WB wr,o.u.cell? ⟨w.heap.size,0,none⟩=some (.slice ha u.h.length hc):=fun o=>(S.out.ub.now o.h).1.1
   have k1:∀ o:WB wr,o.u.cell? ⟨b1,o1 + k,none⟩=some (.int .i64 j):=fun o=>cell_below o.h p1
   have k2:∀ o:WB wr,o.u.cell? ⟨b2,o2 + j * 3 + 2,none⟩=some (.string cls):=fun o=>cell_below o.h q2
   have h0:Below wr.heap.size wr wr.drew:=(Below.refl _ _).drew
   clear p1 q2 HPU HAF1 HAT1
   refine wp_region_Y (fun w'=>∃ o:WB wr,w' = o.u) (by kernel_rfl) ?_
   change wpAnyY _ _ _ _ _ _ _ _ wr.drew
   refine wpAnyY_take 0 rfl (by kernel_rfl) (fun _ _ _ _ h=>h) ⟨⟨_,h0⟩,rfl⟩ (fun K hK=>?_);go_simp;refine hK _ ?_;clear hK K
   refine wpAnyY_take 1 rfl (by kernel_rfl) (fun _ _ _ _ h=>h) ⟨⟨_,h0⟩,rfl⟩ (fun K hK=>?_);go_simp;refine hK _ ?_;clear hK K
   refine wpAnyY_take 2 rfl (by kernel_rfl) (fun _ _ _ _ h=>h) ⟨⟨_,h0⟩,rfl⟩ (fun K hK=>?_);go_simp;refine hK _ ?_;clear hK K
   refine wpAnyY_take 3 rfl (by kernel_rfl) (fun _ _ _ _ h=>h) ⟨⟨_,h0⟩,rfl⟩ (fun K hK=>?_);go_simp;refine hK _ ?_;clear hK K
   refine wpAnyY_take 4 rfl (by kernel_rfl) (fun _ _ _ _ h=>h) ⟨⟨_,h0⟩,rfl⟩ (fun K hK=>?_);go_simp;refine hK _ ?_;clear hK K
   refine wpAnyY_take 5 rfl (by kernel_rfl) (fun _ _ _ _ h=>h) ⟨⟨_,h0⟩,rfl⟩ (fun K hK=>?_);go_simp;refine hK _ ?_;clear hK K
   refine wpAnyY_take 6 rfl (by kernel_rfl) (fun _ _ _ _ h=>h) ⟨⟨_,h0⟩,rfl⟩ (fun K hK=>?_);go_simp;refine hK _ ?_;clear hK K
   refine wpAnyY_take 7 rfl (by kernel_rfl) (fun _ _ _ _ h=>h) ⟨⟨_,h0⟩,rfl⟩ (fun K hK=>?_);go_simp;refine hK _ ?_;clear hK K
   refine wpAnyY_take 8 rfl (by kernel_rfl) (fun _ _ _ _ h=>h) ⟨⟨_,h0⟩,rfl⟩ (fun K hK=>?_);go_simp;refine hK _ ?_;clear hK K
   refine wpAnyY_take 9 rfl (by kernel_rfl) (fun _ _ _ _ h=>h) ⟨⟨_,h0⟩,rfl⟩ (fun K hK=>?_);go_simp;refine hK _ ?_;clear hK K
   refine wpAnyY_take 10 rfl (by kernel_rfl) (fun _ _ _ _ h=>h) ⟨⟨_,h0⟩,rfl⟩ (fun K hK=>?_);go_simp;refine hK _ ?_;clear hK K
   refine wpAnyY_one 11 rfl (by kernel_rfl) ?_
   go_wp2_with fail
   refine (HFX.out _ (S.out.below h0).ub.ub.h).mono ?_
   rintro e w2 ⟨hb2,s1,s2,rfl⟩
   have h2:Below wr.heap.size wr w2:=h0.trans (hb2.mono h0.size)
   go_wp2
   refine ⟨⟨⟨_,h2⟩,rfl⟩,?_⟩
   refine wpAnyY_take 12 rfl (by kernel_rfl) (fun _ _ _ _ h=>h) ⟨⟨_,h2⟩,rfl⟩ (fun K hK=>?_);go_simp;refine hK _ ?_;clear hK K
   refine wpAnyY_take 13 rfl (by kernel_rfl) (fun _ _ _ _ h=>h) ⟨⟨_,h2⟩,rfl⟩ (fun K hK=>?_);go_simp;refine hK _ ?_;clear hK K
   refine wpAnyY_take 14 rfl (by kernel_rfl) (fun _ _ _ _ h=>h) ⟨⟨_,h2⟩,rfl⟩ (fun K hK=>?_);go_simp;refine hK _ ?_;clear hK K
   refine wpAnyY_take 15 rfl (by kernel_rfl) (fun _ _ _ _ h=>h) ⟨⟨_,h2⟩,rfl⟩ (fun K hK=>?_);go_simp;refine hK _ ?_;clear hK K
   refine wpAnyY_one 16 rfl (by kernel_rfl) ?_
   go_wp2
   refine ⟨⟨⟨_,h2⟩,rfl⟩,?_⟩
   refine wpAnyY_one 17 rfl (by kernel_rfl) ?_
   go_wp2
   refine ⟨⟨⟨_,h2⟩,rfl⟩,?_⟩
   refine wpAnyY_one 18 rfl (by kernel_rfl) ?_
   go_wp2
   refine ⟨⟨⟨_,h2⟩,rfl⟩,?_⟩
   refine wpAnyY_done (by kernel_rfl) ?_ _
   clear k0 k1 k2
   go_wp2
   go_meet
   exact ⟨rfl,S.out.below h2⟩
  case rest =>
   obtain ⟨rfl,S2⟩:=hcut
   clear S p1 q2 HFX
   obtain ⟨_,_,he,p1⟩:=S2.out.vs k hlt
   cases he
   rw [HSK.out] at p1
   cases d
   case false =>
    have HN:=Lib.hid (HAF1.out rfl)
    clear HPU HAF1 HAT1
    go_wp2
    go_roundw
    case rel=>exact ⟨k + 1,oa,oc,by omega,by rw [HN.out],by go_num,by rw [HN.out];exact S2.out⟩
    case measure=>simp [intOf];omega
   case true =>
    have HN:=Lib.hid (HAT1.out rfl)
    rw [← HN.out] at HPU
    clear HAF1 HAT1
    go_wp2_with (go_at_call 31;refine (HPU.out _ S2.out.ot).mono ?_;rintro e w3 ⟨hb3,qa,qc,rfl,hq,hat⟩)
    have S3:Hid (RC u ha hc fa fc r p SL (some ⟨b2,o2,none⟩) L (some ⟨b1,o1,none⟩) (G (k + 1)) qa qc w w3):=⟨S2.out.ub.below hb3,S2.out.si.below hb3,S2.out.vs.below hb3,hq,hat⟩
    clear hb3 hq hat S2 HPU
    go_roundw
    case rel=>exact ⟨k + 1,qa,qc,by omega,rfl,by go_num,S3.out⟩
    case measure=>simp [intOf];omega
end Go.Proofs.YthbialnddkboiaaGreatDoor
namespace Go.Proofs.YthbialnddkboiaaGreatDoor
open Go.RowKit Go.Unit0 Go.AM

def celI (u:Unt) (r:Rsl) (f:Int) (op:Int) (c:Ins):List Cel:=if c.op=op then celL u.h (sitL u) c.name (ofP u r f c.a) else []
def celQ (u:Unt) (r:Rsl) (f:Int) (op:Int) (code:List Ins) (q:Nat):List Cel:=(code.take q).flatMap (celI u r f op)
theorem celQ_succ {u:Unt} {r:Rsl} {f op:Int} {code:List Ins} {q:Nat} (hq:q < code.length):celQ u r f op code (q + 1)=celQ u r f op code q ++ celI u r f op code[q]:=by
 unfold celQ;rw [take_snoc hq,List.flatMap_append];simp
theorem celI_len {u:Unt} {fc:Nat} {r:Rsl} (hk:UOk u fc r) (f op:Int) (c:Ins):(celI u r f op c).length≤4000:=by
 unfold celI
 split
 ·exact Nat.le_trans (celL_len _ _ _ _) (hk.ofl f c.a)
 ·simp
set_option maxRecDepth 10000 in
theorem celQ_len {u:Unt} {fc:Nat} {r:Rsl} (hk:UOk u fc r) (f op:Int) (code:List Ins):∀ q,(celQ u r f op code q).length≤q * 4000
 | 0=>by simp [celQ]
 | q + 1=>by
   have ih:=celQ_len hk f op code q
   by_cases hq:q < code.length
   ·rw [celQ_succ hq,List.length_append]
    have:=celI_len hk f op code[q]
    omega
   ·have e:celQ u r f op code (q + 1)=celQ u r f op code q:=by
     unfold celQ;rw [List.take_of_length_le (show code.length≤q + 1 by omega),List.take_of_length_le (show code.length≤q by omega)]
    rw [e];omega
def ownL (u:Unt) (r:Rsl) (f:Int) (op:Int):List Cel:=if f < 0 then [] else (u.fs[f.toNat]?).elim [] (fun x=>celQ u r f op x.code x.code.length)
theorem ownL_neg {u:Unt} {r:Rsl} {f op:Int} (h:f < 0):ownL u r f op = []:=by unfold ownL;rw [if_pos h]
theorem ownL_big {u:Unt} {r:Rsl} {f op:Int} (h:(u.fs.length:Int)≤f):ownL u r f op = []:=by
 unfold ownL;rw [if_neg (by omega),List.getElem?_eq_none (by omega)];rfl
theorem ownL_at {u:Unt} {r:Rsl} {op:Int} {m:Nat} (hm:m < u.fs.length):ownL u r (m:Int) op=celQ u r (m:Int) op u.fs[m].code u.fs[m].code.length:=by
 unfold ownL;rw [if_neg (by omega),Int.toNat_natCast,List.getElem?_eq_getElem hm];rfl
theorem celSet_nil:celSet [] = []:=by
 have:=celSet_len []
 exact List.eq_nil_of_length_eq_zero (by simpa using this)
theorem celSet_step {u:Unt} {r:Rsl} {f op:Int} {code:List Ins} {q:Nat} (hq:q < code.length) (h:code[q].op=op) :
 celPuts (celSet (celQ u r f op code q)) (celPuts [] (celL u.h (sitL u) code[q].name (ofP u r f code[q].a)))=celSet (celQ u r f op code (q + 1)):=by
 rw [celPuts_set,celPuts_app,celQ_succ hq]
 unfold celI
 rw [if_pos h]
theorem celSet_skip {u:Unt} {r:Rsl} {f op:Int} {code:List Ins} {q:Nat} (hq:q < code.length) (h:¬ code[q].op=op):celQ u r f op code (q + 1)=celQ u r f op code q:=by
 rw [celQ_succ hq]
 unfold celI
 rw [if_neg h,List.append_nil]
def EffPost (M N:List Cel) (w:World) (e:Ending) (w':World):Prop:=Below w.heap.size w w' ∧
 ∃ ma mc na nc,e = .returned (.agg #[.slice ma M.length mc,.slice na N.length nc])∧(M.length≤mc∧CelsAt w' ma M)∧(N.length≤nc∧CelsAt w' na N)
theorem storeEff {ops:Array Oper} {rest:List Oper} {o:Oper} {a:Act} {w:World} {Q:Exit→Act→World→Prop} (hgd:o.guard=none) (x y:Operand) (ho:o.op = .store 42 x y)
 (g:Nat) (p1:Option Addr) (n1 c1:Nat) (p2:Option Addr) (n2 c2:Nat) (hx:a.eval x = .pointer (some ⟨g,0,none⟩)) (hy:a.eval y = .agg #[.slice p1 n1 c1,.slice p2 n2 c2])
 (old:Array Value) (hg:Blk w g old 42) (hold:old.size=2)
 (h:wpList Tryz.prog ops Q rest (a.put o.dst undef) (w.setRow g #[.slice p1 n1 c1,.slice p2 n2 c2])):wpList Tryz.prog ops Q (o :: rest) a w :=
 wpList_store_row hgd 42 x y ho g _ hx hy 42 old hg (by kernel_rfl) hold (by simp [Value.oneCell']) h
theorem celsAt_set {w w':World} {a:Option Addr} {l:List Cel} (h:CelsAt w a l) {g:Nat} {p1 p2:Option Addr} {n1 c1 n2 c2:Nat} (hB:Blk w g #[.slice p1 n1 c1,.slice p2 n2 c2] 42) (hg:w.grownBy w' (some g)):CelsAt w' a l:=by
 intro k hk
 obtain ⟨b,off,ha,h0,h1⟩:=h k hk
 have hne:some b ≠ some g:=by
  intro e
  cases e
  rw [cell_of_row _ _ _ _ _ _ hB] at h0
  rcases (show off + k * 2=0 ∨ off + k * 2=1 ∨ 2≤off + k * 2 by omega) with e | e | e
  ·rw [e] at h0;cases h0
  ·rw [e] at h0;cases h0
  ·rw [Array.getElem?_eq_none (by simpa using e)] at h0;cases h0
 exact ⟨b,off,ha,hg.cell h0 hne,hg.cell h1 hne⟩
structure RO (u:Unt) (ha:Option Addr) (hc:Nat) (fa:Option Addr) (fc:Nat) (r:Rsl) (p:RP) (M:List Cel) (ma:Option Addr) (mc:Nat) (N:List Cel) (na:Option Addr) (nc:Nat) (w wr:World):Prop where
 ub:URB u ha hc fa fc r p w wr
 b6:Blk wr (w.heap.size + 2) #[.slice none 0 0,.slice none 0 0] 42
 b7:Blk wr (w.heap.size + 3) #[.slice ma M.length mc,.slice na N.length nc] 42
 mm:M.length≤mc∧CelsAt wr ma M
 nn:N.length≤nc∧CelsAt wr na N
section
variable {u:Unt} {ha:Option Addr} {hc:Nat} {fa:Option Addr} {fc:Nat} {r:Rsl} {p:RP} {M:List Cel} {ma:Option Addr} {mc:Nat} {N:List Cel} {na:Option Addr} {nc:Nat} {w wr w':World}
theorem RO.below (k:RO u ha hc fa fc r p M ma mc N na nc w wr) (hb:Below wr.heap.size wr w'):RO u ha hc fa fc r p M ma mc N na nc w w' :=
 ⟨k.ub.below hb,k.b6.below hb,k.b7.below hb,⟨k.mm.1,k.mm.2.below hb⟩,⟨k.nn.1,k.nn.2.below hb⟩⟩
theorem RO.set0 {M':List Cel} {ma':Option Addr} {mc':Nat} (h0:ClssAt w ha u.h) (f0:FncsAt w fa u.fs) (r0:RslAt w p r) (k:RO u ha hc fa fc r p M ma mc N na nc w wr) (h1:M'.length≤mc') (h2:CelsAt wr ma' M'):RO u ha hc fa fc r p M' ma' mc' N na nc w (wr.setCell ⟨w.heap.size + 3,0,none⟩ (.slice ma' M'.length mc')):=by
 have hg:=grown_set wr (w.heap.size + 3) 0 (.slice ma' M'.length mc')
 exact ⟨k.ub.grow h0 f0 r0 hg (fun q hq=>by cases hq;omega),k.b6.grown hg (fun e=>by have:=Option.some.inj e;omega),by simpa using k.b7.set 0 (.slice ma' M'.length mc'),⟨h1,celsAt_set h2 k.b7 hg⟩,⟨k.nn.1,celsAt_set k.nn.2 k.b7 hg⟩⟩
theorem RO.set1 {N':List Cel} {na':Option Addr} {nc':Nat} (h0:ClssAt w ha u.h) (f0:FncsAt w fa u.fs) (r0:RslAt w p r) (k:RO u ha hc fa fc r p M ma mc N na nc w wr) (h1:N'.length≤nc') (h2:CelsAt wr na' N'):RO u ha hc fa fc r p M ma mc N' na' nc' w (wr.setCell ⟨w.heap.size + 3,1,none⟩ (.slice na' N'.length nc')):=by
 have hg:=grown_set wr (w.heap.size + 3) 1 (.slice na' N'.length nc')
 exact ⟨k.ub.grow h0 f0 r0 hg (fun q hq=>by cases hq;omega),k.b6.grown hg (fun e=>by have:=Option.some.inj e;omega),by simpa using k.b7.set 1 (.slice na' N'.length nc'),⟨k.mm.1,celsAt_set k.mm.2 k.b7 hg⟩,⟨h1,celsAt_set h2 k.b7 hg⟩⟩
end
set_option maxRecDepth 100000 in
set_option maxHeartbeats 16000000 in
theorem ownR26 (u:Unt) (ha:Option Addr) (hc:Nat) (fa:Option Addr) (fc:Nat) (r:Rsl) (p:RP) (f:Int) (w:World) (h:ClssAt w ha u.h) (hf:FncsAt w fa u.fs) (hr:RslAt w p r) (hk:UOk u fc r) :
 Calls Tryz.prog 8 #[unV u ha hc fa fc,rsV r p,.int .i64 f] w (EffPost (celSet (ownL u r f 8)) (celSet (ownL u r f 7)) w):=by
 have S00:Hid (URB u ha hc fa fc r p w _):=URB.start (hc:=hc) (fc:=fc) h hf hr
 have HZ:Hid (((w.alloc (unC u ha hc fa fc)).alloc (rsC r p)).heap.size=w.heap.size + 2):=by show _=_;simp
 have HM:Hid (ClssAt w ha u.h∧FncsAt w fa u.fs∧RslAt w p r):=⟨h,hf,hr⟩
 have HCE:Hid (∀ (v:Int) (fld:Str) w1,ClssAt w1 ha u.h→FncsAt w1 fa u.fs→RslAt w1 p r→Calls Tryz.prog 13 #[unV u ha hc fa fc,rsV r p,.int .i64 f,.int .i64 v,.string fld] w1 (CelsLie (celPuts [] (celL u.h (sitL u) fld (ofP u r f v))) w1)):=fun v fld w1 h1 h2 h3=>cellsR26 u ha hc fa fc r p f v fld w1 h1 h2 h3 hk
 have HCL:Hid (∀ v fld,(celPuts [] (celL u.h (sitL u) fld (ofP u r f v))).length≤4000):=fun v fld=>by
  have h1:=celPuts_len (celL u.h (sitL u) fld (ofP u r f v)) []
  have h2:=celL_len u.h (sitL u) fld (ofP u r f v)
  have h3:=hk.ofl f v
  simp at h1
  omega
 have HCO:Hid (∀ x ∈ u.fs,x.code.length≤150):=fun x hx=>(hk.fit.f x hx).c
 have HQL:Hid (∀ op code q,(celSet (celQ u r f op code q)).length≤q * 4000):=fun op code q=>Nat.le_trans (celSet_len _) (celQ_len hk f op code q)
 have HNE:Hid (f < 0→celSet (ownL u r f 8) = []∧celSet (ownL u r f 7) = []):=fun e=>by rw [ownL_neg e,ownL_neg e,celSet_nil];exact ⟨rfl,rfl⟩
 have HBI:Hid ((u.fs.length:Int)≤f→celSet (ownL u r f 8) = []∧celSet (ownL u r f 7) = []):=fun e=>by rw [ownL_big e,ownL_big e,celSet_nil];exact ⟨rfl,rfl⟩
 have HAT:Hid (∀ m (hm:m < u.fs.length),f=(m:Int)→celSet (ownL u r f 8)=celSet (celQ u r f 8 u.fs[m].code u.fs[m].code.length)∧celSet (ownL u r f 7)=celSet (celQ u r f 7 u.fs[m].code u.fs[m].code.length)):=fun m hm e=>by subst e;rw [ownL_at hm,ownL_at hm];exact ⟨rfl,rfl⟩
 have HST:Hid (∀ (op:Int) (code:List Ins) (q:Nat) (hq:q < code.length),code[q].op=op→celPuts (celSet (celQ u r f op code q)) (celPuts [] (celL u.h (sitL u) code[q].name (ofP u r f code[q].a)))=celSet (celQ u r f op code (q + 1))):=fun op code q hq e=>celSet_step hq e
 have HSK:Hid (∀ (op:Int) (code:List Ins) (q:Nat) (hq:q < code.length),¬ code[q].op=op→celSet (celQ u r f op code (q + 1))=celSet (celQ u r f op code q)):=fun op code q hq e=>by rw [celSet_skip hq e]
 have H00:Hid (∀ op code,celSet (celQ u r f op code 0) = []):=fun op code=>celSet_nil
 have HUN:Hid (∀ (a b:List Cel) (aa:Option Addr) (ac:Nat) (ba:Option Addr) (bc:Nat) (w1:World),CelsAt w1 aa a→a.length≤ac→CelsAt w1 ba b→a.length + b.length≤900000→Calls Tryz.prog 23 #[.slice aa a.length ac,.slice ba b.length bc] w1 (CelsLie (celPuts a b) w1)):=fun a b aa ac ba bc w1 h1 h2 h3 h4=>unionR26 a b aa ac ba bc w1 h1 h2 h3 h4
 have HRS:=Tryz.results8
 have hnf:=hk.fit.nf
 clear h hf hr hk
 generalize celSet (ownL u r f 8)=R8 at *
 generalize celSet (ownL u r f 7)=R7 at *
 obtain ⟨G,hG⟩:∃ G:Int→List Ins→Nat→List Cel,G=fun op code q=>celSet (celQ u r f op code q):=⟨_,rfl⟩
 have HG:Hid (∀ op code q,celSet (celQ u r f op code q)=G op code q):=fun op code q=>by rw [hG]
 clear hG
 simp only [HG.out] at HQL HAT HST HSK H00
 obtain ⟨K,hK⟩:∃ K:Str→Int→List Cel,K=fun fld v=>celPuts [] (celL u.h (sitL u) fld (ofP u r f v)):=⟨_,rfl⟩
 have HK:Hid (∀ fld v,celPuts [] (celL u.h (sitL u) fld (ofP u r f v))=K fld v):=fun fld v=>by rw [hK]
 clear hK
 simp only [HK.out] at HCE HCL HST
 clear HG HK
 unfold unV rsV at *
 go_enter Tryz.func8,Tryz.ntmps8
 go_upto_region 1 with (fail)
 have B60:Hid (Blk (((w.alloc (unC u ha hc fa fc)).alloc (rsC r p)).alloc (.cells #[.slice none 0 0,.slice none 0 0] 42)) (w.heap.size + 2) #[.slice none 0 0,.slice none 0 0] 42):=by
  have:=blk_new ((w.alloc (unC u ha hc fa fc)).alloc (rsC r p)) #[.slice none 0 0,.slice none 0 0] 42
  rw [HZ.out] at this
  exact this
 have S0:=Lib.hid (S00.out.below (one_below ((w.alloc (unC u ha hc fa fc)).alloc (rsC r p)) (.cells #[.slice none 0 0,.slice none 0 0] 42)))
 have HZ1:Hid ((((w.alloc (unC u ha hc fa fc)).alloc (rsC r p)).alloc (.cells #[.slice none 0 0,.slice none 0 0] 42)).heap.size=w.heap.size + 3):=by show _=_;simp
 clear S00 HZ
 generalize ((w.alloc _).alloc _).alloc _=W at *
 go_upto_region 2 with (fail)
 have S1:Hid (RO u ha hc fa fc r p [] none 0 [] none 0 w (W.alloc (.cells #[.slice none 0 0,.slice none 0 0] 42))):=by
  have hb:=one_below W (.cells #[.slice none 0 0,.slice none 0 0] 42)
  have h7:=blk_new W #[.slice none 0 0,.slice none 0 0] 42
  rw [HZ1.out] at h7
  exact ⟨S0.out.below hb,B60.out.below hb,h7,⟨Nat.le_refl _,fun k hk=>by simp at hk⟩,⟨Nat.le_refl _,fun k hk=>by simp at hk⟩⟩
 rw [HZ1.out]
 clear S0 B60 HZ1
 generalize W.alloc _=W1 at *
 obtain ⟨⟨z0,z1,z2⟩,z3,z4,z5,z6⟩:=S1.out.ub.now (Below.refl _ _)
 have y0:=S1.out.b7.cell 0 (by simp)
 have y1:=S1.out.b7.cell 1 (by simp)
 simp only [List.getElem_toArray,List.getElem_cons_zero,List.getElem_cons_succ] at y0 y1
 by_cases g1:f < 0
 case pos =>
  have t1:=decide_eq_true g1
  have HE:=Lib.hid (HNE.out g1)
  clear g1
  go_wp2_with (refine storeEff rfl _ _ rfl (w.heap.size + 2) _ _ _ _ _ _ rfl rfl _ S1.out.b6 rfl ?_)
  refine bodyPost_ret (v:=.agg #[.slice none 0 0,.slice none 0 0]) (results_c HRS _ _ (w.heap.size + 2) _ _ rfl (S1.out.b6.setRow _) Tryz.underlying42 rfl (by kernel_rfl)) rfl ?_
  rw [HE.out.1,HE.out.2]
  exact ⟨below_setRow S1.out.ub.ub.hb (by omega) _,none,0,none,0,rfl,⟨Nat.le_refl _,fun k hk=>by simp at hk⟩,⟨Nat.le_refl _,fun k hk=>by simp at hk⟩⟩
 have t1:=decide_eq_false g1
 by_cases g2:(u.fs.length:Int)≤f
 case pos =>
  have t2:=decide_eq_true g2
  have HE:=Lib.hid (HBI.out g2)
  clear g1 g2
  go_wp2_with (refine storeEff rfl _ _ rfl (w.heap.size + 2) _ _ _ _ _ _ rfl rfl _ S1.out.b6 rfl ?_)
  refine bodyPost_ret (v:=.agg #[.slice none 0 0,.slice none 0 0]) (results_c HRS _ _ (w.heap.size + 2) _ _ rfl (S1.out.b6.setRow _) Tryz.underlying42 rfl (by kernel_rfl)) rfl ?_
  rw [HE.out.1,HE.out.2]
  exact ⟨below_setRow S1.out.ub.ub.hb (by omega) _,none,0,none,0,rfl,⟨Nat.le_refl _,fun k hk=>by simp at hk⟩,⟨Nat.le_refl _,fun k hk=>by simp at hk⟩⟩
 have t2:=decide_eq_false g2
 obtain ⟨m,rfl⟩:∃ m:Nat,f=m:=⟨f.toNat,by omega⟩
 have hm:m < u.fs.length:=by omega
 have t2n:decide (u.fs.length≤m)=false:=by simp;omega
 have HE:=Lib.hid (HAT.out m hm rfl)
 have hcl:=HCO.out _ (List.getElem_mem hm)
 obtain ⟨b,off,va,vc,ca,cc,he,-,-,-,-,-,-,m6,-,hcode⟩:=HM.out.2.1 m hm
 subst he
 have HCC:Hid (∀ wx,Below w.heap.size w wx→wx.cell? ⟨b,off + m * 7 + 6,none⟩=some (.slice ca u.fs[m].code.length cc)∧InssAt wx ca u.fs[m].code):=fun wx hx=>⟨cell_below hx m6,hcode.below hx⟩
 clear m6 hcode HNE HBI HAT HCO y0 y1
 generalize u.fs[m].code=code at *
 clear g1 g2
 go_wp2
 clear z0 z1 z2 z3 z4 z5 z6 t2n
 go_loopw [8] (fun i wr=>∃ (q:Nat) (ma:Option Addr) (mc:Nat) (na:Option Addr) (nc:Nat),q≤code.length∧i = .int .i64 q∧Hid (RO u ha hc (some ⟨b,off,none⟩) fc r p (G 8 code q) ma mc (G 7 code q) na nc w wr)) (fun i _=>code.length - (intOf i).toNat)
 case atStart=>exact ⟨0,none,0,none,0,Nat.zero_le _,rfl,by rw [H00.out,H00.out];exact S1.out⟩
 case round =>
  clear S1 H00
  obtain ⟨q,ma,mc,na,nc,hq,rfl,S⟩:=hrel
  obtain ⟨⟨z0,z1,z2⟩,z3,z4,z5,z6⟩:=S.out.ub.now (Below.refl _ _)
  obtain ⟨m6,hins⟩:=HCC.out _ S.out.ub.ub.hb
  by_cases hql:q < code.length
  case neg =>
   obtain rfl:q=code.length:=by omega
   have y0:=S.out.b7.cell 0 (by simp)
   have y1:=S.out.b7.cell 1 (by simp)
   simp only [List.getElem_toArray,List.getElem_cons_zero,List.getElem_cons_succ] at y0 y1
   clear hins
   go_wp2_with (refine storeEff rfl _ _ rfl (w.heap.size + 2) _ _ _ _ _ _ rfl rfl _ S.out.b6 rfl ?_)
   refine bodyPost_ret (v:=.agg #[.slice ma (G 8 code code.length).length mc,.slice na (G 7 code code.length).length nc]) (results_c HRS _ _ (w.heap.size + 2) _ _ rfl (S.out.b6.setRow _) Tryz.underlying42 rfl (by kernel_rfl)) rfl ?_
   rw [HE.out.1,HE.out.2]
   have hgr:=grown_row wr (w.heap.size + 2) #[.slice ma (G 8 code code.length).length mc,.slice na (G 7 code code.length).length nc]
   exact ⟨below_setRow S.out.ub.ub.hb (by omega) _,ma,mc,na,nc,rfl,⟨S.out.mm.1,celsAt_set S.out.mm.2 S.out.b6 hgr⟩,⟨S.out.nn.1,celsAt_set S.out.nn.2 S.out.b6 hgr⟩⟩
  obtain ⟨b2,off2,ga,gc,he,n0,n1,n3,n4,n5,n6,n7,n8,n9,n10,-⟩:=hins q hql
  subst he
  have HSTq:Hid (∀ op:Int,code[q].op=op→celPuts (G op code q) (K code[q].name code[q].a)=G op code (q + 1)):=fun op e=>HST.out op code q hql e
  have HSKq:Hid (∀ op:Int,¬ code[q].op=op→G op code (q + 1)=G op code q):=fun op e=>HSK.out op code q hql e
  clear hins
  generalize code[q]=x at *
  have BZ:Hid (Blk (wr.alloc zInC) wr.heap.size _ 74):=blk_new ..
  go_upto_region 8 with (refine storeInstr rfl rfl _ _ rfl wr.heap.size x ga gc rfl rfl _ BZ.out rfl ?_)
  have hrow:=below_row (one_below wr zInC) (Nat.le_refl wr.heap.size) #[.int .i64 x.op,.int .i64 x.dst,.int .i64 x.a,.int .i64 x.b,.int .i64 x.n,.string x.cls,.string x.name,.slice ga x.args.length gc,.int .i64 x.goto,.int .i64 x.catch_]
  have B2:=Lib.hid (BZ.out.setRow #[.int .i64 x.op,.int .i64 x.dst,.int .i64 x.a,.int .i64 x.b,.int .i64 x.n,.string x.cls,.string x.name,.slice ga x.args.length gc,.int .i64 x.goto,.int .i64 x.catch_])
  have S2:=Lib.hid (S.out.below hrow)
  have hn2:wr.heap.size ≠ w.heap.size + 3:=by have:=S.out.b7.lt;omega
  clear S BZ hrow n0 n1 n3 n4 n5 n6 n7 n8 n9 n10 z0 z1 z2 z3 z4 z5 z6 m6
  generalize (wr.alloc zInC).setRow wr.heap.size _=W2 at *
  generalize wr.heap.size=n2 at *
  have y0:=B2.out.cell 0 (by simp)
  simp only [List.getElem_toArray,List.getElem_cons_zero] at y0
  by_cases h8:x.op=8
  case pos =>
   have t8:(x.op == 8)=true:=by simpa using h8
   have t7:(x.op == 7)=false:=by simp;omega
   have HS8:=Lib.hid (HSTq.out 8 h8)
   have HO8:=Lib.hid (HSKq.out 7 (by omega))
   have hq8:=HQL.out 8 code q
   have hqm:q * 4000≤600000:=by have:=Nat.mul_le_mul_right 4000 (show q≤150 by omega);omega
   have hk8:=HCL.out x.a x.name
   have k0:∀ o:WB W2,o.u.cell? ⟨w.heap.size + 3,0,none⟩=some (.slice ma (G 8 code q).length mc):=fun o=>(S2.out.below o.h).b7.cell 0 (by simp)
   have k1:∀ o:WB W2,o.u.cell? ⟨w.heap.size,0,none⟩=some (.slice ha u.h.length hc):=fun o=>(S2.out.ub.now o.h).1.1
   have k2:∀ o:WB W2,o.u.cell? ⟨w.heap.size,1,none⟩=some (.slice (some ⟨b,off,none⟩) u.fs.length fc):=fun o=>(S2.out.ub.now o.h).1.2.1
   have k3:∀ o:WB W2,o.u.cell? ⟨w.heap.size,2,none⟩=some (.int .i64 u.main):=fun o=>(S2.out.ub.now o.h).1.2.2
   have k4:∀ o:WB W2,o.u.cell? ⟨w.heap.size + 1,0,none⟩=some (.slice p.ra r.reached p.rc):=fun o=>(S2.out.ub.now o.h).2.1
   have k5:∀ o:WB W2,o.u.cell? ⟨w.heap.size + 1,1,none⟩=some (.slice p.ca r.calls.length p.cc):=fun o=>(S2.out.ub.now o.h).2.2.1
   have k6:∀ o:WB W2,o.u.cell? ⟨w.heap.size + 1,2,none⟩=some (.slice p.va r.vars.length p.vc):=fun o=>(S2.out.ub.now o.h).2.2.2.1
   have k7:∀ o:WB W2,o.u.cell? ⟨w.heap.size + 1,3,none⟩=some (.slice p.xa r.cells.length p.xc):=fun o=>(S2.out.ub.now o.h).2.2.2.2
   have k8:∀ o:WB W2,o.u.cell? ⟨n2,2,none⟩=some (.int .i64 x.a):=fun o=>(B2.out.below o.h).cell 2 (by simp)
   have k9:∀ o:WB W2,o.u.cell? ⟨n2,6,none⟩=some (.string x.name):=fun o=>(B2.out.below o.h).cell 6 (by simp)
   have hne:Nonempty (WB W2):=⟨⟨W2,Below.refl _ _⟩⟩
   have h0:Below W2.heap.size W2 W2.drew:=(Below.refl _ _).drew
   go_upto_region 9 with (fail)
   refine wp_region_Z (fun w'=>∃ o:WB W2,w' = o.u) 12 (by kernel_rfl) ?_
   change wpAnyZ _ _ _ _ _ _ _ _ _ W2.drew
   generalize W2.drew=V0 at *
   refine wpAnyZ_take 0 rfl (by kernel_rfl) (by kernel_rfl) (fun _ _ _ _ h=>h) ⟨⟨_,h0⟩,rfl⟩ (fun K hK=>?_);go_simp;refine hK _ ?_;clear hK K
   refine wpAnyZ_take 1 rfl (by kernel_rfl) (by kernel_rfl) (fun _ _ _ _ h=>h) ⟨⟨_,h0⟩,rfl⟩ (fun K hK=>?_);go_simp;refine hK _ ?_;clear hK K
   refine wpAnyZ_take 2 rfl (by kernel_rfl) (by kernel_rfl) (fun _ _ _ _ h=>h) ⟨⟨_,h0⟩,rfl⟩ (fun K hK=>?_);go_simp;refine hK _ ?_;clear hK K
   refine wpAnyZ_take 3 rfl (by kernel_rfl) (by kernel_rfl) (fun _ _ _ _ h=>h) ⟨⟨_,h0⟩,rfl⟩ (fun K hK=>?_);go_simp;refine hK _ ?_;clear hK K
   refine wpAnyZ_take 4 rfl (by kernel_rfl) (by kernel_rfl) (fun _ _ _ _ h=>h) ⟨⟨_,h0⟩,rfl⟩ (fun K hK=>?_);go_simp;refine hK _ ?_;clear hK K
   refine wpAnyZ_take 5 rfl (by kernel_rfl) (by kernel_rfl) (fun _ _ _ _ h=>h) ⟨⟨_,h0⟩,rfl⟩ (fun K hK=>?_);go_simp;refine hK _ ?_;clear hK K
   refine wpAnyZ_take 6 rfl (by kernel_rfl) (by kernel_rfl) (fun _ _ _ _ h=>h) ⟨⟨_,h0⟩,rfl⟩ (fun K hK=>?_);go_simp;refine hK _ ?_;clear hK K
   refine wpAnyZ_take 7 rfl (by kernel_rfl) (by kernel_rfl) (fun _ _ _ _ h=>h) ⟨⟨_,h0⟩,rfl⟩ (fun K hK=>?_);go_simp;refine hK _ ?_;clear hK K
   refine wpAnyZ_take 8 rfl (by kernel_rfl) (by kernel_rfl) (fun _ _ _ _ h=>h) ⟨⟨_,h0⟩,rfl⟩ (fun K hK=>?_);go_simp;refine hK _ ?_;clear hK K
   refine wpAnyZ_one 9 rfl (by kernel_rfl) ?_
   go_wp2_with fail
   refine (HCE.out x.a x.name _ (S2.out.below h0).ub.ub.h (S2.out.below h0).ub.ub.f (S2.out.below h0).ub.rb.m).mono ?_
   rintro e w4 ⟨hb4,ka,kc,rfl,hkc,hkat⟩
   have h4:Below W2.heap.size W2 w4:=h0.trans (hb4.mono h0.size)
   go_wp2
   refine ⟨⟨⟨_,h4⟩,rfl⟩,?_⟩
   refine wpAnyZ_one 10 rfl (by kernel_rfl) ?_
   go_wp2_with fail
   refine (HUN.out (G 8 code q) (K x.name x.a) ma mc ka kc _ (S2.out.below h4).mm.2 S2.out.mm.1 hkat (by omega)).mono ?_
   rintro e w5 ⟨hb5,qa,qc,rfl,hqc,hqat⟩
   have h5:Below W2.heap.size W2 w5:=h4.trans (hb5.mono h4.size)
   have S5:=Lib.hid (S2.out.below h5)
   have B5:=Lib.hid (B2.out.below h5)
   rw [HS8.out] at hqc hqat
   rw [HS8.out]
   have HQC:=Lib.hid hqc
   have HQA:=Lib.hid hqat
   go_wp2
   refine ⟨⟨⟨_,h5⟩,rfl⟩,?_⟩
   refine wpAnyZ_one 11 rfl (by kernel_rfl) ?_
   go_wp2
   refine ⟨⟨⟨_,h5⟩,rfl⟩,?_⟩
   have q1:=S5.out.b7.cell 0 (by simp)
   have q2:=S5.out.b7.free 0
   simp only [List.getElem_toArray,List.getElem_cons_zero] at q1
   clear k0 k1 k2 k3 k4 k5 k6 k7 k8 k9 hqc hqat
   refine wpAnyZ_last rfl (by kernel_rfl) ?_
   go_wp2
   refine wpAnyZ_done (by kernel_rfl) ?_ _
   have hgs:=grown_set w5 (w.heap.size + 3) 0 (.slice qa (G 8 code (q + 1)).length qc)
   have B6:=Lib.hid (B5.out.grown hgs (fun e=>hn2 (Option.some.inj e)))
   have S6:=Lib.hid (RO.set0 HM.out.1 HM.out.2.1 HM.out.2.2 S5.out HQC.out HQA.out)
   have y0:=B6.out.cell 0 (by simp)
   simp only [List.getElem_toArray,List.getElem_cons_zero] at y0
   clear hgs S5 B5 S2 B2 q1 q2 HQC HQA hb4 hb5 h0 h4 h5 hkat
   generalize w5.setCell _ _=W6 at *
   go_wp2
   go_roundw
   case rel =>
    exact ⟨q + 1,qa,qc,na,nc,by omega,by go_num,by rw [HO8.out];exact S6.out⟩
   case measure=>simp [intOf];omega
  case neg =>
   have t8:(x.op == 8)=false:=by simpa using h8
   by_cases h7:x.op=7
   case pos =>
    have t7:(x.op == 7)=true:=by simpa using h7
    have HS8:=Lib.hid (HSTq.out 7 h7)
    have HO8:=Lib.hid (HSKq.out 8 (by omega))
    have hq8:=HQL.out 7 code q
    have hqm:q * 4000≤600000:=by have:=Nat.mul_le_mul_right 4000 (show q≤150 by omega);omega
    have hk8:=HCL.out x.a x.name
    have k0:∀ o:WB W2,o.u.cell? ⟨w.heap.size + 3,1,none⟩=some (.slice na (G 7 code q).length nc):=fun o=>(S2.out.below o.h).b7.cell 1 (by simp)
    have k1:∀ o:WB W2,o.u.cell? ⟨w.heap.size,0,none⟩=some (.slice ha u.h.length hc):=fun o=>(S2.out.ub.now o.h).1.1
    have k2:∀ o:WB W2,o.u.cell? ⟨w.heap.size,1,none⟩=some (.slice (some ⟨b,off,none⟩) u.fs.length fc):=fun o=>(S2.out.ub.now o.h).1.2.1
    have k3:∀ o:WB W2,o.u.cell? ⟨w.heap.size,2,none⟩=some (.int .i64 u.main):=fun o=>(S2.out.ub.now o.h).1.2.2
    have k4:∀ o:WB W2,o.u.cell? ⟨w.heap.size + 1,0,none⟩=some (.slice p.ra r.reached p.rc):=fun o=>(S2.out.ub.now o.h).2.1
    have k5:∀ o:WB W2,o.u.cell? ⟨w.heap.size + 1,1,none⟩=some (.slice p.ca r.calls.length p.cc):=fun o=>(S2.out.ub.now o.h).2.2.1
    have k6:∀ o:WB W2,o.u.cell? ⟨w.heap.size + 1,2,none⟩=some (.slice p.va r.vars.length p.vc):=fun o=>(S2.out.ub.now o.h).2.2.2.1
    have k7:∀ o:WB W2,o.u.cell? ⟨w.heap.size + 1,3,none⟩=some (.slice p.xa r.cells.length p.xc):=fun o=>(S2.out.ub.now o.h).2.2.2.2
    have k8:∀ o:WB W2,o.u.cell? ⟨n2,2,none⟩=some (.int .i64 x.a):=fun o=>(B2.out.below o.h).cell 2 (by simp)
    have k9:∀ o:WB W2,o.u.cell? ⟨n2,6,none⟩=some (.string x.name):=fun o=>(B2.out.below o.h).cell 6 (by simp)
    have hne:Nonempty (WB W2):=⟨⟨W2,Below.refl _ _⟩⟩
    have h0:Below W2.heap.size W2 W2.drew:=(Below.refl _ _).drew
    go_upto_region 11 with (fail)
    refine wp_region_Z (fun w'=>∃ o:WB W2,w' = o.u) 12 (by kernel_rfl) ?_
    change wpAnyZ _ _ _ _ _ _ _ _ _ W2.drew
    generalize W2.drew=V0 at *
    refine wpAnyZ_take 0 rfl (by kernel_rfl) (by kernel_rfl) (fun _ _ _ _ h=>h) ⟨⟨_,h0⟩,rfl⟩ (fun K hK=>?_);go_simp;refine hK _ ?_;clear hK K
    refine wpAnyZ_take 1 rfl (by kernel_rfl) (by kernel_rfl) (fun _ _ _ _ h=>h) ⟨⟨_,h0⟩,rfl⟩ (fun K hK=>?_);go_simp;refine hK _ ?_;clear hK K
    refine wpAnyZ_take 2 rfl (by kernel_rfl) (by kernel_rfl) (fun _ _ _ _ h=>h) ⟨⟨_,h0⟩,rfl⟩ (fun K hK=>?_);go_simp;refine hK _ ?_;clear hK K
    refine wpAnyZ_take 3 rfl (by kernel_rfl) (by kernel_rfl) (fun _ _ _ _ h=>h) ⟨⟨_,h0⟩,rfl⟩ (fun K hK=>?_);go_simp;refine hK _ ?_;clear hK K
    refine wpAnyZ_take 4 rfl (by kernel_rfl) (by kernel_rfl) (fun _ _ _ _ h=>h) ⟨⟨_,h0⟩,rfl⟩ (fun K hK=>?_);go_simp;refine hK _ ?_;clear hK K
    refine wpAnyZ_take 5 rfl (by kernel_rfl) (by kernel_rfl) (fun _ _ _ _ h=>h) ⟨⟨_,h0⟩,rfl⟩ (fun K hK=>?_);go_simp;refine hK _ ?_;clear hK K
    refine wpAnyZ_take 6 rfl (by kernel_rfl) (by kernel_rfl) (fun _ _ _ _ h=>h) ⟨⟨_,h0⟩,rfl⟩ (fun K hK=>?_);go_simp;refine hK _ ?_;clear hK K
    refine wpAnyZ_take 7 rfl (by kernel_rfl) (by kernel_rfl) (fun _ _ _ _ h=>h) ⟨⟨_,h0⟩,rfl⟩ (fun K hK=>?_);go_simp;refine hK _ ?_;clear hK K
    refine wpAnyZ_take 8 rfl (by kernel_rfl) (by kernel_rfl) (fun _ _ _ _ h=>h) ⟨⟨_,h0⟩,rfl⟩ (fun K hK=>?_);go_simp;refine hK _ ?_;clear hK K
    refine wpAnyZ_one 9 rfl (by kernel_rfl) ?_
    go_wp2_with fail
    refine (HCE.out x.a x.name _ (S2.out.below h0).ub.ub.h (S2.out.below h0).ub.ub.f (S2.out.below h0).ub.rb.m).mono ?_
    rintro e w4 ⟨hb4,ka,kc,rfl,hkc,hkat⟩
    have h4:Below W2.heap.size W2 w4:=h0.trans (hb4.mono h0.size)
    go_wp2
    refine ⟨⟨⟨_,h4⟩,rfl⟩,?_⟩
    refine wpAnyZ_one 10 rfl (by kernel_rfl) ?_
    go_wp2_with fail
    refine (HUN.out (G 7 code q) (K x.name x.a) na nc ka kc _ (S2.out.below h4).nn.2 S2.out.nn.1 hkat (by omega)).mono ?_
    rintro e w5 ⟨hb5,qa,qc,rfl,hqc,hqat⟩
    have h5:Below W2.heap.size W2 w5:=h4.trans (hb5.mono h4.size)
    have S5:=Lib.hid (S2.out.below h5)
    have B5:=Lib.hid (B2.out.below h5)
    rw [HS8.out] at hqc hqat
    rw [HS8.out]
    have HQC:=Lib.hid hqc
    have HQA:=Lib.hid hqat
    go_wp2
    refine ⟨⟨⟨_,h5⟩,rfl⟩,?_⟩
    refine wpAnyZ_one 11 rfl (by kernel_rfl) ?_
    go_wp2
    refine ⟨⟨⟨_,h5⟩,rfl⟩,?_⟩
    have q1:=S5.out.b7.cell 1 (by simp)
    have q2:=S5.out.b7.free 1
    simp only [List.getElem_toArray,List.getElem_cons_zero,List.getElem_cons_succ] at q1
    clear k0 k1 k2 k3 k4 k5 k6 k7 k8 k9 hqc hqat
    refine wpAnyZ_last rfl (by kernel_rfl) ?_
    go_wp2
    refine wpAnyZ_done (by kernel_rfl) ?_ _
    have hgs:=grown_set w5 (w.heap.size + 3) 1 (.slice qa (G 7 code (q + 1)).length qc)
    have B6:=Lib.hid (B5.out.grown hgs (fun e=>hn2 (Option.some.inj e)))
    have S6:=Lib.hid (RO.set1 HM.out.1 HM.out.2.1 HM.out.2.2 S5.out HQC.out HQA.out)
    have y0:=B6.out.cell 0 (by simp)
    simp only [List.getElem_toArray,List.getElem_cons_zero] at y0
    clear hgs S5 B5 S2 B2 q1 q2 HQC HQA hb4 hb5 h0 h4 h5 hkat
    generalize w5.setCell _ _=W6 at *
    go_wp2
    go_roundw
    case rel=>exact ⟨q + 1,ma,mc,qa,qc,by omega,by go_num,by rw [HO8.out];exact S6.out⟩
    case measure=>simp [intOf];omega
   case neg =>
    have t7:(x.op == 7)=false:=by simpa using h7
    have HO8:=Lib.hid (HSKq.out 8 h8)
    have HO7:=Lib.hid (HSKq.out 7 h7)
    go_wp2
    go_roundw
    case rel=>exact ⟨q + 1,ma,mc,na,nc,by omega,by go_num,by rw [HO8.out,HO7.out];exact S2.out⟩
    case measure=>simp [intOf];omega
end Go.Proofs.YthbialnddkboiaaGreatDoor
