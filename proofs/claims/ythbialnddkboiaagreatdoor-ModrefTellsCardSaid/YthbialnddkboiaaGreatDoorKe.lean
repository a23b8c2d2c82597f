/-
  The law ModrefTells returns true. (Printed by genke.py.)
-/
import Derived.Test.YthbialnddkboiaaGreatDoorKc
import Derived.Test.YthbialnddkboiaaGreatDoorKd
import Derived.Test.YthbialnddkboiaaGreatDoorWF
import Derived.Test.YthbialnddkboiaaGreatDoorRG
namespace Go.Proofs.YthbialnddkboiaaGreatDoor
open Go.RowKit Go.Unit0 Go.AM

structure AskQ where
 f:Int
 v:Int
 g:Int
 x:Int
 fld:Str
abbrev askC (q:AskQ):Array Value:=#[.int .i64 q.f,.int .i64 q.v,.int .i64 q.g,.int .i64 q.x,.string q.fld]
structure LT (u:Unt) (ha:Option Addr) (hc:Nat) (fa:Option Addr) (fc:Nat) (r:Rsl) (p:RP) (q:AskQ) (w wr:World):Prop where
 ub:URB u ha hc fa fc r p w wr
 bq:Blk wr (w.heap.size + 2) (askC q) 36
theorem LT.below {u:Unt} {ha:Option Addr} {hc:Nat} {fa:Option Addr} {fc:Nat} {r:Rsl} {p:RP} {q:AskQ} {w wr w':World} (k:LT u ha hc fa fc r p q w wr) (hb:Below wr.heap.size wr w'):LT u ha hc fa fc r p q w w':=⟨k.ub.below hb,k.bq.below hb⟩
structure EffAt (M N:List Cel) (ma:Option Addr) (mc:Nat) (na:Option Addr) (nc:Nat) (w:World):Prop where
 ml:M.length≤mc
 ma:CelsAt w ma M
 nl:N.length≤nc
 na:CelsAt w na N
section
variable {M N:List Cel} {ma:Option Addr} {mc:Nat} {na:Option Addr} {nc:Nat} {w w':World}
theorem EffAt.below (k:EffAt M N ma mc na nc w) (hb:Below w.heap.size w w'):EffAt M N ma mc na nc w':=⟨k.ml,k.ma.below hb,k.nl,k.na.below hb⟩
theorem EffAt.grown (k:EffAt M N ma mc na nc w) {g:Nat} {p1 p2:Option Addr} {n1 c1 n2 c2:Nat} (hB:Blk w g #[.slice p1 n1 c1,.slice p2 n2 c2] 42) (hg:w.grownBy w' (some g)):EffAt M N ma mc na nc w':=⟨k.ml,celsAt_set k.ma hB hg,k.nl,celsAt_set k.na hB hg⟩
end
abbrev zEfC:Obj:=.cells #[.slice none 0 0,.slice none 0 0] 42
theorem fit_mono {u:Unt} {m n:Nat} (h:FitOk u m) (hm:m≤n):FitOk u n:=⟨h.nf,h.nc,h.c,fun f hf=>⟨Nat.le_trans (h.f f hf).c hm,Nat.le_trans (h.f f hf).v hm,(h.f f hf).a⟩,Nat.le_trans h.t hm⟩
set_option maxRecDepth 100000 in
set_option maxHeartbeats 16000000 in
theorem tells26 (AWK:World→Prop) (hbel:∀ w w',AWK w→Below w.heap.size w w'→AWK w') (hawk:∀ w,AWK w→Calls Tryz.prog 6 #[] w (Ret w (.bool true)))
 (u:Unt) (ha:Option Addr) (hc:Nat) (fa:Option Addr) (fc:Nat) (hcap:u.fs.length≤fc) (r:Rsl) (p:RP) (q:AskQ) (w:World) (hA:AWK w) (h:ClssAt w ha u.h) (hf:FncsAt w fa u.fs) (hr:RslAt w p r) :
 Calls Tryz.prog 3 #[unV u ha hc fa fc,rsV r p,.agg (askC q)] w (Ret w (.bool true)):=by
 have S00:Hid (URB u ha hc fa fc r p w _):=URB.start (hc:=hc) (fc:=fc) h hf hr
 have HZ:Hid (((w.alloc (unC u ha hc fa fc)).alloc (rsC r p)).heap.size=w.heap.size + 2):=by show _=_;simp
 have AW0:=Lib.hid hA
 have HAB:=Lib.hid hbel
 have HAK:=Lib.hid hawk
 have HSM:Hid (∀ w1,ClssAt w1 ha u.h→FncsAt w1 fa u.fs→Calls Tryz.prog 4 #[unV u ha hc fa fc,.int .i64 100] w1 (BPost (fun b=>b=true→FitOk u 100∧UnitOk u) w1)):=fun w1 h1 h2=>small11 u ha hc fa fc 100 w1 h1 h2 (by omega)
 have HFW:Hid (∀ w1,RslAt w1 p r→Calls Tryz.prog 5 #[rsV r p] w1 (BPost (fun b=>b=true→FewOk r) w1)):=fun w1 h1=>few21 r p w1 h1
 have HUK:Hid (FitOk u 100→FewOk r→UOk u fc r):=fun h1 h2=>⟨fit_mono h1 (by omega),hcap,h2⟩
 have HO1:Hid (UOk u fc r→∀ w1,ClssAt w1 ha u.h→FncsAt w1 fa u.fs→RslAt w1 p r→Calls Tryz.prog 7 #[unV u ha hc fa fc,rsV r p,.int .i64 q.f] w1 (EffPost (celSet (ownL u r q.f 8)) (celSet (ownL u r q.f 7)) w1)):=fun k w1 h1 h2 h3=>ownP11 u ha hc fa fc r p q.f w1 h1 h2 h3 k
 have HO2:Hid (UOk u fc r→∀ w1,ClssAt w1 ha u.h→FncsAt w1 fa u.fs→RslAt w1 p r→Calls Tryz.prog 8 #[unV u ha hc fa fc,rsV r p,.int .i64 q.f] w1 (EffPost (celSet (ownL u r q.f 8)) (celSet (ownL u r q.f 7)) w1)):=fun k w1 h1 h2 h3=>ownR26 u ha hc fa fc r p q.f w1 h1 h2 h3 k
 have HA1:Hid (UOk u fc r→∀ w1,ClssAt w1 ha u.h→FncsAt w1 fa u.fs→RslAt w1 p r→Calls Tryz.prog 9 #[unV u ha hc fa fc,rsV r p,.int .i64 q.f,.int .i64 q.v,.int .i64 q.g,.int .i64 q.x] w1 (Ret w1 (.bool (aliB (sitL u).length (ofP u r q.f q.v) (ofP u r q.g q.x))))):=fun k w1 h1 h2 h3=>aliasP13 u ha hc fa fc r p q.f q.v q.g q.x w1 h1 h2 h3 k
 have HA2:Hid (UOk u fc r→∀ w1,ClssAt w1 ha u.h→FncsAt w1 fa u.fs→RslAt w1 p r→Calls Tryz.prog 10 #[unV u ha hc fa fc,rsV r p,.int .i64 q.f,.int .i64 q.v,.int .i64 q.g,.int .i64 q.x] w1 (Ret w1 (.bool (aliB (sitL u).length (ofP u r q.f q.v) (ofP u r q.g q.x))))):=fun k w1 h1 h2 h3=>aliasR14 u ha hc fa fc r p q.f q.v q.g q.x w1 h1 h2 h3 k
 have HC1:Hid (UOk u fc r→∀ w1,ClssAt w1 ha u.h→FncsAt w1 fa u.fs→RslAt w1 p r→Calls Tryz.prog 12 #[unV u ha hc fa fc,rsV r p,.int .i64 q.f,.int .i64 q.v,.string q.fld] w1 (CelsLie (celSet (celL u.h (sitL u) q.fld (ofP u r q.f q.v))) w1)):=fun k w1 h1 h2 h3=>(cellsP16 u ha hc fa fc r p q.f q.v q.fld w1 h1 h2 h3 k).mono (fun _ _ h=>h.lie)
 have HC2:Hid (UOk u fc r→∀ w1,ClssAt w1 ha u.h→FncsAt w1 fa u.fs→RslAt w1 p r→Calls Tryz.prog 13 #[unV u ha hc fa fc,rsV r p,.int .i64 q.f,.int .i64 q.v,.string q.fld] w1 (CelsLie (celSet (celL u.h (sitL u) q.fld (ofP u r q.f q.v))) w1)):=fun k w1 h1 h2 h3=>by rw [← celPuts_set];exact cellsR26 u ha hc fa fc r p q.f q.v q.fld w1 h1 h2 h3 k
 have HLC:Hid (UOk u fc r→(celSet (celL u.h (sitL u) q.fld (ofP u r q.f q.v))).length≤1000000):=fun k=>by
  have h1:=celSet_len (celL u.h (sitL u) q.fld (ofP u r q.f q.v))
  have h2:=celL_len u.h (sitL u) q.fld (ofP u r q.f q.v)
  have h3:=k.ofl q.f q.v
  omega
 have HLO:Hid (UOk u fc r→∀ op,(celSet (ownL u r q.f op)).length≤1000000):=fun k op=>by
  have h1:=celSet_len (ownL u r q.f op)
  have h2:(ownL u r q.f op).length≤600000:=by
   unfold ownL
   split
   ·simp
   ·cases hx:u.fs[q.f.toNat]? with
    | none=>simp
    | some x =>
      obtain ⟨hi,rfl⟩:=List.getElem?_eq_some_iff.1 hx
      have h3:=celQ_len k q.f op u.fs[q.f.toNat].code u.fs[q.f.toNat].code.length
      have h4:=(k.fit.f _ (List.getElem_mem hi)).c
      have h5:=Nat.mul_le_mul_right 4000 h4
      show (celQ u r q.f op _ _).length≤_
      omega
  omega
 have HSA:Hid (∀ (l:List Cel) (pa:Option Addr) (ca:Nat) (pb:Option Addr) (cb:Nat) (w1:World),CelsAt w1 pa l→CelsAt w1 pb l→l.length≤1000000→Calls Tryz.prog 11 #[.slice pa l.length ca,.slice pb l.length cb] w1 (Ret w1 (.bool true))):=fun l pa ca pb cb w1 h1 h2 h3=>same26 l pa ca pb cb w1 h1 h2 h3
 clear hA h hf hr hbel hawk hcap
 generalize celSet (celL u.h (sitL u) q.fld (ofP u r q.f q.v))=CL at *
 generalize aliB (sitL u).length (ofP u r q.f q.v) (ofP u r q.g q.x)=AB at *
 have HLM:=Lib.hid (fun k=>HLO.out k 8)
 have HLN:=Lib.hid (fun k=>HLO.out k 7)
 clear HLO
 generalize celSet (ownL u r q.f 8)=M at *
 generalize celSet (ownL u r q.f 7)=N at *
 unfold unV rsV at *
 go_enter Tryz.func3,Tryz.ntmps3
 go_upto_region 1 with (fail)
 have S0:Hid (LT u ha hc fa fc r p q w (((w.alloc (unC u ha hc fa fc)).alloc (rsC r p)).alloc (.cells (askC q) 36))):=by
  have h8:=blk_new ((w.alloc (unC u ha hc fa fc)).alloc (rsC r p)) (askC q) 36
  rw [HZ.out] at h8
  exact ⟨S00.out.below (one_below ..),h8⟩
 clear S00 HZ
 generalize ((w.alloc _).alloc _).alloc _=W at *
 obtain ⟨⟨z0,z1,z2⟩,z3,z4,z5,z6⟩:=S0.out.ub.now (Below.refl _ _)
 go_wp2_with fail
 refine (HSM.out _ S0.out.ub.ub.h S0.out.ub.ub.f).mono ?_
 rintro e w1 ⟨hb1,d,rfl,hr1⟩
 have S1:=Lib.hid (S0.out.below hb1)
 have HR1:=Lib.hid hr1
 clear S0 hb1 hr1 HSM z0 z1 z2 z3 z4 z5 z6
 cases d
 case false =>
  go_wp2_with fail
  refine (HAK.out _ (HAB.out _ _ AW0.out S1.out.ub.ub.hb)).mono ?_
  rintro e w2 ⟨rfl,hb2⟩
  have S2:=Lib.hid (S1.out.below hb2)
  clear S1 hb2
  go_wp2
  go_ret
  exact ⟨rfl,S2.out.ub.ub.hb⟩
 have HFI:=Lib.hid (HR1.out rfl).1
 clear HR1
 obtain ⟨⟨z0,z1,z2⟩,z3,z4,z5,z6⟩:=S1.out.ub.now (Below.refl _ _)
 go_wp2_with fail
 refine (HFW.out _ S1.out.ub.rb.m).mono ?_
 rintro e w2 ⟨hb2,d,rfl,hr2⟩
 have S2:=Lib.hid (S1.out.below hb2)
 have HR2:=Lib.hid hr2
 clear S1 hb2 hr2 HFW z0 z1 z2 z3 z4 z5 z6
 cases d
 case false =>
  go_wp2_with fail
  refine (HAK.out _ (HAB.out _ _ AW0.out S2.out.ub.ub.hb)).mono ?_
  rintro e w3 ⟨rfl,hb3⟩
  have S3:=Lib.hid (S2.out.below hb3)
  clear S2 hb3
  go_wp2
  go_ret
  exact ⟨rfl,S3.out.ub.ub.hb⟩
 have HK:=Lib.hid (HUK.out HFI.out (HR2.out rfl))
 replace HO1:=Lib.hid (HO1.out HK.out)
 replace HO2:=Lib.hid (HO2.out HK.out)
 replace HA1:=Lib.hid (HA1.out HK.out)
 replace HA2:=Lib.hid (HA2.out HK.out)
 replace HC1:=Lib.hid (HC1.out HK.out)
 replace HC2:=Lib.hid (HC2.out HK.out)
 have hlc:=HLC.out HK.out
 have hlm:=HLM.out HK.out
 have hln:=HLN.out HK.out
 clear HUK HFI HR2 HK HLC HLM HLN
 go_upto_region 3 with (fail)
 go_cut [7,8] (fun a b wx=>∃ (g7 g8:Nat) (ma:Option Addr) (mc:Nat) (na:Option Addr) (nc:Nat) (ma':Option Addr) (mc':Nat) (na':Option Addr) (nc':Nat),a = .pointer (some ⟨g7,0,none⟩)∧b = .pointer (some ⟨g8,0,none⟩)∧Hid (LT u ha hc fa fc r p q w wx)∧Hid (Blk wx g7 #[.slice ma M.length mc,.slice na N.length nc] 42)∧Hid (Blk wx g8 #[.slice ma' M.length mc',.slice na' N.length nc'] 42)∧Hid (EffAt M N ma mc na nc wx)∧Hid (EffAt M N ma' mc' na' nc' wx))
 case first =>
  clear HA1 HA2 HC1 HC2 HSA AW0 HAB HAK
  have k1:∀ o:WB w2,o.u.cell? ⟨w.heap.size,0,none⟩=some (.slice ha u.h.length hc):=fun o=>(S2.out.ub.now o.h).1.1
  have k2:∀ o:WB w2,o.u.cell? ⟨w.heap.size,1,none⟩=some (.slice fa u.fs.length fc):=fun o=>(S2.out.ub.now o.h).1.2.1
  have k3:∀ o:WB w2,o.u.cell? ⟨w.heap.size,2,none⟩=some (.int .i64 u.main):=fun o=>(S2.out.ub.now o.h).1.2.2
  have k4:∀ o:WB w2,o.u.cell? ⟨w.heap.size + 1,0,none⟩=some (.slice p.ra r.reached p.rc):=fun o=>(S2.out.ub.now o.h).2.1
  have k5:∀ o:WB w2,o.u.cell? ⟨w.heap.size + 1,1,none⟩=some (.slice p.ca r.calls.length p.cc):=fun o=>(S2.out.ub.now o.h).2.2.1
  have k6:∀ o:WB w2,o.u.cell? ⟨w.heap.size + 1,2,none⟩=some (.slice p.va r.vars.length p.vc):=fun o=>(S2.out.ub.now o.h).2.2.2.1
  have k7:∀ o:WB w2,o.u.cell? ⟨w.heap.size + 1,3,none⟩=some (.slice p.xa r.cells.length p.xc):=fun o=>(S2.out.ub.now o.h).2.2.2.2
  have k8:∀ o:WB w2,o.u.cell? ⟨w.heap.size + 2,0,none⟩=some (.int .i64 q.f):=fun o=>(S2.out.below o.h).bq.cell 0 (by simp)
  have hne:Nonempty (WB w2):=⟨⟨w2,Below.refl _ _⟩⟩
  have h0:Below w2.heap.size w2 w2.drew:=(Below.refl _ _).drew
  refine wp_region_Y (fun w'=>∃ o:WB w2,w' = o.u) (by kernel_rfl) ?_
  change wpAnyY _ _ _ _ _ _ _ _ w2.drew
  generalize w2.drew=V0 at *
  refine wpAnyY_take 0 rfl (by kernel_rfl) (fun _ _ _ _ h=>h) ⟨⟨_,h0⟩,rfl⟩ (fun K hK=>?_);go_simp;refine hK _ ?_;clear hK K
  refine wpAnyY_take 1 rfl (by kernel_rfl) (fun _ _ _ _ h=>h) ⟨⟨_,h0⟩,rfl⟩ (fun K hK=>?_);go_simp;refine hK _ ?_;clear hK K
  refine wpAnyY_take 2 rfl (by kernel_rfl) (fun _ _ _ _ h=>h) ⟨⟨_,h0⟩,rfl⟩ (fun K hK=>?_);go_simp;refine hK _ ?_;clear hK K
  refine wpAnyY_take 3 rfl (by kernel_rfl) (fun _ _ _ _ h=>h) ⟨⟨_,h0⟩,rfl⟩ (fun K hK=>?_);go_simp;refine hK _ ?_;clear hK K
  refine wpAnyY_take 5 rfl (by kernel_rfl) (fun _ _ _ _ h=>h) ⟨⟨_,h0⟩,rfl⟩ (fun K hK=>?_);go_simp;refine hK _ ?_;clear hK K
  refine wpAnyY_take 6 rfl (by kernel_rfl) (fun _ _ _ _ h=>h) ⟨⟨_,h0⟩,rfl⟩ (fun K hK=>?_);go_simp;refine hK _ ?_;clear hK K
  refine wpAnyY_take 7 rfl (by kernel_rfl) (fun _ _ _ _ h=>h) ⟨⟨_,h0⟩,rfl⟩ (fun K hK=>?_);go_simp;refine hK _ ?_;clear hK K
  refine wpAnyY_take 8 rfl (by kernel_rfl) (fun _ _ _ _ h=>h) ⟨⟨_,h0⟩,rfl⟩ (fun K hK=>?_);go_simp;refine hK _ ?_;clear hK K
  clear k1 k2 k3 k4 k5 k6 k7 k8
  refine wpAnyY_three 4 10 11 rfl rfl rfl (by kernel_rfl) ?_ ?_ ?_
  ·go_wp2_with fail
   refine (HO1.out _ (S2.out.below h0).ub.ub.h (S2.out.below h0).ub.ub.f (S2.out.below h0).ub.rb.m).mono ?_
   rintro e X1 ⟨hb,ma,mc,na,nc,rfl,hm,hn⟩
   have y1:Below w2.heap.size w2 X1:=h0.trans (hb.mono h0.size)
   have EA:Hid (EffAt M N ma mc na nc X1):=⟨hm.1,hm.2,hn.1,hn.2⟩
   clear hb hm hn
   go_wp2
   refine ⟨⟨⟨_,y1⟩,rfl⟩,?_⟩
   refine wpAnyY_three 9 10 11 rfl rfl rfl (by kernel_rfl) ?_ ?_ ?_
   ·go_wp2_with fail
    refine (HO2.out _ (S2.out.below y1).ub.ub.h (S2.out.below y1).ub.ub.f (S2.out.below y1).ub.rb.m).mono ?_
    rintro e X2 ⟨hb,ma',mc',na',nc',rfl,hm,hn⟩
    have y2:Below w2.heap.size w2 X2:=y1.trans (hb.mono y1.size)
    replace EA:=Lib.hid (EA.out.below hb)
    have EB:Hid (EffAt M N ma' mc' na' nc' X2):=⟨hm.1,hm.2,hn.1,hn.2⟩
    clear hb hm hn
    go_wp2
    refine ⟨⟨⟨_,y2⟩,rfl⟩,?_⟩
    refine wpAnyY_two 10 11 rfl rfl (by kernel_rfl) ?_ ?_
    ·have hob:=one_below X2 zEfC
     have y3:Below w2.heap.size w2 (X2.alloc zEfC):=y2.trans (hob.mono y2.size)
     replace EA:=Lib.hid (EA.out.below hob)
     replace EB:=Lib.hid (EB.out.below hob)
     have B7:Hid (Blk (X2.alloc zEfC) X2.heap.size #[.slice none 0 0,.slice none 0 0] 42):=blk_new ..
     have hg7:=y2.size
     clear hob
     go_wp2
     refine ⟨⟨⟨_,y3⟩,rfl⟩,?_⟩
     generalize X2.alloc _=X3 at *
     generalize X2.heap.size=g7 at *
     refine wpAnyY_one 11 rfl (by kernel_rfl) ?_
     have hob:=one_below X3 zEfC
     have y4:Below w2.heap.size w2 (X3.alloc zEfC):=y3.trans (hob.mono y3.size)
     have h78:g7 ≠ X3.heap.size:=Nat.ne_of_lt B7.out.lt
     replace EA:=Lib.hid (EA.out.below hob)
     replace EB:=Lib.hid (EB.out.below hob)
     replace B7:=Lib.hid (B7.out.below hob)
     have B8:Hid (Blk (X3.alloc zEfC) X3.heap.size #[.slice none 0 0,.slice none 0 0] 42):=blk_new ..
     have hg8:=y3.size
     clear hob
     go_wp2
     refine ⟨⟨⟨_,y4⟩,rfl⟩,?_⟩
     generalize X3.alloc _=X4 at *
     generalize X3.heap.size=g8 at *
     refine wpAnyY_one 12 rfl (by kernel_rfl) ?_
     have hq7:=y4.size
     go_wp2_with (refine storeEff rfl _ _ rfl g7 _ _ _ _ _ _ rfl rfl _ B7.out rfl ?_)
     have x7:=below_setRow y4 hg7 #[.slice ma M.length mc,.slice na N.length nc]
     have hgr:=grown_row X4 g7 #[.slice ma M.length mc,.slice na N.length nc]
     have B7n:=Lib.hid (B7.out.setRow #[.slice ma M.length mc,.slice na N.length nc])
     have B8n:=Lib.hid (B8.out.setRow_ne (Ne.symm h78) #[.slice ma M.length mc,.slice na N.length nc])
     have EAn:=Lib.hid (EA.out.grown B7.out hgr)
     have EBn:=Lib.hid (EB.out.grown B7.out hgr)
     clear B7 B8 EA EB hgr
     refine ⟨⟨⟨_,x7⟩,rfl⟩,?_⟩
     generalize X4.setRow g7 _=WX at *
     refine wpAnyY_one 13 rfl (by kernel_rfl) ?_
     go_wp2_with (refine storeEff rfl _ _ rfl g8 _ _ _ _ _ _ rfl rfl _ B8n.out rfl ?_)
     have x8:=below_setRow x7 hg8 #[.slice ma' M.length mc',.slice na' N.length nc']
     have hgr:=grown_row WX g8 #[.slice ma' M.length mc',.slice na' N.length nc']
     refine ⟨⟨⟨_,x8⟩,rfl⟩,?_⟩
     refine wpAnyY_done (by kernel_rfl) ?_ _
     go_wp2
     go_meet
     exact ⟨g7,g8,ma,mc,na,nc,ma',mc',na',nc',rfl,rfl,S2.out.below x8,B7n.out.setRow_ne h78 _,B8n.out.setRow _,EAn.out.grown B8n.out hgr,EBn.out.grown B8n.out hgr⟩
    ·have hob:=one_below X2 zEfC
     have y5:Below w2.heap.size w2 (X2.alloc zEfC):=y2.trans (hob.mono y2.size)
     replace EA:=Lib.hid (EA.out.below hob)
     replace EB:=Lib.hid (EB.out.below hob)
     have B8:Hid (Blk (X2.alloc zEfC) X2.heap.size #[.slice none 0 0,.slice none 0 0] 42):=blk_new ..
     have hg8:=y2.size
     clear hob
     go_wp2
     refine ⟨⟨⟨_,y5⟩,rfl⟩,?_⟩
     generalize X2.alloc _=X5 at *
     generalize X2.heap.size=g8 at *
     refine wpAnyY_one 10 rfl (by kernel_rfl) ?_
     have hob:=one_below X5 zEfC
     have y6:Below w2.heap.size w2 (X5.alloc zEfC):=y5.trans (hob.mono y5.size)
     have h78:X5.heap.size ≠ g8:=Nat.ne_of_gt B8.out.lt
     replace EA:=Lib.hid (EA.out.below hob)
     replace EB:=Lib.hid (EB.out.below hob)
     replace B8:=Lib.hid (B8.out.below hob)
     have B7:Hid (Blk (X5.alloc zEfC) X5.heap.size #[.slice none 0 0,.slice none 0 0] 42):=blk_new ..
     have hg7:=y5.size
     clear hob
     go_wp2
     refine ⟨⟨⟨_,y6⟩,rfl⟩,?_⟩
     generalize X5.alloc _=X6 at *
     generalize X5.heap.size=g7 at *
     refine wpAnyY_one 12 rfl (by kernel_rfl) ?_
     have hq7:=y6.size
     go_wp2_with (refine storeEff rfl _ _ rfl g7 _ _ _ _ _ _ rfl rfl _ B7.out rfl ?_)
     have x7:=below_setRow y6 hg7 #[.slice ma M.length mc,.slice na N.length nc]
     have hgr:=grown_row X6 g7 #[.slice ma M.length mc,.slice na N.length nc]
     have B7n:=Lib.hid (B7.out.setRow #[.slice ma M.length mc,.slice na N.length nc])
     have B8n:=Lib.hid (B8.out.setRow_ne (Ne.symm h78) #[.slice ma M.length mc,.slice na N.length nc])
     have EAn:=Lib.hid (EA.out.grown B7.out hgr)
     have EBn:=Lib.hid (EB.out.grown B7.out hgr)
     clear B7 B8 EA EB hgr
     refine ⟨⟨⟨_,x7⟩,rfl⟩,?_⟩
     generalize X6.setRow g7 _=WX at *
     refine wpAnyY_one 13 rfl (by kernel_rfl) ?_
     go_wp2_with (refine storeEff rfl _ _ rfl g8 _ _ _ _ _ _ rfl rfl _ B8n.out rfl ?_)
     have x8:=below_setRow x7 hg8 #[.slice ma' M.length mc',.slice na' N.length nc']
     have hgr:=grown_row WX g8 #[.slice ma' M.length mc',.slice na' N.length nc']
     refine ⟨⟨⟨_,x8⟩,rfl⟩,?_⟩
     refine wpAnyY_done (by kernel_rfl) ?_ _
     go_wp2
     go_meet
     exact ⟨g7,g8,ma,mc,na,nc,ma',mc',na',nc',rfl,rfl,S2.out.below x8,B7n.out.setRow_ne h78 _,B8n.out.setRow _,EAn.out.grown B8n.out hgr,EBn.out.grown B8n.out hgr⟩
   ·have hob:=one_below X1 zEfC
    have y7:Below w2.heap.size w2 (X1.alloc zEfC):=y1.trans (hob.mono y1.size)
    replace EA:=Lib.hid (EA.out.below hob)
    have B7:Hid (Blk (X1.alloc zEfC) X1.heap.size #[.slice none 0 0,.slice none 0 0] 42):=blk_new ..
    have hg7:=y1.size
    clear hob
    go_wp2
    refine ⟨⟨⟨_,y7⟩,rfl⟩,?_⟩
    generalize X1.alloc _=X7 at *
    generalize X1.heap.size=g7 at *
    refine wpAnyY_two 9 11 rfl rfl (by kernel_rfl) ?_ ?_
    ·go_wp2_with fail
     refine (HO2.out _ (S2.out.below y7).ub.ub.h (S2.out.below y7).ub.ub.f (S2.out.below y7).ub.rb.m).mono ?_
     rintro e X8 ⟨hb,ma',mc',na',nc',rfl,hm,hn⟩
     have y8:Below w2.heap.size w2 X8:=y7.trans (hb.mono y7.size)
     replace EA:=Lib.hid (EA.out.below hb)
     replace B7:=Lib.hid (B7.out.below hb)
     have EB:Hid (EffAt M N ma' mc' na' nc' X8):=⟨hm.1,hm.2,hn.1,hn.2⟩
     clear hb hm hn
     go_wp2
     refine ⟨⟨⟨_,y8⟩,rfl⟩,?_⟩
     refine wpAnyY_one 11 rfl (by kernel_rfl) ?_
     have hob:=one_below X8 zEfC
     have y9:Below w2.heap.size w2 (X8.alloc zEfC):=y8.trans (hob.mono y8.size)
     have h78:g7 ≠ X8.heap.size:=Nat.ne_of_lt B7.out.lt
     replace EA:=Lib.hid (EA.out.below hob)
     replace EB:=Lib.hid (EB.out.below hob)
     replace B7:=Lib.hid (B7.out.below hob)
     have B8:Hid (Blk (X8.alloc zEfC) X8.heap.size #[.slice none 0 0,.slice none 0 0] 42):=blk_new ..
     have hg8:=y8.size
     clear hob
     go_wp2
     refine ⟨⟨⟨_,y9⟩,rfl⟩,?_⟩
     generalize X8.alloc _=X9 at *
     generalize X8.heap.size=g8 at *
     refine wpAnyY_one 12 rfl (by kernel_rfl) ?_
     have hq7:=y9.size
     go_wp2_with (refine storeEff rfl _ _ rfl g7 _ _ _ _ _ _ rfl rfl _ B7.out rfl ?_)
     have x7:=below_setRow y9 hg7 #[.slice ma M.length mc,.slice na N.length nc]
     have hgr:=grown_row X9 g7 #[.slice ma M.length mc,.slice na N.length nc]
     have B7n:=Lib.hid (B7.out.setRow #[.slice ma M.length mc,.slice na N.length nc])
     have B8n:=Lib.hid (B8.out.setRow_ne (Ne.symm h78) #[.slice ma M.length mc,.slice na N.length nc])
     have EAn:=Lib.hid (EA.out.grown B7.out hgr)
     have EBn:=Lib.hid (EB.out.grown B7.out hgr)
     clear B7 B8 EA EB hgr
     refine ⟨⟨⟨_,x7⟩,rfl⟩,?_⟩
     generalize X9.setRow g7 _=WX at *
     refine wpAnyY_one 13 rfl (by kernel_rfl) ?_
     go_wp2_with (refine storeEff rfl _ _ rfl g8 _ _ _ _ _ _ rfl rfl _ B8n.out rfl ?_)
     have x8:=below_setRow x7 hg8 #[.slice ma' M.length mc',.slice na' N.length nc']
     have hgr:=grown_row WX g8 #[.slice ma' M.length mc',.slice na' N.length nc']
     refine ⟨⟨⟨_,x8⟩,rfl⟩,?_⟩
     refine wpAnyY_done (by kernel_rfl) ?_ _
     go_wp2
     go_meet
     exact ⟨g7,g8,ma,mc,na,nc,ma',mc',na',nc',rfl,rfl,S2.out.below x8,B7n.out.setRow_ne h78 _,B8n.out.setRow _,EAn.out.grown B8n.out hgr,EBn.out.grown B8n.out hgr⟩
    ·have hob:=one_below X7 zEfC
     have y10:Below w2.heap.size w2 (X7.alloc zEfC):=y7.trans (hob.mono y7.size)
     have h78:g7 ≠ X7.heap.size:=Nat.ne_of_lt B7.out.lt
     replace EA:=Lib.hid (EA.out.below hob)
     replace B7:=Lib.hid (B7.out.below hob)
     have B8:Hid (Blk (X7.alloc zEfC) X7.heap.size #[.slice none 0 0,.slice none 0 0] 42):=blk_new ..
     have hg8:=y7.size
     clear hob
     go_wp2
     refine ⟨⟨⟨_,y10⟩,rfl⟩,?_⟩
     generalize X7.alloc _=X10 at *
     generalize X7.heap.size=g8 at *
     refine wpAnyY_one 9 rfl (by kernel_rfl) ?_
     go_wp2_with fail
     refine (HO2.out _ (S2.out.below y10).ub.ub.h (S2.out.below y10).ub.ub.f (S2.out.below y10).ub.rb.m).mono ?_
     rintro e X11 ⟨hb,ma',mc',na',nc',rfl,hm,hn⟩
     have y11:Below w2.heap.size w2 X11:=y10.trans (hb.mono y10.size)
     replace EA:=Lib.hid (EA.out.below hb)
     replace B7:=Lib.hid (B7.out.below hb)
     replace B8:=Lib.hid (B8.out.below hb)
     have EB:Hid (EffAt M N ma' mc' na' nc' X11):=⟨hm.1,hm.2,hn.1,hn.2⟩
     clear hb hm hn
     go_wp2
     refine ⟨⟨⟨_,y11⟩,rfl⟩,?_⟩
     refine wpAnyY_one 12 rfl (by kernel_rfl) ?_
     have hq7:=y11.size
     go_wp2_with (refine storeEff rfl _ _ rfl g7 _ _ _ _ _ _ rfl rfl _ B7.out rfl ?_)
     have x7:=below_setRow y11 hg7 #[.slice ma M.length mc,.slice na N.length nc]
     have hgr:=grown_row X11 g7 #[.slice ma M.length mc,.slice na N.length nc]
     have B7n:=Lib.hid (B7.out.setRow #[.slice ma M.length mc,.slice na N.length nc])
     have B8n:=Lib.hid (B8.out.setRow_ne (Ne.symm h78) #[.slice ma M.length mc,.slice na N.length nc])
     have EAn:=Lib.hid (EA.out.grown B7.out hgr)
     have EBn:=Lib.hid (EB.out.grown B7.out hgr)
     clear B7 B8 EA EB hgr
     refine ⟨⟨⟨_,x7⟩,rfl⟩,?_⟩
     generalize X11.setRow g7 _=WX at *
     refine wpAnyY_one 13 rfl (by kernel_rfl) ?_
     go_wp2_with (refine storeEff rfl _ _ rfl g8 _ _ _ _ _ _ rfl rfl _ B8n.out rfl ?_)
     have x8:=below_setRow x7 hg8 #[.slice ma' M.length mc',.slice na' N.length nc']
     have hgr:=grown_row WX g8 #[.slice ma' M.length mc',.slice na' N.length nc']
     refine ⟨⟨⟨_,x8⟩,rfl⟩,?_⟩
     refine wpAnyY_done (by kernel_rfl) ?_ _
     go_wp2
     go_meet
     exact ⟨g7,g8,ma,mc,na,nc,ma',mc',na',nc',rfl,rfl,S2.out.below x8,B7n.out.setRow_ne h78 _,B8n.out.setRow _,EAn.out.grown B8n.out hgr,EBn.out.grown B8n.out hgr⟩
   ·have hob:=one_below X1 zEfC
    have y12:Below w2.heap.size w2 (X1.alloc zEfC):=y1.trans (hob.mono y1.size)
    replace EA:=Lib.hid (EA.out.below hob)
    have B8:Hid (Blk (X1.alloc zEfC) X1.heap.size #[.slice none 0 0,.slice none 0 0] 42):=blk_new ..
    have hg8:=y1.size
    clear hob
    go_wp2
    refine ⟨⟨⟨_,y12⟩,rfl⟩,?_⟩
    generalize X1.alloc _=X12 at *
    generalize X1.heap.size=g8 at *
    refine wpAnyY_two 9 10 rfl rfl (by kernel_rfl) ?_ ?_
    ·go_wp2_with fail
     refine (HO2.out _ (S2.out.below y12).ub.ub.h (S2.out.below y12).ub.ub.f (S2.out.below y12).ub.rb.m).mono ?_
     rintro e X13 ⟨hb,ma',mc',na',nc',rfl,hm,hn⟩
     have y13:Below w2.heap.size w2 X13:=y12.trans (hb.mono y12.size)
     replace EA:=Lib.hid (EA.out.below hb)
     replace B8:=Lib.hid (B8.out.below hb)
     have EB:Hid (EffAt M N ma' mc' na' nc' X13):=⟨hm.1,hm.2,hn.1,hn.2⟩
     clear hb hm hn
     go_wp2
     refine ⟨⟨⟨_,y13⟩,rfl⟩,?_⟩
     refine wpAnyY_one 10 rfl (by kernel_rfl) ?_
     have hob:=one_below X13 zEfC
     have y14:Below w2.heap.size w2 (X13.alloc zEfC):=y13.trans (hob.mono y13.size)
     have h78:X13.heap.size ≠ g8:=Nat.ne_of_gt B8.out.lt
     replace EA:=Lib.hid (EA.out.below hob)
     replace EB:=Lib.hid (EB.out.below hob)
     replace B8:=Lib.hid (B8.out.below hob)
     have B7:Hid (Blk (X13.alloc zEfC) X13.heap.size #[.slice none 0 0,.slice none 0 0] 42):=blk_new ..
     have hg7:=y13.size
     clear hob
     go_wp2
     refine ⟨⟨⟨_,y14⟩,rfl⟩,?_⟩
     generalize X13.alloc _=X14 at *
     generalize X13.heap.size=g7 at *
     refine wpAnyY_one 12 rfl (by kernel_rfl) ?_
     have hq7:=y14.size
     go_wp2_with (refine storeEff rfl _ _ rfl g7 _ _ _ _ _ _ rfl rfl _ B7.out rfl ?_)
     have x7:=below_setRow y14 hg7 #[.slice ma M.length mc,.slice na N.length nc]
     have hgr:=grown_row X14 g7 #[.slice ma M.length mc,.slice na N.length nc]
     have B7n:=Lib.hid (B7.out.setRow #[.slice ma M.length mc,.slice na N.length nc])
     have B8n:=Lib.hid (B8.out.setRow_ne (Ne.symm h78) #[.slice ma M.length mc,.slice na N.length nc])
     have EAn:=Lib.hid (EA.out.grown B7.out hgr)
     have EBn:=Lib.hid (EB.out.grown B7.out hgr)
     clear B7 B8 EA EB hgr
     refine ⟨⟨⟨_,x7⟩,rfl⟩,?_⟩
     generalize X14.setRow g7 _=WX at *
     refine wpAnyY_one 13 rfl (by kernel_rfl) ?_
     go_wp2_with (refine storeEff rfl _ _ rfl g8 _ _ _ _ _ _ rfl rfl _ B8n.out rfl ?_)
     have x8:=below_setRow x7 hg8 #[.slice ma' M.length mc',.slice na' N.length nc']
     have hgr:=grown_row WX g8 #[.slice ma' M.length mc',.slice na' N.length nc']
     refine ⟨⟨⟨_,x8⟩,rfl⟩,?_⟩
     refine wpAnyY_done (by kernel_rfl) ?_ _
     go_wp2
     go_meet
     exact ⟨g7,g8,ma,mc,na,nc,ma',mc',na',nc',rfl,rfl,S2.out.below x8,B7n.out.setRow_ne h78 _,B8n.out.setRow _,EAn.out.grown B8n.out hgr,EBn.out.grown B8n.out hgr⟩
    ·have hob:=one_below X12 zEfC
     have y15:Below w2.heap.size w2 (X12.alloc zEfC):=y12.trans (hob.mono y12.size)
     have h78:X12.heap.size ≠ g8:=Nat.ne_of_gt B8.out.lt
     replace EA:=Lib.hid (EA.out.below hob)
     replace B8:=Lib.hid (B8.out.below hob)
     have B7:Hid (Blk (X12.alloc zEfC) X12.heap.size #[.slice none 0 0,.slice none 0 0] 42):=blk_new ..
     have hg7:=y12.size
     clear hob
     go_wp2
     refine ⟨⟨⟨_,y15⟩,rfl⟩,?_⟩
     generalize X12.alloc _=X15 at *
     generalize X12.heap.size=g7 at *
     refine wpAnyY_one 9 rfl (by kernel_rfl) ?_
     go_wp2_with fail
     refine (HO2.out _ (S2.out.below y15).ub.ub.h (S2.out.below y15).ub.ub.f (S2.out.below y15).ub.rb.m).mono ?_
     rintro e X16 ⟨hb,ma',mc',na',nc',rfl,hm,hn⟩
     have y16:Below w2.heap.size w2 X16:=y15.trans (hb.mono y15.size)
     replace EA:=Lib.hid (EA.out.below hb)
     replace B7:=Lib.hid (B7.out.below hb)
     replace B8:=Lib.hid (B8.out.below hb)
     have EB:Hid (EffAt M N ma' mc' na' nc' X16):=⟨hm.1,hm.2,hn.1,hn.2⟩
     clear hb hm hn
     go_wp2
     refine ⟨⟨⟨_,y16⟩,rfl⟩,?_⟩
     refine wpAnyY_one 12 rfl (by kernel_rfl) ?_
     have hq7:=y16.size
     go_wp2_with (refine storeEff rfl _ _ rfl g7 _ _ _ _ _ _ rfl rfl _ B7.out rfl ?_)
     have x7:=below_setRow y16 hg7 #[.slice ma M.length mc,.slice na N.length nc]
     have hgr:=grown_row X16 g7 #[.slice ma M.length mc,.slice na N.length nc]
     have B7n:=Lib.hid (B7.out.setRow #[.slice ma M.length mc,.slice na N.length nc])
     have B8n:=Lib.hid (B8.out.setRow_ne (Ne.symm h78) #[.slice ma M.length mc,.slice na N.length nc])
     have EAn:=Lib.hid (EA.out.grown B7.out hgr)
     have EBn:=Lib.hid (EB.out.grown B7.out hgr)
     clear B7 B8 EA EB hgr
     refine ⟨⟨⟨_,x7⟩,rfl⟩,?_⟩
     generalize X16.setRow g7 _=WX at *
     refine wpAnyY_one 13 rfl (by kernel_rfl) ?_
     go_wp2_with (refine storeEff rfl _ _ rfl g8 _ _ _ _ _ _ rfl rfl _ B8n.out rfl ?_)
     have x8:=below_setRow x7 hg8 #[.slice ma' M.length mc',.slice na' N.length nc']
     have hgr:=grown_row WX g8 #[.slice ma' M.length mc',.slice na' N.length nc']
     refine ⟨⟨⟨_,x8⟩,rfl⟩,?_⟩
     refine wpAnyY_done (by kernel_rfl) ?_ _
     go_wp2
     go_meet
     exact ⟨g7,g8,ma,mc,na,nc,ma',mc',na',nc',rfl,rfl,S2.out.below x8,B7n.out.setRow_ne h78 _,B8n.out.setRow _,EAn.out.grown B8n.out hgr,EBn.out.grown B8n.out hgr⟩
  ·have hob:=one_below V0 zEfC
   have y17:Below w2.heap.size w2 (V0.alloc zEfC):=h0.trans (hob.mono h0.size)
   have B7:Hid (Blk (V0.alloc zEfC) V0.heap.size #[.slice none 0 0,.slice none 0 0] 42):=blk_new ..
   have hg7:=h0.size
   clear hob
   go_wp2
   refine ⟨⟨⟨_,y17⟩,rfl⟩,?_⟩
   generalize V0.alloc _=X17 at *
   generalize V0.heap.size=g7 at *
   refine wpAnyY_two 4 11 rfl rfl (by kernel_rfl) ?_ ?_
   ·go_wp2_with fail
    refine (HO1.out _ (S2.out.below y17).ub.ub.h (S2.out.below y17).ub.ub.f (S2.out.below y17).ub.rb.m).mono ?_
    rintro e X18 ⟨hb,ma,mc,na,nc,rfl,hm,hn⟩
    have y18:Below w2.heap.size w2 X18:=y17.trans (hb.mono y17.size)
    replace B7:=Lib.hid (B7.out.below hb)
    have EA:Hid (EffAt M N ma mc na nc X18):=⟨hm.1,hm.2,hn.1,hn.2⟩
    clear hb hm hn
    go_wp2
    refine ⟨⟨⟨_,y18⟩,rfl⟩,?_⟩
    refine wpAnyY_two 9 11 rfl rfl (by kernel_rfl) ?_ ?_
    ·go_wp2_with fail
     refine (HO2.out _ (S2.out.below y18).ub.ub.h (S2.out.below y18).ub.ub.f (S2.out.below y18).ub.rb.m).mono ?_
     rintro e X19 ⟨hb,ma',mc',na',nc',rfl,hm,hn⟩
     have y19:Below w2.heap.size w2 X19:=y18.trans (hb.mono y18.size)
     replace EA:=Lib.hid (EA.out.below hb)
     replace B7:=Lib.hid (B7.out.below hb)
     have EB:Hid (EffAt M N ma' mc' na' nc' X19):=⟨hm.1,hm.2,hn.1,hn.2⟩
     clear hb hm hn
     go_wp2
     refine ⟨⟨⟨_,y19⟩,rfl⟩,?_⟩
     refine wpAnyY_one 11 rfl (by kernel_rfl) ?_
     have hob:=one_below X19 zEfC
     have y20:Below w2.heap.size w2 (X19.alloc zEfC):=y19.trans (hob.mono y19.size)
     have h78:g7 ≠ X19.heap.size:=Nat.ne_of_lt B7.out.lt
     replace EA:=Lib.hid (EA.out.below hob)
     replace EB:=Lib.hid (EB.out.below hob)
     replace B7:=Lib.hid (B7.out.below hob)
     have B8:Hid (Blk (X19.alloc zEfC) X19.heap.size #[.slice none 0 0,.slice none 0 0] 42):=blk_new ..
     have hg8:=y19.size
     clear hob
     go_wp2
     refine ⟨⟨⟨_,y20⟩,rfl⟩,?_⟩
     generalize X19.alloc _=X20 at *
     generalize X19.heap.size=g8 at *
     refine wpAnyY_one 12 rfl (by kernel_rfl) ?_
     have hq7:=y20.size
     go_wp2_with (refine storeEff rfl _ _ rfl g7 _ _ _ _ _ _ rfl rfl _ B7.out rfl ?_)
     have x7:=below_setRow y20 hg7 #[.slice ma M.length mc,.slice na N.length nc]
     have hgr:=grown_row X20 g7 #[.slice ma M.length mc,.slice na N.length nc]
     have B7n:=Lib.hid (B7.out.setRow #[.slice ma M.length mc,.slice na N.length nc])
     have B8n:=Lib.hid (B8.out.setRow_ne (Ne.symm h78) #[.slice ma M.length mc,.slice na N.length nc])
     have EAn:=Lib.hid (EA.out.grown B7.out hgr)
     have EBn:=Lib.hid (EB.out.grown B7.out hgr)
     clear B7 B8 EA EB hgr
     refine ⟨⟨⟨_,x7⟩,rfl⟩,?_⟩
     generalize X20.setRow g7 _=WX at *
     refine wpAnyY_one 13 rfl (by kernel_rfl) ?_
     go_wp2_with (refine storeEff rfl _ _ rfl g8 _ _ _ _ _ _ rfl rfl _ B8n.out rfl ?_)
     have x8:=below_setRow x7 hg8 #[.slice ma' M.length mc',.slice na' N.length nc']
     have hgr:=grown_row WX g8 #[.slice ma' M.length mc',.slice na' N.length nc']
     refine ⟨⟨⟨_,x8⟩,rfl⟩,?_⟩
     refine wpAnyY_done (by kernel_rfl) ?_ _
     go_wp2
     go_meet
     exact ⟨g7,g8,ma,mc,na,nc,ma',mc',na',nc',rfl,rfl,S2.out.below x8,B7n.out.setRow_ne h78 _,B8n.out.setRow _,EAn.out.grown B8n.out hgr,EBn.out.grown B8n.out hgr⟩
    ·have hob:=one_below X18 zEfC
     have y21:Below w2.heap.size w2 (X18.alloc zEfC):=y18.trans (hob.mono y18.size)
     have h78:g7 ≠ X18.heap.size:=Nat.ne_of_lt B7.out.lt
     replace EA:=Lib.hid (EA.out.below hob)
     replace B7:=Lib.hid (B7.out.below hob)
     have B8:Hid (Blk (X18.alloc zEfC) X18.heap.size #[.slice none 0 0,.slice none 0 0] 42):=blk_new ..
     have hg8:=y18.size
     clear hob
     go_wp2
     refine ⟨⟨⟨_,y21⟩,rfl⟩,?_⟩
     generalize X18.alloc _=X21 at *
     generalize X18.heap.size=g8 at *
     refine wpAnyY_one 9 rfl (by kernel_rfl) ?_
     go_wp2_with fail
     refine (HO2.out _ (S2.out.below y21).ub.ub.h (S2.out.below y21).ub.ub.f (S2.out.below y21).ub.rb.m).mono ?_
     rintro e X22 ⟨hb,ma',mc',na',nc',rfl,hm,hn⟩
     have y22:Below w2.heap.size w2 X22:=y21.trans (hb.mono y21.size)
     replace EA:=Lib.hid (EA.out.below hb)
     replace B7:=Lib.hid (B7.out.below hb)
     replace B8:=Lib.hid (B8.out.below hb)
     have EB:Hid (EffAt M N ma' mc' na' nc' X22):=⟨hm.1,hm.2,hn.1,hn.2⟩
     clear hb hm hn
     go_wp2
     refine ⟨⟨⟨_,y22⟩,rfl⟩,?_⟩
     refine wpAnyY_one 12 rfl (by kernel_rfl) ?_
     have hq7:=y22.size
     go_wp2_with (refine storeEff rfl _ _ rfl g7 _ _ _ _ _ _ rfl rfl _ B7.out rfl ?_)
     have x7:=below_setRow y22 hg7 #[.slice ma M.length mc,.slice na N.length nc]
     have hgr:=grown_row X22 g7 #[.slice ma M.length mc,.slice na N.length nc]
     have B7n:=Lib.hid (B7.out.setRow #[.slice ma M.length mc,.slice na N.length nc])
     have B8n:=Lib.hid (B8.out.setRow_ne (Ne.symm h78) #[.slice ma M.length mc,.slice na N.length nc])
     have EAn:=Lib.hid (EA.out.grown B7.out hgr)
     have EBn:=Lib.hid (EB.out.grown B7.out hgr)
     clear B7 B8 EA EB hgr
     refine ⟨⟨⟨_,x7⟩,rfl⟩,?_⟩
     generalize X22.setRow g7 _=WX at *
     refine wpAnyY_one 13 rfl (by kernel_rfl) ?_
     go_wp2_with (refine storeEff rfl _ _ rfl g8 _ _ _ _ _ _ rfl rfl _ B8n.out rfl ?_)
     have x8:=below_setRow x7 hg8 #[.slice ma' M.length mc',.slice na' N.length nc']
     have hgr:=grown_row WX g8 #[.slice ma' M.length mc',.slice na' N.length nc']
     refine ⟨⟨⟨_,x8⟩,rfl⟩,?_⟩
     refine wpAnyY_done (by kernel_rfl) ?_ _
     go_wp2
     go_meet
     exact ⟨g7,g8,ma,mc,na,nc,ma',mc',na',nc',rfl,rfl,S2.out.below x8,B7n.out.setRow_ne h78 _,B8n.out.setRow _,EAn.out.grown B8n.out hgr,EBn.out.grown B8n.out hgr⟩
   ·have hob:=one_below X17 zEfC
    have y23:Below w2.heap.size w2 (X17.alloc zEfC):=y17.trans (hob.mono y17.size)
    have h78:g7 ≠ X17.heap.size:=Nat.ne_of_lt B7.out.lt
    replace B7:=Lib.hid (B7.out.below hob)
    have B8:Hid (Blk (X17.alloc zEfC) X17.heap.size #[.slice none 0 0,.slice none 0 0] 42):=blk_new ..
    have hg8:=y17.size
    clear hob
    go_wp2
    refine ⟨⟨⟨_,y23⟩,rfl⟩,?_⟩
    generalize X17.alloc _=X23 at *
    generalize X17.heap.size=g8 at *
    refine wpAnyY_one 4 rfl (by kernel_rfl) ?_
    go_wp2_with fail
    refine (HO1.out _ (S2.out.below y23).ub.ub.h (S2.out.below y23).ub.ub.f (S2.out.below y23).ub.rb.m).mono ?_
    rintro e X24 ⟨hb,ma,mc,na,nc,rfl,hm,hn⟩
    have y24:Below w2.heap.size w2 X24:=y23.trans (hb.mono y23.size)
    replace B7:=Lib.hid (B7.out.below hb)
    replace B8:=Lib.hid (B8.out.below hb)
    have EA:Hid (EffAt M N ma mc na nc X24):=⟨hm.1,hm.2,hn.1,hn.2⟩
    clear hb hm hn
    go_wp2
    refine ⟨⟨⟨_,y24⟩,rfl⟩,?_⟩
    refine wpAnyY_one 9 rfl (by kernel_rfl) ?_
    go_wp2_with fail
    refine (HO2.out _ (S2.out.below y24).ub.ub.h (S2.out.below y24).ub.ub.f (S2.out.below y24).ub.rb.m).mono ?_
    rintro e X25 ⟨hb,ma',mc',na',nc',rfl,hm,hn⟩
    have y25:Below w2.heap.size w2 X25:=y24.trans (hb.mono y24.size)
    replace EA:=Lib.hid (EA.out.below hb)
    replace B7:=Lib.hid (B7.out.below hb)
    replace B8:=Lib.hid (B8.out.below hb)
    have EB:Hid (EffAt M N ma' mc' na' nc' X25):=⟨hm.1,hm.2,hn.1,hn.2⟩
    clear hb hm hn
    go_wp2
    refine ⟨⟨⟨_,y25⟩,rfl⟩,?_⟩
    refine wpAnyY_one 12 rfl (by kernel_rfl) ?_
    have hq7:=y25.size
    go_wp2_with (refine storeEff rfl _ _ rfl g7 _ _ _ _ _ _ rfl rfl _ B7.out rfl ?_)
    have x7:=below_setRow y25 hg7 #[.slice ma M.length mc,.slice na N.length nc]
    have hgr:=grown_row X25 g7 #[.slice ma M.length mc,.slice na N.length nc]
    have B7n:=Lib.hid (B7.out.setRow #[.slice ma M.length mc,.slice na N.length nc])
    have B8n:=Lib.hid (B8.out.setRow_ne (Ne.symm h78) #[.slice ma M.length mc,.slice na N.length nc])
    have EAn:=Lib.hid (EA.out.grown B7.out hgr)
    have EBn:=Lib.hid (EB.out.grown B7.out hgr)
    clear B7 B8 EA EB hgr
    refine ⟨⟨⟨_,x7⟩,rfl⟩,?_⟩
    generalize X25.setRow g7 _=WX at *
    refine wpAnyY_one 13 rfl (by kernel_rfl) ?_
    go_wp2_with (refine storeEff rfl _ _ rfl g8 _ _ _ _ _ _ rfl rfl _ B8n.out rfl ?_)
    have x8:=below_setRow x7 hg8 #[.slice ma' M.length mc',.slice na' N.length nc']
    have hgr:=grown_row WX g8 #[.slice ma' M.length mc',.slice na' N.length nc']
    refine ⟨⟨⟨_,x8⟩,rfl⟩,?_⟩
    refine wpAnyY_done (by kernel_rfl) ?_ _
    go_wp2
    go_meet
    exact ⟨g7,g8,ma,mc,na,nc,ma',mc',na',nc',rfl,rfl,S2.out.below x8,B7n.out.setRow_ne h78 _,B8n.out.setRow _,EAn.out.grown B8n.out hgr,EBn.out.grown B8n.out hgr⟩
  ·have hob:=one_below V0 zEfC
   have y26:Below w2.heap.size w2 (V0.alloc zEfC):=h0.trans (hob.mono h0.size)
   have B8:Hid (Blk (V0.alloc zEfC) V0.heap.size #[.slice none 0 0,.slice none 0 0] 42):=blk_new ..
   have hg8:=h0.size
   clear hob
   go_wp2
   refine ⟨⟨⟨_,y26⟩,rfl⟩,?_⟩
   generalize V0.alloc _=X26 at *
   generalize V0.heap.size=g8 at *
   refine wpAnyY_two 4 10 rfl rfl (by kernel_rfl) ?_ ?_
   ·go_wp2_with fail
    refine (HO1.out _ (S2.out.below y26).ub.ub.h (S2.out.below y26).ub.ub.f (S2.out.below y26).ub.rb.m).mono ?_
    rintro e X27 ⟨hb,ma,mc,na,nc,rfl,hm,hn⟩
    have y27:Below w2.heap.size w2 X27:=y26.trans (hb.mono y26.size)
    replace B8:=Lib.hid (B8.out.below hb)
    have EA:Hid (EffAt M N ma mc na nc X27):=⟨hm.1,hm.2,hn.1,hn.2⟩
    clear hb hm hn
    go_wp2
    refine ⟨⟨⟨_,y27⟩,rfl⟩,?_⟩
    refine wpAnyY_two 9 10 rfl rfl (by kernel_rfl) ?_ ?_
    ·go_wp2_with fail
     refine (HO2.out _ (S2.out.below y27).ub.ub.h (S2.out.below y27).ub.ub.f (S2.out.below y27).ub.rb.m).mono ?_
     rintro e X28 ⟨hb,ma',mc',na',nc',rfl,hm,hn⟩
     have y28:Below w2.heap.size w2 X28:=y27.trans (hb.mono y27.size)
     replace EA:=Lib.hid (EA.out.below hb)
     replace B8:=Lib.hid (B8.out.below hb)
     have EB:Hid (EffAt M N ma' mc' na' nc' X28):=⟨hm.1,hm.2,hn.1,hn.2⟩
     clear hb hm hn
     go_wp2
     refine ⟨⟨⟨_,y28⟩,rfl⟩,?_⟩
     refine wpAnyY_one 10 rfl (by kernel_rfl) ?_
     have hob:=one_below X28 zEfC
     have y29:Below w2.heap.size w2 (X28.alloc zEfC):=y28.trans (hob.mono y28.size)
     have h78:X28.heap.size ≠ g8:=Nat.ne_of_gt B8.out.lt
     replace EA:=Lib.hid (EA.out.below hob)
     replace EB:=Lib.hid (EB.out.below hob)
     replace B8:=Lib.hid (B8.out.below hob)
     have B7:Hid (Blk (X28.alloc zEfC) X28.heap.size #[.slice none 0 0,.slice none 0 0] 42):=blk_new ..
     have hg7:=y28.size
     clear hob
     go_wp2
     refine ⟨⟨⟨_,y29⟩,rfl⟩,?_⟩
     generalize X28.alloc _=X29 at *
     generalize X28.heap.size=g7 at *
     refine wpAnyY_one 12 rfl (by kernel_rfl) ?_
     have hq7:=y29.size
     go_wp2_with (refine storeEff rfl _ _ rfl g7 _ _ _ _ _ _ rfl rfl _ B7.out rfl ?_)
     have x7:=below_setRow y29 hg7 #[.slice ma M.length mc,.slice na N.length nc]
     have hgr:=grown_row X29 g7 #[.slice ma M.length mc,.slice na N.length nc]
     have B7n:=Lib.hid (B7.out.setRow #[.slice ma M.length mc,.slice na N.length nc])
     have B8n:=Lib.hid (B8.out.setRow_ne (Ne.symm h78) #[.slice ma M.length mc,.slice na N.length nc])
     have EAn:=Lib.hid (EA.out.grown B7.out hgr)
     have EBn:=Lib.hid (EB.out.grown B7.out hgr)
     clear B7 B8 EA EB hgr
     refine ⟨⟨⟨_,x7⟩,rfl⟩,?_⟩
     generalize X29.setRow g7 _=WX at *
     refine wpAnyY_one 13 rfl (by kernel_rfl) ?_
     go_wp2_with (refine storeEff rfl _ _ rfl g8 _ _ _ _ _ _ rfl rfl _ B8n.out rfl ?_)
     have x8:=below_setRow x7 hg8 #[.slice ma' M.length mc',.slice na' N.length nc']
     have hgr:=grown_row WX g8 #[.slice ma' M.length mc',.slice na' N.length nc']
     refine ⟨⟨⟨_,x8⟩,rfl⟩,?_⟩
     refine wpAnyY_done (by kernel_rfl) ?_ _
     go_wp2
     go_meet
     exact ⟨g7,g8,ma,mc,na,nc,ma',mc',na',nc',rfl,rfl,S2.out.below x8,B7n.out.setRow_ne h78 _,B8n.out.setRow _,EAn.out.grown B8n.out hgr,EBn.out.grown B8n.out hgr⟩
    ·have hob:=one_below X27 zEfC
     have y30:Below w2.heap.size w2 (X27.alloc zEfC):=y27.trans (hob.mono y27.size)
     have h78:X27.heap.size ≠ g8:=Nat.ne_of_gt B8.out.lt
     replace EA:=Lib.hid (EA.out.below hob)
     replace B8:=Lib.hid (B8.out.below hob)
     have B7:Hid (Blk (X27.alloc zEfC) X27.heap.size #[.slice none 0 0,.slice none 0 0] 42):=blk_new ..
     have hg7:=y27.size
     clear hob
     go_wp2
     refine ⟨⟨⟨_,y30⟩,rfl⟩,?_⟩
     generalize X27.alloc _=X30 at *
     generalize X27.heap.size=g7 at *
     refine wpAnyY_one 9 rfl (by kernel_rfl) ?_
     go_wp2_with fail
     refine (HO2.out _ (S2.out.below y30).ub.ub.h (S2.out.below y30).ub.ub.f (S2.out.below y30).ub.rb.m).mono ?_
     rintro e X31 ⟨hb,ma',mc',na',nc',rfl,hm,hn⟩
     have y31:Below w2.heap.size w2 X31:=y30.trans (hb.mono y30.size)
     replace EA:=Lib.hid (EA.out.below hb)
     replace B7:=Lib.hid (B7.out.below hb)
     replace B8:=Lib.hid (B8.out.below hb)
     have EB:Hid (EffAt M N ma' mc' na' nc' X31):=⟨hm.1,hm.2,hn.1,hn.2⟩
     clear hb hm hn
     go_wp2
     refine ⟨⟨⟨_,y31⟩,rfl⟩,?_⟩
     refine wpAnyY_one 12 rfl (by kernel_rfl) ?_
     have hq7:=y31.size
     go_wp2_with (refine storeEff rfl _ _ rfl g7 _ _ _ _ _ _ rfl rfl _ B7.out rfl ?_)
     have x7:=below_setRow y31 hg7 #[.slice ma M.length mc,.slice na N.length nc]
     have hgr:=grown_row X31 g7 #[.slice ma M.length mc,.slice na N.length nc]
     have B7n:=Lib.hid (B7.out.setRow #[.slice ma M.length mc,.slice na N.length nc])
     have B8n:=Lib.hid (B8.out.setRow_ne (Ne.symm h78) #[.slice ma M.length mc,.slice na N.length nc])
     have EAn:=Lib.hid (EA.out.grown B7.out hgr)
     have EBn:=Lib.hid (EB.out.grown B7.out hgr)
     clear B7 B8 EA EB hgr
     refine ⟨⟨⟨_,x7⟩,rfl⟩,?_⟩
     generalize X31.setRow g7 _=WX at *
     refine wpAnyY_one 13 rfl (by kernel_rfl) ?_
     go_wp2_with (refine storeEff rfl _ _ rfl g8 _ _ _ _ _ _ rfl rfl _ B8n.out rfl ?_)
     have x8:=below_setRow x7 hg8 #[.slice ma' M.length mc',.slice na' N.length nc']
     have hgr:=grown_row WX g8 #[.slice ma' M.length mc',.slice na' N.length nc']
     refine ⟨⟨⟨_,x8⟩,rfl⟩,?_⟩
     refine wpAnyY_done (by kernel_rfl) ?_ _
     go_wp2
     go_meet
     exact ⟨g7,g8,ma,mc,na,nc,ma',mc',na',nc',rfl,rfl,S2.out.below x8,B7n.out.setRow_ne h78 _,B8n.out.setRow _,EAn.out.grown B8n.out hgr,EBn.out.grown B8n.out hgr⟩
   ·have hob:=one_below X26 zEfC
    have y32:Below w2.heap.size w2 (X26.alloc zEfC):=y26.trans (hob.mono y26.size)
    have h78:X26.heap.size ≠ g8:=Nat.ne_of_gt B8.out.lt
    replace B8:=Lib.hid (B8.out.below hob)
    have B7:Hid (Blk (X26.alloc zEfC) X26.heap.size #[.slice none 0 0,.slice none 0 0] 42):=blk_new ..
    have hg7:=y26.size
    clear hob
    go_wp2
    refine ⟨⟨⟨_,y32⟩,rfl⟩,?_⟩
    generalize X26.alloc _=X32 at *
    generalize X26.heap.size=g7 at *
    refine wpAnyY_one 4 rfl (by kernel_rfl) ?_
    go_wp2_with fail
    refine (HO1.out _ (S2.out.below y32).ub.ub.h (S2.out.below y32).ub.ub.f (S2.out.below y32).ub.rb.m).mono ?_
    rintro e X33 ⟨hb,ma,mc,na,nc,rfl,hm,hn⟩
    have y33:Below w2.heap.size w2 X33:=y32.trans (hb.mono y32.size)
    replace B7:=Lib.hid (B7.out.below hb)
    replace B8:=Lib.hid (B8.out.below hb)
    have EA:Hid (EffAt M N ma mc na nc X33):=⟨hm.1,hm.2,hn.1,hn.2⟩
    clear hb hm hn
    go_wp2
    refine ⟨⟨⟨_,y33⟩,rfl⟩,?_⟩
    refine wpAnyY_one 9 rfl (by kernel_rfl) ?_
    go_wp2_with fail
    refine (HO2.out _ (S2.out.below y33).ub.ub.h (S2.out.below y33).ub.ub.f (S2.out.below y33).ub.rb.m).mono ?_
    rintro e X34 ⟨hb,ma',mc',na',nc',rfl,hm,hn⟩
    have y34:Below w2.heap.size w2 X34:=y33.trans (hb.mono y33.size)
    replace EA:=Lib.hid (EA.out.below hb)
    replace B7:=Lib.hid (B7.out.below hb)
    replace B8:=Lib.hid (B8.out.below hb)
    have EB:Hid (EffAt M N ma' mc' na' nc' X34):=⟨hm.1,hm.2,hn.1,hn.2⟩
    clear hb hm hn
    go_wp2
    refine ⟨⟨⟨_,y34⟩,rfl⟩,?_⟩
    refine wpAnyY_one 12 rfl (by kernel_rfl) ?_
    have hq7:=y34.size
    go_wp2_with (refine storeEff rfl _ _ rfl g7 _ _ _ _ _ _ rfl rfl _ B7.out rfl ?_)
    have x7:=below_setRow y34 hg7 #[.slice ma M.length mc,.slice na N.length nc]
    have hgr:=grown_row X34 g7 #[.slice ma M.length mc,.slice na N.length nc]
    have B7n:=Lib.hid (B7.out.setRow #[.slice ma M.length mc,.slice na N.length nc])
    have B8n:=Lib.hid (B8.out.setRow_ne (Ne.symm h78) #[.slice ma M.length mc,.slice na N.length nc])
    have EAn:=Lib.hid (EA.out.grown B7.out hgr)
    have EBn:=Lib.hid (EB.out.grown B7.out hgr)
    clear B7 B8 EA EB hgr
    refine ⟨⟨⟨_,x7⟩,rfl⟩,?_⟩
    generalize X34.setRow g7 _=WX at *
    refine wpAnyY_one 13 rfl (by kernel_rfl) ?_
    go_wp2_with (refine storeEff rfl _ _ rfl g8 _ _ _ _ _ _ rfl rfl _ B8n.out rfl ?_)
    have x8:=below_setRow x7 hg8 #[.slice ma' M.length mc',.slice na' N.length nc']
    have hgr:=grown_row WX g8 #[.slice ma' M.length mc',.slice na' N.length nc']
    refine ⟨⟨⟨_,x8⟩,rfl⟩,?_⟩
    refine wpAnyY_done (by kernel_rfl) ?_ _
    go_wp2
    go_meet
    exact ⟨g7,g8,ma,mc,na,nc,ma',mc',na',nc',rfl,rfl,S2.out.below x8,B7n.out.setRow_ne h78 _,B8n.out.setRow _,EAn.out.grown B8n.out hgr,EBn.out.grown B8n.out hgr⟩
 case rest =>
  obtain ⟨g7,g8,ma,mc,na,nc,ma',mc',na',nc',rfl,rfl,S3,B7,B8,EA,EB⟩:=hcut
  clear S2 HO1 HO2
  go_upto_region 4 with (fail)
  have k1:∀ o:WB wc,o.u.cell? ⟨w.heap.size,0,none⟩=some (.slice ha u.h.length hc):=fun o=>(S3.out.ub.now o.h).1.1
  have k2:∀ o:WB wc,o.u.cell? ⟨w.heap.size,1,none⟩=some (.slice fa u.fs.length fc):=fun o=>(S3.out.ub.now o.h).1.2.1
  have k3:∀ o:WB wc,o.u.cell? ⟨w.heap.size,2,none⟩=some (.int .i64 u.main):=fun o=>(S3.out.ub.now o.h).1.2.2
  have k4:∀ o:WB wc,o.u.cell? ⟨w.heap.size + 1,0,none⟩=some (.slice p.ra r.reached p.rc):=fun o=>(S3.out.ub.now o.h).2.1
  have k5:∀ o:WB wc,o.u.cell? ⟨w.heap.size + 1,1,none⟩=some (.slice p.ca r.calls.length p.cc):=fun o=>(S3.out.ub.now o.h).2.2.1
  have k6:∀ o:WB wc,o.u.cell? ⟨w.heap.size + 1,2,none⟩=some (.slice p.va r.vars.length p.vc):=fun o=>(S3.out.ub.now o.h).2.2.2.1
  have k7:∀ o:WB wc,o.u.cell? ⟨w.heap.size + 1,3,none⟩=some (.slice p.xa r.cells.length p.xc):=fun o=>(S3.out.ub.now o.h).2.2.2.2
  have k8:∀ o:WB wc,o.u.cell? ⟨w.heap.size + 2,0,none⟩=some (.int .i64 q.f):=fun o=>(S3.out.below o.h).bq.cell 0 (by simp)
  have k9:∀ o:WB wc,o.u.cell? ⟨w.heap.size + 2,1,none⟩=some (.int .i64 q.v):=fun o=>(S3.out.below o.h).bq.cell 1 (by simp)
  have k10:∀ o:WB wc,o.u.cell? ⟨w.heap.size + 2,2,none⟩=some (.int .i64 q.g):=fun o=>(S3.out.below o.h).bq.cell 2 (by simp)
  have k11:∀ o:WB wc,o.u.cell? ⟨w.heap.size + 2,3,none⟩=some (.int .i64 q.x):=fun o=>(S3.out.below o.h).bq.cell 3 (by simp)
  have k12:∀ o:WB wc,o.u.cell? ⟨w.heap.size + 2,4,none⟩=some (.string q.fld):=fun o=>(S3.out.below o.h).bq.cell 4 (by simp)
  have k13:∀ o:WB wc,o.u.cell? ⟨g7,0,none⟩=some (.slice ma M.length mc):=fun o=>(B7.out.below o.h).cell 0 (by simp)
  have k14:∀ o:WB wc,o.u.cell? ⟨g7,1,none⟩=some (.slice na N.length nc):=fun o=>(B7.out.below o.h).cell 1 (by simp)
  have k15:∀ o:WB wc,o.u.cell? ⟨g8,0,none⟩=some (.slice ma' M.length mc'):=fun o=>(B8.out.below o.h).cell 0 (by simp)
  have k16:∀ o:WB wc,o.u.cell? ⟨g8,1,none⟩=some (.slice na' N.length nc'):=fun o=>(B8.out.below o.h).cell 1 (by simp)
  have hne:Nonempty (WB wc):=⟨⟨wc,Below.refl _ _⟩⟩
  have h0:Below wc.heap.size wc wc.drew:=(Below.refl _ _).drew
  refine wp_region_Y (fun w'=>∃ o:WB wc,w' = o.u) (by kernel_rfl) ?_
  change wpAnyY _ _ _ _ _ _ _ _ wc.drew
  generalize wc.drew=V0 at *
  refine wpAnyY_one 0 rfl (by kernel_rfl) ?_
  go_wp2_with fail
  refine (HAK.out _ (HAB.out _ _ AW0.out (S3.out.below h0).ub.ub.hb)).mono ?_
  rintro e X1 ⟨rfl,hb⟩
  have h1:Below wc.heap.size wc X1:=h0.trans (hb.mono h0.size)
  clear hb h0 AW0 HAB HAK
  go_wp2
  refine ⟨⟨⟨_,h1⟩,rfl⟩,?_⟩
  refine wpAnyY_take 1 rfl (by kernel_rfl) (fun _ _ _ _ h=>h) ⟨⟨_,h1⟩,rfl⟩ (fun K hK=>?_);go_simp;refine hK _ ?_;clear hK K
  refine wpAnyY_take 2 rfl (by kernel_rfl) (fun _ _ _ _ h=>h) ⟨⟨_,h1⟩,rfl⟩ (fun K hK=>?_);go_simp;refine hK _ ?_;clear hK K
  refine wpAnyY_take 3 rfl (by kernel_rfl) (fun _ _ _ _ h=>h) ⟨⟨_,h1⟩,rfl⟩ (fun K hK=>?_);go_simp;refine hK _ ?_;clear hK K
  refine wpAnyY_take 4 rfl (by kernel_rfl) (fun _ _ _ _ h=>h) ⟨⟨_,h1⟩,rfl⟩ (fun K hK=>?_);go_simp;refine hK _ ?_;clear hK K
  refine wpAnyY_take 5 rfl (by kernel_rfl) (fun _ _ _ _ h=>h) ⟨⟨_,h1⟩,rfl⟩ (fun K hK=>?_);go_simp;refine hK _ ?_;clear hK K
  refine wpAnyY_take 6 rfl (by kernel_rfl) (fun _ _ _ _ h=>h) ⟨⟨_,h1⟩,rfl⟩ (fun K hK=>?_);go_simp;refine hK _ ?_;clear hK K
  refine wpAnyY_take 7 rfl (by kernel_rfl) (fun _ _ _ _ h=>h) ⟨⟨_,h1⟩,rfl⟩ (fun K hK=>?_);go_simp;refine hK _ ?_;clear hK K
  refine wpAnyY_take 8 rfl (by kernel_rfl) (fun _ _ _ _ h=>h) ⟨⟨_,h1⟩,rfl⟩ (fun K hK=>?_);go_simp;refine hK _ ?_;clear hK K
  refine wpAnyY_take 9 rfl (by kernel_rfl) (fun _ _ _ _ h=>h) ⟨⟨_,h1⟩,rfl⟩ (fun K hK=>?_);go_simp;refine hK _ ?_;clear hK K
  refine wpAnyY_take 10 rfl (by kernel_rfl) (fun _ _ _ _ h=>h) ⟨⟨_,h1⟩,rfl⟩ (fun K hK=>?_);go_simp;refine hK _ ?_;clear hK K
  refine wpAnyY_take 11 rfl (by kernel_rfl) (fun _ _ _ _ h=>h) ⟨⟨_,h1⟩,rfl⟩ (fun K hK=>?_);go_simp;refine hK _ ?_;clear hK K
  refine wpAnyY_take 13 rfl (by kernel_rfl) (fun _ _ _ _ h=>h) ⟨⟨_,h1⟩,rfl⟩ (fun K hK=>?_);go_simp;refine hK _ ?_;clear hK K
  refine wpAnyY_take 14 rfl (by kernel_rfl) (fun _ _ _ _ h=>h) ⟨⟨_,h1⟩,rfl⟩ (fun K hK=>?_);go_simp;refine hK _ ?_;clear hK K
  refine wpAnyY_take 15 rfl (by kernel_rfl) (fun _ _ _ _ h=>h) ⟨⟨_,h1⟩,rfl⟩ (fun K hK=>?_);go_simp;refine hK _ ?_;clear hK K
  refine wpAnyY_take 16 rfl (by kernel_rfl) (fun _ _ _ _ h=>h) ⟨⟨_,h1⟩,rfl⟩ (fun K hK=>?_);go_simp;refine hK _ ?_;clear hK K
  refine wpAnyY_take 17 rfl (by kernel_rfl) (fun _ _ _ _ h=>h) ⟨⟨_,h1⟩,rfl⟩ (fun K hK=>?_);go_simp;refine hK _ ?_;clear hK K
  refine wpAnyY_take 18 rfl (by kernel_rfl) (fun _ _ _ _ h=>h) ⟨⟨_,h1⟩,rfl⟩ (fun K hK=>?_);go_simp;refine hK _ ?_;clear hK K
  refine wpAnyY_take 19 rfl (by kernel_rfl) (fun _ _ _ _ h=>h) ⟨⟨_,h1⟩,rfl⟩ (fun K hK=>?_);go_simp;refine hK _ ?_;clear hK K
  refine wpAnyY_take 20 rfl (by kernel_rfl) (fun _ _ _ _ h=>h) ⟨⟨_,h1⟩,rfl⟩ (fun K hK=>?_);go_simp;refine hK _ ?_;clear hK K
  refine wpAnyY_take 21 rfl (by kernel_rfl) (fun _ _ _ _ h=>h) ⟨⟨_,h1⟩,rfl⟩ (fun K hK=>?_);go_simp;refine hK _ ?_;clear hK K
  refine wpAnyY_take 22 rfl (by kernel_rfl) (fun _ _ _ _ h=>h) ⟨⟨_,h1⟩,rfl⟩ (fun K hK=>?_);go_simp;refine hK _ ?_;clear hK K
  refine wpAnyY_one 12 rfl (by kernel_rfl) ?_
  go_wp2_with fail
  refine (HA1.out _ (S3.out.below h1).ub.ub.h (S3.out.below h1).ub.ub.f (S3.out.below h1).ub.rb.m).mono ?_
  rintro e X2 ⟨rfl,hb⟩
  have h2:Below wc.heap.size wc X2:=h1.trans (hb.mono h1.size)
  clear hb h1 HA1
  go_wp2
  refine ⟨⟨⟨_,h2⟩,rfl⟩,?_⟩
  refine wpAnyY_one 23 rfl (by kernel_rfl) ?_
  go_wp2_with fail
  refine (HA2.out _ (S3.out.below h2).ub.ub.h (S3.out.below h2).ub.ub.f (S3.out.below h2).ub.rb.m).mono ?_
  rintro e X3 ⟨rfl,hb⟩
  have h3:Below wc.heap.size wc X3:=h2.trans (hb.mono h2.size)
  clear hb h2 HA2
  have hab:(AB == AB)=true:=by simp
  go_wp2
  refine ⟨⟨⟨_,h3⟩,rfl⟩,?_⟩
  refine wpAnyY_take 24 rfl (by kernel_rfl) (fun _ _ _ _ h=>h) ⟨⟨_,h3⟩,rfl⟩ (fun K hK=>?_);go_simp;refine hK _ ?_;clear hK K
  refine wpAnyY_take 25 rfl (by kernel_rfl) (fun _ _ _ _ h=>h) ⟨⟨_,h3⟩,rfl⟩ (fun K hK=>?_);go_simp;refine hK _ ?_;clear hK K
  refine wpAnyY_take 26 rfl (by kernel_rfl) (fun _ _ _ _ h=>h) ⟨⟨_,h3⟩,rfl⟩ (fun K hK=>?_);go_simp;refine hK _ ?_;clear hK K
  refine wpAnyY_take 27 rfl (by kernel_rfl) (fun _ _ _ _ h=>h) ⟨⟨_,h3⟩,rfl⟩ (fun K hK=>?_);go_simp;refine hK _ ?_;clear hK K
  refine wpAnyY_take 28 rfl (by kernel_rfl) (fun _ _ _ _ h=>h) ⟨⟨_,h3⟩,rfl⟩ (fun K hK=>?_);go_simp;refine hK _ ?_;clear hK K
  refine wpAnyY_take 29 rfl (by kernel_rfl) (fun _ _ _ _ h=>h) ⟨⟨_,h3⟩,rfl⟩ (fun K hK=>?_);go_simp;refine hK _ ?_;clear hK K
  refine wpAnyY_take 30 rfl (by kernel_rfl) (fun _ _ _ _ h=>h) ⟨⟨_,h3⟩,rfl⟩ (fun K hK=>?_);go_simp;refine hK _ ?_;clear hK K
  refine wpAnyY_take 31 rfl (by kernel_rfl) (fun _ _ _ _ h=>h) ⟨⟨_,h3⟩,rfl⟩ (fun K hK=>?_);go_simp;refine hK _ ?_;clear hK K
  refine wpAnyY_take 32 rfl (by kernel_rfl) (fun _ _ _ _ h=>h) ⟨⟨_,h3⟩,rfl⟩ (fun K hK=>?_);go_simp;refine hK _ ?_;clear hK K
  refine wpAnyY_take 33 rfl (by kernel_rfl) (fun _ _ _ _ h=>h) ⟨⟨_,h3⟩,rfl⟩ (fun K hK=>?_);go_simp;refine hK _ ?_;clear hK K
  refine wpAnyY_take 34 rfl (by kernel_rfl) (fun _ _ _ _ h=>h) ⟨⟨_,h3⟩,rfl⟩ (fun K hK=>?_);go_simp;refine hK _ ?_;clear hK K
  refine wpAnyY_take 36 rfl (by kernel_rfl) (fun _ _ _ _ h=>h) ⟨⟨_,h3⟩,rfl⟩ (fun K hK=>?_);go_simp;refine hK _ ?_;clear hK K
  refine wpAnyY_take 37 rfl (by kernel_rfl) (fun _ _ _ _ h=>h) ⟨⟨_,h3⟩,rfl⟩ (fun K hK=>?_);go_simp;refine hK _ ?_;clear hK K
  refine wpAnyY_take 38 rfl (by kernel_rfl) (fun _ _ _ _ h=>h) ⟨⟨_,h3⟩,rfl⟩ (fun K hK=>?_);go_simp;refine hK _ ?_;clear hK K
  refine wpAnyY_take 39 rfl (by kernel_rfl) (fun _ _ _ _ h=>h) ⟨⟨_,h3⟩,rfl⟩ (fun K hK=>?_);go_simp;refine hK _ ?_;clear hK K
  refine wpAnyY_take 40 rfl (by kernel_rfl) (fun _ _ _ _ h=>h) ⟨⟨_,h3⟩,rfl⟩ (fun K hK=>?_);go_simp;refine hK _ ?_;clear hK K
  refine wpAnyY_take 41 rfl (by kernel_rfl) (fun _ _ _ _ h=>h) ⟨⟨_,h3⟩,rfl⟩ (fun K hK=>?_);go_simp;refine hK _ ?_;clear hK K
  refine wpAnyY_take 42 rfl (by kernel_rfl) (fun _ _ _ _ h=>h) ⟨⟨_,h3⟩,rfl⟩ (fun K hK=>?_);go_simp;refine hK _ ?_;clear hK K
  refine wpAnyY_take 43 rfl (by kernel_rfl) (fun _ _ _ _ h=>h) ⟨⟨_,h3⟩,rfl⟩ (fun K hK=>?_);go_simp;refine hK _ ?_;clear hK K
  refine wpAnyY_one 35 rfl (by kernel_rfl) ?_
  go_wp2_with fail
  refine (HC1.out _ (S3.out.below h3).ub.ub.h (S3.out.below h3).ub.ub.f (S3.out.below h3).ub.rb.m).mono ?_
  rintro e X4 ⟨hb,pa,pc,rfl,hpl,hpa⟩
  have h4:Below wc.heap.size wc X4:=h3.trans (hb.mono h3.size)
  have PA:=Lib.hid hpa
  clear hb h3 HC1 hpl hpa
  go_wp2
  refine ⟨⟨⟨_,h4⟩,rfl⟩,?_⟩
  refine wpAnyY_one 44 rfl (by kernel_rfl) ?_
  go_wp2_with fail
  refine (HC2.out _ (S3.out.below h4).ub.ub.h (S3.out.below h4).ub.ub.f (S3.out.below h4).ub.rb.m).mono ?_
  rintro e X5 ⟨hb,qa,qc,rfl,hql,hqa⟩
  have h5:Below wc.heap.size wc X5:=h4.trans (hb.mono h4.size)
  replace PA:=Lib.hid (PA.out.below hb)
  have QA:=Lib.hid hqa
  clear hb h4 HC2 hql hqa
  go_wp2
  refine ⟨⟨⟨_,h5⟩,rfl⟩,?_⟩
  refine wpAnyY_one 45 rfl (by kernel_rfl) ?_
  go_wp2_with fail
  refine (HSA.out CL pa pc qa qc _ PA.out QA.out hlc).mono ?_
  rintro e X6 ⟨rfl,hb⟩
  have h6:Below wc.heap.size wc X6:=h5.trans (hb.mono h5.size)
  clear hb h5 PA QA
  go_wp2
  refine ⟨⟨⟨_,h6⟩,rfl⟩,?_⟩
  refine wpAnyY_take 46 rfl (by kernel_rfl) (fun _ _ _ _ h=>h) ⟨⟨_,h6⟩,rfl⟩ (fun K hK=>?_);go_simp;refine hK _ ?_;clear hK K
  refine wpAnyY_take 47 rfl (by kernel_rfl) (fun _ _ _ _ h=>h) ⟨⟨_,h6⟩,rfl⟩ (fun K hK=>?_);go_simp;refine hK _ ?_;clear hK K
  refine wpAnyY_take 48 rfl (by kernel_rfl) (fun _ _ _ _ h=>h) ⟨⟨_,h6⟩,rfl⟩ (fun K hK=>?_);go_simp;refine hK _ ?_;clear hK K
  refine wpAnyY_take 49 rfl (by kernel_rfl) (fun _ _ _ _ h=>h) ⟨⟨_,h6⟩,rfl⟩ (fun K hK=>?_);go_simp;refine hK _ ?_;clear hK K
  refine wpAnyY_take 50 rfl (by kernel_rfl) (fun _ _ _ _ h=>h) ⟨⟨_,h6⟩,rfl⟩ (fun K hK=>?_);go_simp;refine hK _ ?_;clear hK K
  refine wpAnyY_take 51 rfl (by kernel_rfl) (fun _ _ _ _ h=>h) ⟨⟨_,h6⟩,rfl⟩ (fun K hK=>?_);go_simp;refine hK _ ?_;clear hK K
  refine wpAnyY_one 52 rfl (by kernel_rfl) ?_
  go_wp2_with fail
  refine (HSA.out M ma mc ma' mc' _ (EA.out.below h6).ma (EB.out.below h6).ma hlm).mono ?_
  rintro e X7 ⟨rfl,hb⟩
  have h7:Below wc.heap.size wc X7:=h6.trans (hb.mono h6.size)
  clear hb h6
  go_wp2
  refine ⟨⟨⟨_,h7⟩,rfl⟩,?_⟩
  refine wpAnyY_take 53 rfl (by kernel_rfl) (fun _ _ _ _ h=>h) ⟨⟨_,h7⟩,rfl⟩ (fun K hK=>?_);go_simp;refine hK _ ?_;clear hK K
  refine wpAnyY_take 54 rfl (by kernel_rfl) (fun _ _ _ _ h=>h) ⟨⟨_,h7⟩,rfl⟩ (fun K hK=>?_);go_simp;refine hK _ ?_;clear hK K
  refine wpAnyY_take 55 rfl (by kernel_rfl) (fun _ _ _ _ h=>h) ⟨⟨_,h7⟩,rfl⟩ (fun K hK=>?_);go_simp;refine hK _ ?_;clear hK K
  refine wpAnyY_take 56 rfl (by kernel_rfl) (fun _ _ _ _ h=>h) ⟨⟨_,h7⟩,rfl⟩ (fun K hK=>?_);go_simp;refine hK _ ?_;clear hK K
  refine wpAnyY_take 57 rfl (by kernel_rfl) (fun _ _ _ _ h=>h) ⟨⟨_,h7⟩,rfl⟩ (fun K hK=>?_);go_simp;refine hK _ ?_;clear hK K
  refine wpAnyY_take 58 rfl (by kernel_rfl) (fun _ _ _ _ h=>h) ⟨⟨_,h7⟩,rfl⟩ (fun K hK=>?_);go_simp;refine hK _ ?_;clear hK K
  refine wpAnyY_one 59 rfl (by kernel_rfl) ?_
  go_wp2_with fail
  refine (HSA.out N na nc na' nc' _ (EA.out.below h7).na (EB.out.below h7).na hln).mono ?_
  rintro e X8 ⟨rfl,hb⟩
  have h8:Below wc.heap.size wc X8:=h7.trans (hb.mono h7.size)
  clear hb h7
  go_wp2
  refine ⟨⟨⟨_,h8⟩,rfl⟩,?_⟩
  refine wpAnyY_take 60 rfl (by kernel_rfl) (fun _ _ _ _ h=>h) ⟨⟨_,h8⟩,rfl⟩ (fun K hK=>?_);go_simp;refine hK _ ?_;clear hK K
  refine wpAnyY_one 61 rfl (by kernel_rfl) ?_
  go_wp2
  refine ⟨⟨⟨_,h8⟩,rfl⟩,?_⟩
  refine wpAnyY_done (by kernel_rfl) ?_ _
  have HB:=Lib.hid (S3.out.below h8).ub.ub.hb
  clear k1 k2 k3 k4 k5 k6 k7 k8 k9 k10 k11 k12 k13 k14 k15 k16
  go_wp2
  go_ret
  exact ⟨rfl,HB.out⟩
end Go.Proofs.YthbialnddkboiaaGreatDoor
