/-
  The law ApathCells returns true. (Printed by pre.py.)
-/
import Derived.Test.YtffcklfigpmlgaaGreatDoorA9
import Derived.Test.YtffcklfigpmlgaaGreatDoorB2
import Derived.Test.YtffcklfigpmlgaaGreatDoorQP
import Derived.Test.YtffcklfigpmlgaaGreatDoorWF
import Derived.Test.YtffcklfigpmlgaaGreatDoorRG
namespace Go.Proofs.YtffcklfigpmlgaaGreatDoor
open Go.RowKit Go.Unit0 Go.AM

abbrev whrC (f:Int) (pt:Pth) (pa:Option Addr) (pc:Nat):Array Value:=#[.int .i64 f,.int .i64 pt.root,.int .i64 pt.n,.slice pa pt.fs.length pc,.bool pt.star]
structure LT (u:Unt) (ha:Option Addr) (hc:Nat) (fa:Option Addr) (fc:Nat) (r:Rsl) (p:RP) (f:Int) (pt:Pth) (pa:Option Addr) (pc:Nat) (w wr:World):Prop where
 ub:URB u ha hc fa fc r p w wr
 bq:Blk wr (w.heap.size + 2) (whrC f pt pa pc) 39
 sp:StrsAt wr pa pt.fs
theorem LT.below {u:Unt} {ha:Option Addr} {hc:Nat} {fa:Option Addr} {fc:Nat} {r:Rsl} {p:RP} {f:Int} {pt:Pth} {pa:Option Addr} {pc:Nat} {w wr w':World} (k:LT u ha hc fa fc r p f pt pa pc w wr) (hb:Below wr.heap.size wr w'):LT u ha hc fa fc r p f pt pa pc w w':=⟨k.ub.below hb,k.bq.below hb,k.sp.below hb⟩
theorem LT.whr {u:Unt} {ha:Option Addr} {hc:Nat} {fa:Option Addr} {fc:Nat} {r:Rsl} {p:RP} {f:Int} {pt:Pth} {pa:Option Addr} {pc:Nat} {w wr:World} (k:LT u ha hc fa fc r p f pt pa pc w wr) {o:World} (hb:Below wr.heap.size wr o) :
 o.cell? ⟨w.heap.size + 2,0,none⟩=some (.int .i64 f)∧o.cell? ⟨w.heap.size + 2,1,none⟩=some (.int .i64 pt.root)∧o.cell? ⟨w.heap.size + 2,2,none⟩=some (.int .i64 pt.n)∧o.cell? ⟨w.heap.size + 2,3,none⟩=some (.slice pa pt.fs.length pc)∧o.cell? ⟨w.heap.size + 2,4,none⟩=some (.bool pt.star) :=
 have h:=(k.below hb).bq
 ⟨h.cell 0 (by simp),h.cell 1 (by simp),h.cell 2 (by simp),h.cell 3 (by simp),h.cell 4 (by simp)⟩
theorem fit_mono {u:Unt} {m n:Nat} (h:FitOk u m) (hm:m≤n):FitOk u n:=⟨h.nf,h.nc,h.c,fun f hf=>⟨Nat.le_trans (h.f f hf).c hm,Nat.le_trans (h.f f hf).v hm,(h.f f hf).a⟩,Nat.le_trans h.t hm⟩
theorem pthC_len {u:Unt} {fc:Nat} {r:Rsl} (k:UOk u fc r) (f:Int) (pt:Pth):(pthC u r f pt).length≤1000000:=by
 obtain ⟨h1,h2,h3⟩:=walk_all u r f pt
 have hs:=asc_len h1 h2
 have hO:(walkF u r (rootS u r f pt) pt.fs).1.length≤36000:=by
  have ha:=walkF_ok (r:=r) (rootS_asc u r f pt) (rootS_in) (fs:=pt.fs) pt.fs.length (Nat.le_refl _)
  have hm:∀ c ∈ (walkF u r (rootS u r f pt) pt.fs).1,c ∈ ([]:List Cel) ∨ fldB u.h (sitL u) c.f c.s=true:=fun c hc=>by
   cases hl:pt.fs.length with
   | zero =>
     have:pt.fs = []:=List.eq_nil_of_length_eq_zero hl
     rw [this,walkF_nil] at hc
     exact .inl hc
   | succ m =>
     have e:=walkF_take (u:=u) (r:=r) (S:=rootS u r f pt) (fs:=pt.fs) (k:=m) (by omega)
     rw [List.take_of_length_le (by omega)] at e
     rw [e] at hc
     obtain ⟨_,h5,h6⟩:=cfL_mem.1 hc
     exact .inr (by rw [h5];exact h6)
  have:=cells_few h3 hm
  have h4:(sitL u).length * (setB (fldNames u.h)).length≤150 * 240:=Nat.mul_le_mul k.sl k.nm
  simp at this
  omega
 unfold pthC
 split
 ·simp
 ·split
  ·simp
  ·split
   ·have ok:StOk u ((walkF u r (rootS u r f pt) pt.fs).2,(walkF u r (rootS u r f pt) pt.fs).1):=⟨h1,h2,h3⟩
    have hc:=(StOk.rnds (r:=r) (N:=setB (fldNames u.h)) ok ((sitL u).length + 1)).c
    have:=cells_few (O0:=(walkF u r (rootS u r f pt) pt.fs).1) hc (fun c hc=>((rnds_spec (r:=r) (N:=setB (fldNames u.h)) ok (fun f s h=>fldB_names h) c).1 hc).imp id (fun h=>h.2))
    have h4:(sitL u).length * (setB (fldNames u.h)).length≤150 * 240:=Nat.mul_le_mul k.sl k.nm
    omega
   ·omega
set_option maxRecDepth 100000 in
set_option maxHeartbeats 16000000 in
theorem apathCells (AWK:World→Prop) (hbel:∀ w w',AWK w→Below w.heap.size w w'→AWK w') (hawk:∀ w,AWK w→Calls Tryz.prog 7 #[] w (Ret w (.bool true))) (hkw:∀ w,AWK w→KW w)
 (u:Unt) (ha:Option Addr) (hc:Nat) (fa:Option Addr) (fc:Nat) (hcap:u.fs.length≤fc) (r:Rsl) (p:RP) (f:Int) (pt:Pth) (pa:Option Addr) (pc:Nat) (w:World) (hA:AWK w) (h:ClssAt w ha u.h) (hf:FncsAt w fa u.fs) (hr:RslAt w p r) (hs:StrsAt w pa pt.fs) :
 Calls Tryz.prog 3 #[unV u ha hc fa fc,rsV r p,.agg (whrC f pt pa pc)] w (Ret w (.bool true)):=by
 have S00:Hid (URB u ha hc fa fc r p w _):=URB.start (hc:=hc) (fc:=fc) h hf hr
 have HZ:Hid (((w.alloc (unC u ha hc fa fc)).alloc (rsC r p)).heap.size=w.heap.size + 2):=by show _=_;simp
 have AW0:=Lib.hid hA
 have HAB:=Lib.hid hbel
 have HAK:=Lib.hid hawk
 have HKW:=Lib.hid hkw
 have HSM:Hid (∀ w1,ClssAt w1 ha u.h→FncsAt w1 fa u.fs→Calls Tryz.prog 4 #[unV u ha hc fa fc,.int .i64 80] w1 (BPost (fun b=>b=true→FitOk u 80∧UnitOk u) w1)):=fun w1 h1 h2=>small11 u ha hc fa fc 80 w1 h1 h2 (by omega)
 have HFW:Hid (∀ w1,RslAt w1 p r→Calls Tryz.prog 5 #[rsV r p] w1 (BPost (fun b=>b=true→FewOk r) w1)):=fun w1 h1=>few21 r p w1 h1
 have HSH:Hid (∀ w1,StrsAt w1 pa pt.fs→Calls Tryz.prog 6 #[pV pt pa pc] w1 (Ret w1 (.bool (shortB pt)))):=fun w1 h1=>short8 pt pa pc w1 h1
 have HUK:Hid (FitOk u 80→FewOk r→UOk u fc r):=fun h1 h2=>⟨fit_mono h1 (by omega),hcap,h2⟩
 have HC1:Hid (UOk u fc r→∀ w1,KW w1→ClssAt w1 ha u.h→FncsAt w1 fa u.fs→RslAt w1 p r→StrsAt w1 pa pt.fs→Calls Tryz.prog 9 #[unV u ha hc fa fc,rsV r p,.int .i64 f,pV pt pa pc] w1 (CelsIn (pthC u r f pt) w1)):=fun k w1 h0 h1 h2 h3 h4=>cells41 u ha hc fa fc r p f pt pa pc w1 h0 h1 h2 h3 h4 k
 have HC2:Hid (UOk u fc r→∀ w1,ClssAt w1 ha u.h→FncsAt w1 fa u.fs→RslAt w1 p r→StrsAt w1 pa pt.fs→Calls Tryz.prog 10 #[unV u ha hc fa fc,rsV r p,.int .i64 f,pV pt pa pc] w1 (CelsIn (pthC u r f pt) w1)):=fun k w1 h1 h2 h3 h4=>refCells41 u ha hc fa fc r p f pt pa pc w1 h1 h2 h3 h4 k
 have HLC:Hid (UOk u fc r→(pthC u r f pt).length≤1000000):=fun k=>pthC_len k f pt
 have HSA:Hid (∀ (l:List Cel) (pa:Option Addr) (ca:Nat) (pb:Option Addr) (cb:Nat) (w1:World),CelsAt w1 pa l→CelsAt w1 pb l→l.length≤1000000→Calls Tryz.prog 8 #[.slice pa l.length ca,.slice pb l.length cb] w1 (Ret w1 (.bool true))):=fun l pa ca pb cb w1 h1 h2 h3=>same26 l pa ca pb cb w1 h1 h2 h3
 have HSP:=Lib.hid (hs.below (three_below w (unC u ha hc fa fc) (rsC r p) (.cells (whrC f pt pa pc) 39)))
 clear hA h hf hr hs hbel hawk hkw hcap
 generalize pthC u r f pt=CL at *
 generalize shortB pt=sb at *
 unfold unV rsV pV at *
 go_enter Tryz.func3,Tryz.ntmps3
 go_upto_region 1 with (fail)
 have S0:Hid (LT u ha hc fa fc r p f pt pa pc w (((w.alloc (unC u ha hc fa fc)).alloc (rsC r p)).alloc (.cells (whrC f pt pa pc) 39))):=by
  have h8:=blk_new ((w.alloc (unC u ha hc fa fc)).alloc (rsC r p)) (whrC f pt pa pc) 39
  rw [HZ.out] at h8
  exact ⟨S00.out.below (one_below ..),h8,HSP.out⟩
 clear S00 HZ HSP
 generalize ((w.alloc _).alloc _).alloc _=W at *
 obtain ⟨⟨z0,z1,z2⟩,z3,z4,z5,z6⟩:=S0.out.ub.now (Below.refl _ _)
 go_wp2_with fail
 refine (HSM.out _ S0.out.ub.ub.h S0.out.ub.ub.f).mono ?_
 rintro e w1 ⟨hb1,d,rfl,hr1⟩
 have S1:=Lib.hid (S0.out.below hb1)
 have HR1:=Lib.hid hr1
 clear S0 hb1 hr1 HSM z0 z1 z2 z3 z4 z5 z6
 cases d
 case false =>
  go_wp2_with fail
  refine (HAK.out _ (HAB.out _ _ AW0.out S1.out.ub.ub.hb)).mono ?_
  rintro e w2 ⟨rfl,hb2⟩
  have S2:=Lib.hid (S1.out.below hb2)
  clear S1 hb2
  go_wp2
  go_ret
  exact ⟨rfl,S2.out.ub.ub.hb⟩
 have HFI:=Lib.hid (HR1.out rfl).1
 clear HR1
 obtain ⟨⟨z0,z1,z2⟩,z3,z4,z5,z6⟩:=S1.out.ub.now (Below.refl _ _)
 go_wp2_with fail
 refine (HFW.out _ S1.out.ub.rb.m).mono ?_
 rintro e w2 ⟨hb2,d,rfl,hr2⟩
 have S2:=Lib.hid (S1.out.below hb2)
 have HR2:=Lib.hid hr2
 clear S1 hb2 hr2 HFW z0 z1 z2 z3 z4 z5 z6
 cases d
 case false =>
  go_wp2_with fail
  refine (HAK.out _ (HAB.out _ _ AW0.out S2.out.ub.ub.hb)).mono ?_
  rintro e w3 ⟨rfl,hb3⟩
  have S3:=Lib.hid (S2.out.below hb3)
  clear S2 hb3
  go_wp2
  go_ret
  exact ⟨rfl,S3.out.ub.ub.hb⟩
 have HUU:=Lib.hid (HUK.out HFI.out (HR2.out rfl))
 clear HR2 HFI HUK
 obtain ⟨z0,z1,z2,z3,z4⟩:=S2.out.whr (Below.refl _ _)
 go_wp2_with fail
 refine (HSH.out _ S2.out.sp).mono ?_
 rintro e w3 ⟨rfl,hb3⟩
 have S3:=Lib.hid (S2.out.below hb3)
 clear S2 hb3 HSH z0 z1 z2 z3 z4
 cases sb
 case false =>
  go_wp2_with fail
  refine (HAK.out _ (HAB.out _ _ AW0.out S3.out.ub.ub.hb)).mono ?_
  rintro e w4 ⟨rfl,hb4⟩
  have S4:=Lib.hid (S3.out.below hb4)
  clear S3 hb4
  go_wp2
  go_ret
  exact ⟨rfl,S4.out.ub.ub.hb⟩
 replace HC1:=Lib.hid (HC1.out HUU.out)
 replace HC2:=Lib.hid (HC2.out HUU.out)
 have hlc:=HLC.out HUU.out
 clear HUU HLC
 go_upto_region 3 with (fail)
 generalize w3=wc at *
 have k1:∀ o:WB wc,o.u.cell? ⟨w.heap.size,0,none⟩=some (.slice ha u.h.length hc):=fun o=>(S3.out.ub.now o.h).1.1
 have k2:∀ o:WB wc,o.u.cell? ⟨w.heap.size,1,none⟩=some (.slice fa u.fs.length fc):=fun o=>(S3.out.ub.now o.h).1.2.1
 have k3:∀ o:WB wc,o.u.cell? ⟨w.heap.size,2,none⟩=some (.int .i64 u.main):=fun o=>(S3.out.ub.now o.h).1.2.2
 have k4:∀ o:WB wc,o.u.cell? ⟨w.heap.size + 1,0,none⟩=some (.slice p.ra r.reached p.rc):=fun o=>(S3.out.ub.now o.h).2.1
 have k5:∀ o:WB wc,o.u.cell? ⟨w.heap.size + 1,1,none⟩=some (.slice p.ca r.calls.length p.cc):=fun o=>(S3.out.ub.now o.h).2.2.1
 have k6:∀ o:WB wc,o.u.cell? ⟨w.heap.size + 1,2,none⟩=some (.slice p.va r.vars.length p.vc):=fun o=>(S3.out.ub.now o.h).2.2.2.1
 have k7:∀ o:WB wc,o.u.cell? ⟨w.heap.size + 1,3,none⟩=some (.slice p.xa r.cells.length p.xc):=fun o=>(S3.out.ub.now o.h).2.2.2.2
 have k8:∀ o:WB wc,o.u.cell? ⟨w.heap.size + 2,0,none⟩=some (.int .i64 f):=fun o=>(S3.out.whr o.h).1
 have k9:∀ o:WB wc,o.u.cell? ⟨w.heap.size + 2,1,none⟩=some (.int .i64 pt.root):=fun o=>(S3.out.whr o.h).2.1
 have k10:∀ o:WB wc,o.u.cell? ⟨w.heap.size + 2,2,none⟩=some (.int .i64 pt.n):=fun o=>(S3.out.whr o.h).2.2.1
 have k11:∀ o:WB wc,o.u.cell? ⟨w.heap.size + 2,3,none⟩=some (.slice pa pt.fs.length pc):=fun o=>(S3.out.whr o.h).2.2.2.1
 have k12:∀ o:WB wc,o.u.cell? ⟨w.heap.size + 2,4,none⟩=some (.bool pt.star):=fun o=>(S3.out.whr o.h).2.2.2.2
 have hne:Nonempty (WB wc):=⟨⟨wc,Below.refl _ _⟩⟩
 have h0:Below wc.heap.size wc wc.drew:=(Below.refl _ _).drew
 refine wp_region_Y (fun w'=>∃ o:WB wc,w' = o.u) (by kernel_rfl) ?_
 change wpAnyY _ _ _ _ _ _ _ _ wc.drew
 generalize wc.drew=V0 at *
 refine wpAnyY_one 0 rfl (by kernel_rfl) ?_
 go_wp2_with fail
 refine (HAK.out _ (HAB.out _ _ AW0.out (S3.out.below h0).ub.ub.hb)).mono ?_
 rintro e X1 ⟨rfl,hb⟩
 have h1:Below wc.heap.size wc X1:=h0.trans (hb.mono h0.size)
 have KW1:=Lib.hid (HKW.out _ (HAB.out _ _ AW0.out (S3.out.below h1).ub.ub.hb))
 clear hb h0 AW0 HAB HAK HKW
 go_wp2
 refine ⟨⟨⟨_,h1⟩,rfl⟩,?_⟩
 refine wpAnyY_take 1 rfl (by kernel_rfl) (fun _ _ _ _ h=>h) ⟨⟨_,h1⟩,rfl⟩ (fun K hK=>?_);go_simp;refine hK _ ?_;clear hK K
 refine wpAnyY_take 2 rfl (by kernel_rfl) (fun _ _ _ _ h=>h) ⟨⟨_,h1⟩,rfl⟩ (fun K hK=>?_);go_simp;refine hK _ ?_;clear hK K
 refine wpAnyY_take 3 rfl (by kernel_rfl) (fun _ _ _ _ h=>h) ⟨⟨_,h1⟩,rfl⟩ (fun K hK=>?_);go_simp;refine hK _ ?_;clear hK K
 refine wpAnyY_take 4 rfl (by kernel_rfl) (fun _ _ _ _ h=>h) ⟨⟨_,h1⟩,rfl⟩ (fun K hK=>?_);go_simp;refine hK _ ?_;clear hK K
 refine wpAnyY_take 5 rfl (by kernel_rfl) (fun _ _ _ _ h=>h) ⟨⟨_,h1⟩,rfl⟩ (fun K hK=>?_);go_simp;refine hK _ ?_;clear hK K
 refine wpAnyY_take 6 rfl (by kernel_rfl) (fun _ _ _ _ h=>h) ⟨⟨_,h1⟩,rfl⟩ (fun K hK=>?_);go_simp;refine hK _ ?_;clear hK K
 refine wpAnyY_take 7 rfl (by kernel_rfl) (fun _ _ _ _ h=>h) ⟨⟨_,h1⟩,rfl⟩ (fun K hK=>?_);go_simp;refine hK _ ?_;clear hK K
 refine wpAnyY_take 9 rfl (by kernel_rfl) (fun _ _ _ _ h=>h) ⟨⟨_,h1⟩,rfl⟩ (fun K hK=>?_);go_simp;refine hK _ ?_;clear hK K
 refine wpAnyY_take 10 rfl (by kernel_rfl) (fun _ _ _ _ h=>h) ⟨⟨_,h1⟩,rfl⟩ (fun K hK=>?_);go_simp;refine hK _ ?_;clear hK K
 refine wpAnyY_take 11 rfl (by kernel_rfl) (fun _ _ _ _ h=>h) ⟨⟨_,h1⟩,rfl⟩ (fun K hK=>?_);go_simp;refine hK _ ?_;clear hK K
 refine wpAnyY_take 12 rfl (by kernel_rfl) (fun _ _ _ _ h=>h) ⟨⟨_,h1⟩,rfl⟩ (fun K hK=>?_);go_simp;refine hK _ ?_;clear hK K
 refine wpAnyY_take 13 rfl (by kernel_rfl) (fun _ _ _ _ h=>h) ⟨⟨_,h1⟩,rfl⟩ (fun K hK=>?_);go_simp;refine hK _ ?_;clear hK K
 refine wpAnyY_take 14 rfl (by kernel_rfl) (fun _ _ _ _ h=>h) ⟨⟨_,h1⟩,rfl⟩ (fun K hK=>?_);go_simp;refine hK _ ?_;clear hK K
 refine wpAnyY_one 8 rfl (by kernel_rfl) ?_
 go_wp2_with fail
 refine (HC1.out _ KW1.out (S3.out.below h1).ub.ub.h (S3.out.below h1).ub.ub.f (S3.out.below h1).ub.rb.m (S3.out.below h1).sp).mono ?_
 rintro e X4 ⟨hb,ea,ec,rfl,hpa⟩
 have h4:Below wc.heap.size wc X4:=h1.trans (hb.mono h1.size)
 have PA:=Lib.hid hpa
 clear hb h1 HC1 hpa KW1
 go_wp2
 refine ⟨⟨⟨_,h4⟩,rfl⟩,?_⟩
 refine wpAnyY_one 15 rfl (by kernel_rfl) ?_
 go_wp2_with fail
 refine (HC2.out _ (S3.out.below h4).ub.ub.h (S3.out.below h4).ub.ub.f (S3.out.below h4).ub.rb.m (S3.out.below h4).sp).mono ?_
 rintro e X5 ⟨hb,qa,qc,rfl,hqa⟩
 have h5:Below wc.heap.size wc X5:=h4.trans (hb.mono h4.size)
 replace PA:=Lib.hid (PA.out.below hb)
 have QA:=Lib.hid hqa
 clear hb h4 HC2 hqa
 go_wp2
 refine ⟨⟨⟨_,h5⟩,rfl⟩,?_⟩
 refine wpAnyY_one 16 rfl (by kernel_rfl) ?_
 go_wp2_with fail
 refine (HSA.out CL ea ec qa qc _ PA.out QA.out hlc).mono ?_
 rintro e X6 ⟨rfl,hb⟩
 have h6:Below wc.heap.size wc X6:=h5.trans (hb.mono h5.size)
 clear hb h5 PA QA
 go_wp2
 refine ⟨⟨⟨_,h6⟩,rfl⟩,?_⟩
 refine wpAnyY_take 17 rfl (by kernel_rfl) (fun _ _ _ _ h=>h) ⟨⟨_,h6⟩,rfl⟩ (fun K hK=>?_);go_simp;refine hK _ ?_;clear hK K
 refine wpAnyY_one 18 rfl (by kernel_rfl) ?_
 go_wp2
 refine ⟨⟨⟨_,h6⟩,rfl⟩,?_⟩
 refine wpAnyY_done (by kernel_rfl) ?_ _
 have HB:=Lib.hid (S3.out.below h6).ub.ub.hb
 clear k1 k2 k3 k4 k5 k6 k7 k8 k9 k10 k11 k12
 go_wp2
 go_ret
 exact ⟨rfl,HB.out⟩
end Go.Proofs.YtffcklfigpmlgaaGreatDoor
