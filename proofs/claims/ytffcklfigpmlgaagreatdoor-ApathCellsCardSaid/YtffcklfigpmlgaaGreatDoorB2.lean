/-
  The reference's Cells of a path. (Printed by pre.py.)
-/
import Derived.Test.YtffcklfigpmlgaaGreatDoorA9
import Derived.Test.YtffcklfigpmlgaaGreatDoorB1
namespace Go.Proofs.YtffcklfigpmlgaaGreatDoor
open Go.RowKit Go.Unit0 Go.AM

structure Gd (u:Unt) (O0:List Cel) (S:List Int) (O:List Cel):Prop where
 a:S.Pairwise (· < ·)
 i:∀ x ∈ S,inN (sitL u).length x=true
 c:CelAsc O
 m:∀ c ∈ O,c ∈ O0 ∨ fldB u.h (sitL u) c.f c.s=true
theorem Gd.step {u:Unt} {r:Rsl} {O0:List Cel} {S:List Int} {O:List Cel} (g:Gd u O0 S O) (f:Str):Gd u O0 (stN u r (S,O) f).1 (stN u r (S,O) f).2 :=
 have h:=(StOk.step (r:=r) (st:=(S,O)) ⟨g.a,g.i,g.c⟩ f)
 ⟨h.a,h.i,h.c,fun c hc=>by
   rcases (celPuts_mem c _ _).1 hc with h1 | h1
   ·exact g.m c h1
   ·obtain ⟨_,h5,h6⟩:=cfL_mem.1 h1
    exact .inr (by rw [h5];exact h6)⟩
theorem cells_few {u:Unt} {O0 O:List Cel} (ha:CelAsc O) (h:∀ c ∈ O,c ∈ O0 ∨ fldB u.h (sitL u) c.f c.s=true):O.length≤O0.length + (sitL u).length * (setB (fldNames u.h)).length:=by
 have hn:O.Nodup:=ha.imp (fun h e=>by subst e;exact celLt_irrefl _ h)
 have:=nodup_sub_len (m:=O0 ++ (List.range (sitL u).length).flatMap (fun s:Nat=>(setB (fldNames u.h)).map (fun f=>(⟨(s:Int),f⟩:Cel)))) hn (fun c hc=>by
  rcases h c hc with h1 | h1
  ·exact List.mem_append_left _ h1
  ·refine List.mem_append_right _ (List.mem_flatMap.2 ?_)
   have h2:=inN_iff.1 (fldB_in h1)
   exact ⟨c.s.toNat,List.mem_range.2 (by omega),List.mem_map.2 ⟨c.f,fldB_names h1,cel_ext (by show (c.s.toNat:Int)=c.s;omega) rfl⟩⟩)
 rw [List.length_append] at this
 have h3:=flatMap_le (f:=fun s:Nat=>(setB (fldNames u.h)).map (fun f=>(⟨(s:Int),f⟩:Cel))) (m:=(setB (fldNames u.h)).length) (l:=List.range (sitL u).length) (fun s _=>by simp)
 rw [List.length_range] at h3
 omega
structure RT (u:Unt) (ha:Option Addr) (hc:Nat) (fa:Option Addr) (fc:Nat) (r:Rsl) (p:RP) (pt:Pth) (pa:Option Addr) (pc:Nat) (S:List Int) (ka:Option Addr) (kc:Nat) (O:List Cel) (xa:Option Addr) (xc:Nat) (w wr:World):Prop where
 cb:CB9 u ha hc fa fc r p pt pa pc w wr
 it:IntsAt wr ka S
 kc:S.length≤kc
 ct:CelsAt wr xa O
 xc:O.length≤xc
theorem RT.below {u:Unt} {ha:Option Addr} {hc:Nat} {fa:Option Addr} {fc:Nat} {r:Rsl} {p:RP} {pt:Pth} {pa:Option Addr} {pc:Nat} {S:List Int} {ka:Option Addr} {kc:Nat} {O:List Cel} {xa:Option Addr} {xc:Nat} {w wr w':World} (k:RT u ha hc fa fc r p pt pa pc S ka kc O xa xc w wr) (hb:Below wr.heap.size wr w'):RT u ha hc fa fc r p pt pa pc S ka kc O xa xc w w' :=
 ⟨k.cb.below hb,k.it.below hb,k.kc,k.ct.below hb,k.xc⟩
theorem intsAt_nil (w:World) (a:Option Addr):IntsAt w a []:=fun k hk=>by simp at hk
theorem celsAt_nil (w:World) (a:Option Addr):CelsAt w a []:=fun k hk=>by simp at hk
theorem knoL_t {n:Nat} {l:List Int} {k:Nat} (hk:k < l.length) (e:inN n l[k]=true):knoL n (l.take (k + 1))=iPut (knoL n (l.take k)) l[k]:=by
 unfold knoL;rw [take_snoc hk,List.filter_append,List.filter_cons_of_pos e,List.filter_nil,iPuts_snoc]
theorem knoL_f {n:Nat} {l:List Int} {k:Nat} (hk:k < l.length) (e:inN n l[k]=false):knoL n (l.take (k + 1))=knoL n (l.take k):=by
 unfold knoL;rw [take_snoc hk,List.filter_append,List.filter_cons_of_neg (by simp [e]),List.filter_nil,List.append_nil]
set_option maxRecDepth 100000 in
set_option maxHeartbeats 32000000 in
theorem refCells41 (u:Unt) (ha:Option Addr) (hc:Nat) (fa:Option Addr) (fc:Nat) (r:Rsl) (p:RP) (f:Int) (pt:Pth) (pa:Option Addr) (pc:Nat) (w:World) (h:ClssAt w ha u.h) (hf:FncsAt w fa u.fs) (hr:RslAt w p r) (hs:StrsAt w pa pt.fs) (hk:UOk u fc r) :
 Calls Tryz.prog 10 #[unV u ha hc fa fc,rsV r p,.int .i64 f,pV pt pa pc] w (CelsIn (pthC u r f pt) w):=by
 have S0:Hid (CB9 u ha hc fa fc r p pt pa pc w _):=CB9.start (hc:=hc) (fc:=fc) (pc:=pc) h hf hr hs
 have HCK:Hid (∀ w1,StrsAt w1 pa pt.fs→Calls Tryz.prog 31 #[pV pt pa pc] w1 (Ret w1 (.int .i64 (chkE pt)))):=fun w1 h2=>check41r pt pa pc w1 h2
 have HSI:Hid (∀ w1,ClssAt w1 ha u.h→FncsAt w1 fa u.fs→Calls Tryz.prog 32 #[unV u ha hc fa fc] w1 (SitsPost (sitL u) w1)):=fun w1 h1 h2=>sitesR u ha hc fa fc w1 h1 h2 hk.fit
 have HOF:Hid (∀ w1,ClssAt w1 ha u.h→FncsAt w1 fa u.fs→RslAt w1 p r→Calls Tryz.prog 33 #[unV u ha hc fa fc,rsV r p,.int .i64 f,.int .i64 pt.n] w1 (NumsPost (ofP u r f pt.n) w1)):=fun w1 h1 h2 h3=>ofR21 u ha hc fa fc r p f pt.n w1 h1 h2 h3 hk.hl hk.hv
 have HCF:Hid (∀ (S:List Int) (a:Option Addr) (c:Nat) (fld:Str) w1,ClssAt w1 ha u.h→FncsAt w1 fa u.fs→IntsAt w1 a S→S.Pairwise (· < ·)→(∀ x ∈ S,inN (sitL u).length x=true)→Calls Tryz.prog 35 #[unV u ha hc fa fc,.slice a S.length c,.string fld] w1 (CelsLie (cfL u fld S) w1)):=fun S a c fld w1 h1 h2 h3 h4 h5=>cellsOf41 u ha hc fa fc S a c fld w1 h1 h2 h3 h4 h5 hk.fit
 have HCT:Hid (∀ (L:List Cel) (a:Option Addr) (c:Nat) w1,ClssAt w1 ha u.h→FncsAt w1 fa u.fs→RslAt w1 p r→CelsAt w1 a L→L.length≤1000000→Calls Tryz.prog 36 #[unV u ha hc fa fc,rsV r p,.slice a L.length c] w1 (IntsLie (conL u r L) w1)):=fun L a c w1 h1 h2 h3 h4 h5=>contents41 u ha hc fa fc r p L a c w1 h1 h2 h3 h4 h5 hk
 have HIS:Hid (∀ (l:List Int) (x:Int) (a:Option Addr) (c:Nat) w1,IntsAt w1 a l→l.length≤c→l.length≤900000→Calls Tryz.prog 34 #[.slice a l.length c,.int .i64 x] w1 (IntsLie (iPut l x) w1)):=fun l x a c w1 h1 h2 h3=>insertR23 l x a c w1 h1 h2 h3
 have HPU:Hid (∀ (l:List Cel) (x:Int) (g:Str) (a:Option Addr) (c:Nat) w1,CelsAt w1 a l→l.length≤c→l.length≤900000→Calls Tryz.prog 38 #[.slice a l.length c,.agg #[.int .i64 x,.string g]] w1 (CelsLie (celPut l ⟨x,g⟩) w1)):=fun l x g a c w1 h1 h2 h3=>putR26 l ⟨x,g⟩ a c w1 h1 h2 h3
 have HFI:Hid (∀ w1,ClssAt w1 ha u.h→FncsAt w1 fa u.fs→Calls Tryz.prog 37 #[unV u ha hc fa fc] w1 (fun e w'=>Below w1.heap.size w1 w'∧∃ (a:Option Addr) (c:Nat),e = .returned (.slice a (setB (fldNames u.h)).length c)∧StrsAt w' a (setB (fldNames u.h)))):=fun w1 h1 h2=>(fields31 u ha hc fa fc w1 h1 h2 (by have:=hk.fit.nc;omega) (fun x hx=>by have:=(hk.fit.c x hx).f;omega)).mono (by
  rintro e w' ⟨hb,l,a,c,rfl,hat,hl⟩
  obtain rfl:=setB_ref hl
  exact ⟨hb,a,c,rfl,hat⟩)
 have hofl:=hk.ofl f pt.n
 have hsl:=hk.sl
 have hnm:=hk.nm
 have HFL2:Hid (chkE pt=0→pt.fs.length≤2):=fun e=>(chkE_ok.1 e).2.2.2.1
 have HR1:Hid (chkE pt ≠ 0→pthC u r f pt = []):=fun e=>if_pos e
 have HR2:Hid (chkE pt=0→pt.root ≠ 3→pt.root ≠ 4→pthC u r f pt = []):=fun e e1 e2=>by unfold pthC;rw [if_neg (by simpa using e),if_pos ⟨e1,e2⟩]
 have HR3:Hid (chkE pt=0→(pt.root=3 ∨ pt.root=4)→pt.star=false→(walkF u r (rootS u r f pt) pt.fs).1=pthC u r f pt):=fun e e1 e2=>by unfold pthC;rw [if_neg (by simpa using e),if_neg (by omega),if_neg (by simp [e2])]
 have HR4:Hid (chkE pt=0→(pt.root=3 ∨ pt.root=4)→pt.star=true→(rnds u r (setB (fldNames u.h)) ((sitL u).length + 1) ((walkF u r (rootS u r f pt) pt.fs).2,(walkF u r (rootS u r f pt) pt.fs).1)).2=pthC u r f pt):=fun e e1 e2=>by
  unfold pthC
  rw [if_neg (by simpa using e),if_neg (by omega),if_pos e2]
 have HS3:Hid (pt.root=3→rootS u r f pt=knoL (sitL u).length (ofP u r f pt.n)):=fun e=>by unfold rootS;rw [if_pos e]
 have HS4:Hid (pt.root=4→rootS u r f pt=knoL (sitL u).length [pt.n]):=fun e=>by unfold rootS;rw [if_neg (by omega)]
 have HSK:Hid (∀ k,k≤pt.fs.length→(walkF u r (rootS u r f pt) (pt.fs.take k)).2.Pairwise (· < ·)∧(∀ x ∈ (walkF u r (rootS u r f pt) (pt.fs.take k)).2,inN (sitL u).length x=true)∧CelAsc (walkF u r (rootS u r f pt) (pt.fs.take k)).1):=fun k hk'=>walkF_ok (r:=r) (rootS_asc u r f pt) (rootS_in) (fs:=pt.fs) k hk'
 have HXK:Hid (∀ k,k≤pt.fs.length→(walkF u r (rootS u r f pt) (pt.fs.take k)).1.length≤150):=fun k hk'=>by
  cases k with
  | zero=>rw [List.take_zero,walkF_nil];simp
  | succ k =>
    rw [walkF_take (by omega)]
    obtain ⟨h2,h3,-⟩:=HSK.out k (by omega)
    have h1:=celL_len u.h (sitL u) pt.fs[k] (walkF u r (rootS u r f pt) (pt.fs.take k)).2
    have h4:=asc_len h2 h3
    show (cfL u _ _).length≤150
    exact Nat.le_trans h1 (by omega)
 have HW0:Hid (walkF u r (rootS u r f pt) (pt.fs.take 0)=([],rootS u r f pt)):=rfl
 have HWS:Hid (∀ k (hk:k < pt.fs.length),walkF u r (rootS u r f pt) (pt.fs.take (k + 1))=(cfL u pt.fs[k] (walkF u r (rootS u r f pt) (pt.fs.take k)).2,conL u r (cfL u pt.fs[k] (walkF u r (rootS u r f pt) (pt.fs.take k)).2))):=fun k hk'=>walkF_take hk'
 have HWE:Hid (walkF u r (rootS u r f pt) (pt.fs.take pt.fs.length)=walkF u r (rootS u r f pt) pt.fs):=by show _=_;rw [List.take_length]
 have HOL:Hid (∀ (O0 O:List Cel),O0.length≤150→CelAsc O→(∀ c ∈ O,c ∈ O0 ∨ fldB u.h (sitL u) c.f c.s=true)→O.length≤36150):=fun O0 O e1 e2 e3=>by
  have h1:=cells_few e2 e3
  have h2:(sitL u).length * (setB (fldNames u.h)).length≤150 * 240:=Nat.mul_le_mul hsl hnm
  omega
 have HSL:Hid (∀ S:List Int,S.Pairwise (· < ·)→(∀ x ∈ S,inN (sitL u).length x=true)→S.length≤150):=fun S h1 h2=>by have:=asc_len h1 h2;omega
 clear h hf hr hs hk
 generalize pthC u r f pt=R at *
 generalize rootS u r f pt=RS at *
 generalize ofP u r f pt.n=OF at *
 generalize chkE pt=ck at *
 obtain ⟨X,hX⟩:∃ X:Nat→List Cel × List Int,X=fun k=>walkF u r RS (pt.fs.take k):=⟨_,rfl⟩
 have HX:Hid (∀ k,walkF u r RS (pt.fs.take k)=X k):=fun k=>by rw [hX]
 clear hX
 rw [← HWE.out] at HR3 HR4
 simp only [HX.out] at HSK HXK HW0 HWS HR3 HR4
 clear HX HWE
 obtain ⟨n,hn⟩:∃ n,n=(sitL u).length:=⟨_,rfl⟩
 have HNL:=Lib.hid hn
 rw [← hn] at HR4 HCF HS3 HS4 HSK HSL hsl
 clear hn
 generalize hN:setB (fldNames u.h)=N at *
 clear hN
 unfold unV rsV pV at *
 obtain ⟨rt,hrt⟩:∃ rt,pt.root=rt:=⟨_,rfl⟩
 have HRT:=Lib.hid hrt
 rw [hrt] at HR2 HR3 HR4 HS3 HS4 S0 HCK ⊢
 clear hrt
 go_enter Tryz.func10,Tryz.ntmps10
 go_upto_region 1 with (fail)
 generalize ((w.alloc _).alloc _).alloc _=W at *
 obtain ⟨y0,y1,y2,y3⟩:=S0.out.pth (Below.refl _ _)
 rw [HRT.out] at y0
 have HC1:=Lib.hid (HCK.out W S0.out.sp)
 by_cases hck:ck=0
 case neg =>
  have HL:=Lib.hid (HR1.out hck)
  have t1:(ck == 0)=false:=beq_eq_false_iff_ne.2 hck
  clear HCF HCT HIS HPU HOF HSI HWS HSK HXK HR3 HR4
  go_wp2_with (go_at_call 31;refine HC1.out.mono ?_;rintro e w1 ⟨rfl,hb1⟩)
  go_ret
  exact CelsIn.nil (S0.out.ub.ub.hb.trans (hb1.mono S0.out.ub.ub.hb.size)) HL.out
 subst hck
 have hfl2:=HFL2.out rfl
 replace HR2:=Lib.hid (HR2.out rfl)
 replace HR3:=Lib.hid (HR3.out rfl)
 replace HR4:=Lib.hid (HR4.out rfl)
 clear HR1 HCK
 by_cases hroot:rt=3 ∨ rt=4
 case neg =>
  have t3:¬ rt=3:=by omega
  have t4:¬ rt=4:=by omega
  have b3:(rt != 3)=true:=by simp [t3]
  have b4:(rt != 4)=true:=by simp [t4]
  have HL:=Lib.hid (HR2.out t3 t4)
  clear hroot HCF HCT HIS HPU HOF HSI HWS HSK HXK HR2 HR3 HR4 HS3 HS4 HW0
  have HCB:Hid (∀ w1,Below W.heap.size W w1→w1.cell? ⟨w.heap.size + 2,0,none⟩=some (.int .i64 rt)):=fun w1 hb=>cell_below hb y0
  go_wp2_with (go_at_call 31;refine HC1.out.mono ?_;rintro e w1 ⟨rfl,hb1⟩;have y00:=HCB.out _ hb1;have HB1:=Lib.hid hb1;clear hb1)
  go_ret
  exact CelsIn.nil (S0.out.ub.ub.hb.trans (HB1.out.mono S0.out.ub.ub.hb.size)) HL.out
 replace HR3:=Lib.hid (HR3.out hroot)
 replace HR4:=Lib.hid (HR4.out hroot)
 clear HR2
 go_cut [34] (fun v wc=>v = .bool false∧Hid (CB9 u ha hc fa fc r p pt pa pc w wc))
 case first =>
  clear HCF HCT HIS HPU HOF HSI HWS HSK HXK HR3 HR4 HS3 HS4 HW0
  have HCB:Hid (∀ w1,Below W.heap.size W w1→w1.cell? ⟨w.heap.size + 2,0,none⟩=some (.int .i64 rt)):=fun w1 hb=>cell_below hb y0
  rcases hroot with rfl | rfl
  ·go_wp2_with (go_at_call 31;refine HC1.out.mono ?_;rintro e w1 ⟨rfl,hb1⟩;have y00:=HCB.out _ hb1;have HB1:=Lib.hid hb1;clear hb1)
   go_meet
   exact ⟨rfl,S0.out.below HB1.out⟩
  ·go_wp2_with (go_at_call 31;refine HC1.out.mono ?_;rintro e w1 ⟨rfl,hb1⟩;have y00:=HCB.out _ hb1;have HB1:=Lib.hid hb1;clear hb1)
   go_meet
   exact ⟨rfl,S0.out.below HB1.out⟩
 case rest =>
 obtain ⟨rfl,S1⟩:=hcut
 clear S0 HC1 y0 y1 y2 y3
 generalize wc=W1 at *
 clear W
 obtain ⟨z0,z1,z2⟩:=(S1.out.ub.now (Below.refl _ _)).1
 go_upto_region 4 with (go_at_call 32;refine (HSI.out _ S1.out.ub.ub.h S1.out.ub.ub.f).mono ?_;rintro e w2 ⟨hb2,sa,sc,rfl,own2⟩)
 rw [← HNL.out]
 have S2:=Lib.hid (S1.out.below hb2)
 clear S1 hb2 own2 HSI z0 z1 z2
 generalize w2=W2 at *
 obtain ⟨y0,y1,y2,y3⟩:=S2.out.pth (Below.refl _ _)
 rw [HRT.out] at y0
 go_upto_region 5 with (fail)
 have hb3:=one_below W2 (.cells #[.int .i64 pt.n] 3)
 have S3:=Lib.hid (S2.out.below hb3)
 have I3:Hid (IntsAt (W2.alloc (.cells #[.int .i64 pt.n] 3)) (some ⟨W2.heap.size,0,none⟩) [pt.n]):=ints_new W2 pt.n
 clear S2 hb3 y0 y1 y2 y3
 generalize W2.alloc _=W3 at *
 generalize W2.heap.size=g3 at *
 obtain ⟨y0,y1,y2,y3⟩:=S3.out.pth (Below.refl _ _)
 rw [HRT.out] at y0
 go_upto_if 43 with (fail)
 go_cut [10] (fun v wc=>∃ (la:Option Addr) (lc:Nat) (l:List Int),v = .slice la l.length lc∧Hid (RS=knoL n l)∧Hid (l.length≤4000)∧Hid (CB9 u ha hc fa fc r p pt pa pc w wc)∧Hid (IntsAt wc la l))
 case first =>
  clear HCF HCT HIS HPU HWS HSK HXK HR3 HR4 HW0
  obtain ⟨⟨z0,z1,z2⟩,z3,z4,z5,z6⟩:=S3.out.ub.now (Below.refl _ _)
  have HO1:=Lib.hid (HOF.out _ S3.out.ub.ub.h S3.out.ub.ub.f S3.out.ub.rb.m)
  rcases hroot with rfl | rfl
  ·have HE:=Lib.hid (HS3.out rfl)
   clear HS3 HS4 HOF
   go_wp2_with (go_at_call 33;refine HO1.out.mono ?_;rintro e w4 ⟨hb4,la,lc,rfl,hat4⟩)
   go_meet
   exact ⟨la,lc,OF,rfl,HE.out,hofl,S3.out.below hb4,hat4⟩
  ·have HE:=Lib.hid (HS4.out rfl)
   clear HS3 HS4 HOF HO1
   go_wp2
   go_meet
   exact ⟨_,1,[pt.n],rfl,HE.out,by show _≤_;simp,S3.out,I3.out⟩
 case rest =>
 obtain ⟨la,lc,l,rfl,HRS,HLL,S4,I4⟩:=hcut
 clear S3 I3 HS3 HS4 HOF y0 y1 y2 y3
 generalize wc=W4 at *
 have hll:=HLL.out
 have HKT:Hid (∀ k (hk:k < l.length),inN n l[k]=true→knoL n (l.take (k + 1))=iPut (knoL n (l.take k)) l[k]):=fun k hk e=>knoL_t hk e
 have HKF:Hid (∀ k (hk:k < l.length),inN n l[k]=false→knoL n (l.take (k + 1))=knoL n (l.take k)):=fun k hk e=>knoL_f hk e
 have HKL:Hid (∀ k,(knoL n (l.take k)).length≤4000):=fun k=>by
  have h1:=knoL_len n (l.take k)
  have h2:(l.take k).length≤l.length:=by simp;omega
  omega
 have HK0:Hid (knoL n (l.take 0) = []):=rfl
 have HKE:Hid (knoL n (l.take l.length)=RS):=by show _=_;rw [List.take_length,HRS.out]
 obtain ⟨K,hK⟩:∃ K:Nat→List Int,K=fun k=>knoL n (l.take k):=⟨_,rfl⟩
 have HKK:Hid (∀ k,knoL n (l.take k)=K k):=fun k=>by rw [hK]
 clear hK
 simp only [HKK.out] at HKT HKF HKL HK0 HKE
 clear HKK HRS HLL
 have P4:Hid (RT u ha hc fa fc r p pt pa pc [] none 0 [] none 0 w W4):=⟨S4.out,intsAt_nil _ _,Nat.le_refl _,celsAt_nil _ _,Nat.le_refl _⟩
 clear S4
 go_upto_block 0 with (fail)
 go_cut [11] (fun v wc=>∃ (ka:Option Addr) (kc:Nat),v = .slice ka RS.length kc∧Hid (RT u ha hc fa fc r p pt pa pc RS ka kc [] none 0 w wc))
 case first =>
  clear HCF HCT HPU HWS HSK HXK HR3 HR4 HW0 HFI
  go_wp2
  go_loopw [11,12] (fun v i wr=>∃ (k:Nat) (ka:Option Addr) (kc:Nat),k≤l.length∧v = .slice ka (K k).length kc∧i = .int .i64 k∧Hid (RT u ha hc fa fc r p pt pa pc (K k) ka kc [] none 0 w wr)∧Hid (IntsAt wr la l)) (fun _ i _=>l.length - (intOf i).toNat)
  case atStart=>exact ⟨0,none,0,Nat.zero_le _,by rw [HK0.out];rfl,rfl,by rw [HK0.out];exact P4.out,I4.out⟩
  case round =>
   clear P4 I4 HK0
   obtain ⟨k,ka,kc,hk,rfl,rfl,B,A⟩:=hrel
   by_cases hlt:k < l.length
   case neg =>
    obtain rfl:k=l.length:=by omega
    rw [HKE.out] at B
    rw [HKE.out]
    clear HKT HKF
    go_wp2
    go_meet
    exact ⟨ka,kc,rfl,B.out⟩
   obtain ⟨b3,o3,he3,c3⟩:=A.out k hlt
   subst he3
   have HT1:=Lib.hid (HKT.out k hlt)
   have HF1:=Lib.hid (HKF.out k hlt)
   have hql:=HKL.out k
   generalize l[k]=x at *
   by_cases g1:x < 0
   ·have t1:decide (0≤x)=false:=decide_eq_false (by omega)
    have HN:=Lib.hid (HF1.out (inN_f1 g1))
    clear g1 HT1 HF1
    go_wp2
    go_roundw
    case rel=>exact ⟨k + 1,ka,kc,by omega,by rw [HN.out],by go_num,by rw [HN.out];exact B.out,A.out⟩
    case measure=>simp [intOf];omega
   have t1:decide (0≤x)=true:=decide_eq_true (by omega)
   by_cases g2:(n:Int)≤x
   ·have t2:decide (x < (n:Int))=false:=decide_eq_false (by omega)
    have HN:=Lib.hid (HF1.out (inN_f2 g2))
    clear g1 g2 HT1 HF1
    go_wp2
    go_roundw
    case rel=>exact ⟨k + 1,ka,kc,by omega,by rw [HN.out],by go_num,by rw [HN.out];exact B.out,A.out⟩
    case measure=>simp [intOf];omega
   have t2:decide (x < (n:Int))=true:=decide_eq_true (by omega)
   have HN:=Lib.hid (HT1.out (inN_t (by omega) (by omega)))
   have HI1:=Lib.hid (HIS.out (K k) x ka kc _ B.out.it B.out.kc (by omega))
   rw [← HN.out] at HI1
   clear g1 g2 HT1 HF1 HN
   go_wp2_with (go_at_call 34;refine HI1.out.mono ?_;rintro e w4 ⟨hb4,qa,qc,rfl,hq,hat⟩)
   have B4:Hid (RT u ha hc fa fc r p pt pa pc (K (k + 1)) qa qc [] none 0 w w4):=⟨B.out.cb.below hb4,hat,hq,celsAt_nil _ _,Nat.le_refl _⟩
   have A4:=Lib.hid (A.out.below hb4)
   clear hb4 hq hat B A HI1 c3
   go_roundw
   case rel=>exact ⟨k + 1,qa,qc,by omega,rfl,by go_num,B4.out,A4.out⟩
   case measure=>simp [intOf];omega
 case rest =>
 obtain ⟨ka,kc,rfl,R5⟩:=hcut
 clear P4 I4 HKT HKF HKL HK0 HKE hll W4
 generalize wc=W5 at *
 go_upto_block 2 with (fail)
 go_cut [11,13] (fun v11 v13 wc=>∃ (ka:Option Addr) (kc:Nat) (xa:Option Addr) (xc:Nat),v11 = .slice ka (X pt.fs.length).2.length kc∧v13 = .slice xa (X pt.fs.length).1.length xc∧Hid (RT u ha hc fa fc r p pt pa pc (X pt.fs.length).2 ka kc (X pt.fs.length).1 xa xc w wc))
 case first =>
  clear HPU HIS HR3 HR4 HFI HOL HSL
  go_wp2
  go_loopw [11,13,14] (fun v11 v13 i wr=>∃ (k:Nat) (ka:Option Addr) (kc:Nat) (xa:Option Addr) (xc:Nat),k≤pt.fs.length∧v11 = .slice ka (X k).2.length kc∧v13 = .slice xa (X k).1.length xc∧i = .int .i64 k∧Hid (RT u ha hc fa fc r p pt pa pc (X k).2 ka kc (X k).1 xa xc w wr)) (fun _ _ i _=>pt.fs.length - (intOf i).toNat)
  case atStart=>exact ⟨0,ka,kc,none,0,Nat.zero_le _,by rw [HW0.out],by rw [HW0.out];rfl,rfl,by rw [HW0.out];exact R5.out⟩
  case round =>
   clear R5 HW0
   obtain ⟨k,ka,kc,xa,xc,hk,rfl,rfl,rfl,B⟩:=hrel
   obtain ⟨y0,y1,y2,y3⟩:=B.out.cb.pth (Below.refl _ _)
   by_cases hlt:k < pt.fs.length
   case neg =>
    obtain rfl:k=pt.fs.length:=by omega
    clear HWS HSK HXK HCF HCT
    go_wp2
    go_meet
    exact ⟨ka,kc,xa,xc,rfl,rfl,B.out⟩
   obtain ⟨b,off,he,c0⟩:=B.out.cb.sp k hlt
   obtain ⟨hs1,hs2,-⟩:=HSK.out k hk
   have HF1:=Lib.hid (fun w1 h1 h2 h3=>HCF.out (X k).2 ka kc pt.fs[k] w1 h1 h2 h3 hs1 hs2)
   have HWk:=Lib.hid (HWS.out k hlt)
   have hxk:=HXK.out (k + 1) (by omega)
   generalize pt.fs[k]=fl at *
   subst he
   have HN1:Hid (cfL u fl (X k).2=(X (k + 1)).1):=by show _=_;rw [HWk.out]
   have HN2:Hid (conL u r (X (k + 1)).1=(X (k + 1)).2):=by show _=_;rw [← HN1.out,HWk.out]
   rw [HN1.out] at HF1
   clear HWk HN1 HWS HSK HXK hs1 hs2
   go_upto_region 17 with (fail)
   have k1:∀ o:WB wr,o.u.cell? ⟨w.heap.size,0,none⟩=some (.slice ha u.h.length hc):=fun o=>(B.out.cb.ub.now o.h).1.1
   have k2:∀ o:WB wr,o.u.cell? ⟨w.heap.size,1,none⟩=some (.slice fa u.fs.length fc):=fun o=>(B.out.cb.ub.now o.h).1.2.1
   have k3:∀ o:WB wr,o.u.cell? ⟨w.heap.size,2,none⟩=some (.int .i64 u.main):=fun o=>(B.out.cb.ub.now o.h).1.2.2
   have k4:∀ o:WB wr,o.u.cell? ⟨w.heap.size + 2,2,none⟩=some (.slice (some ⟨b,off,none⟩) pt.fs.length pc):=fun o=>(B.out.cb.pth o.h).2.2.1
   have k5:∀ o:WB wr,o.u.cell? ⟨b,off + k,none⟩=some (.string fl):=fun o=>cell_below o.h c0
   have hne:Nonempty (WB wr):=⟨⟨wr,Below.refl _ _⟩⟩
   have h0:Below wr.heap.size wr wr.drew:=(Below.refl _ _).drew
   clear c0 y0 y1 y2 y3
   refine wp_region_Y (fun w'=>∃ o:WB wr,w' = o.u) (by kernel_rfl) ?_
   change wpAnyY _ _ _ _ _ _ _ _ wr.drew
   refine wpAnyY_take 0 rfl (by kernel_rfl) (fun _ _ _ _ h=>h) ⟨⟨_,h0⟩,rfl⟩ (fun K hK=>?_);go_simp;refine hK _ ?_;clear hK K
   refine wpAnyY_take 1 rfl (by kernel_rfl) (fun _ _ _ _ h=>h) ⟨⟨_,h0⟩,rfl⟩ (fun K hK=>?_);go_simp;refine hK _ ?_;clear hK K
   refine wpAnyY_take 2 rfl (by kernel_rfl) (fun _ _ _ _ h=>h) ⟨⟨_,h0⟩,rfl⟩ (fun K hK=>?_);go_simp;refine hK _ ?_;clear hK K
   refine wpAnyY_take 3 rfl (by kernel_rfl) (fun _ _ _ _ h=>h) ⟨⟨_,h0⟩,rfl⟩ (fun K hK=>?_);go_simp;refine hK _ ?_;clear hK K
   refine wpAnyY_take 4 rfl (by kernel_rfl) (fun _ _ _ _ h=>h) ⟨⟨_,h0⟩,rfl⟩ (fun K hK=>?_);go_simp;refine hK _ ?_;clear hK K
   refine wpAnyY_take 5 rfl (by kernel_rfl) (fun _ _ _ _ h=>h) ⟨⟨_,h0⟩,rfl⟩ (fun K hK=>?_);go_simp;refine hK _ ?_;clear hK K
   refine wpAnyY_take 6 rfl (by kernel_rfl) (fun _ _ _ _ h=>h) ⟨⟨_,h0⟩,rfl⟩ (fun K hK=>?_);go_simp;refine hK _ ?_;clear hK K
   refine wpAnyY_one 7 rfl (by kernel_rfl) ?_
   go_wp2_with fail
   refine (HF1.out _ (B.out.below h0).cb.ub.ub.h (B.out.below h0).cb.ub.ub.f (B.out.below h0).it).mono ?_
   rintro e w2 ⟨hb2,ya,yc,rfl,hyc,hat2⟩
   have h2:Below wr.heap.size wr w2:=h0.trans (hb2.mono h0.size)
   have AY:=Lib.hid hat2
   clear hb2 hat2
   go_wp2
   refine ⟨⟨⟨_,h2⟩,rfl⟩,?_⟩
   refine wpAnyY_one 8 rfl (by kernel_rfl) ?_
   go_wp2
   refine ⟨⟨⟨_,h2⟩,rfl⟩,?_⟩
   refine wpAnyY_done (by kernel_rfl) ?_ _
   have B2:=Lib.hid (B.out.below h2)
   clear B k1 k2 k3 k4 k5 h0 h2 HF1
   have HC2:=Lib.hid (HCT.out (X (k + 1)).1 ya yc _ B2.out.cb.ub.ub.h B2.out.cb.ub.ub.f B2.out.cb.ub.rb.m AY.out (by omega))
   rw [HN2.out] at HC2
   obtain ⟨⟨z0,z1,z2⟩,z3,z4,z5,z6⟩:=B2.out.cb.ub.now (Below.refl _ _)
   clear HN2
   go_wp2_with (go_at_call 36;refine HC2.out.mono ?_;rintro e w3 ⟨hb3,za,zc,rfl,hzc,hat3⟩)
   have B3:Hid (RT u ha hc fa fc r p pt _ pc (X (k + 1)).2 za zc (X (k + 1)).1 ya yc w w3):=⟨B2.out.cb.below hb3,hat3,hzc,AY.out.below hb3,hyc⟩
   clear B2 AY hb3 hat3 HC2 z0 z1 z2 z3 z4 z5 z6
   go_roundw
   case rel=>exact ⟨k + 1,za,zc,ya,yc,by omega,rfl,rfl,by go_num,B3.out⟩
   case measure=>simp [intOf];omega
 case rest =>
 obtain ⟨ka,kc,xa,xc,rfl,rfl,R6⟩:=hcut
 obtain ⟨hs1,hs2,hs3⟩:=HSK.out pt.fs.length (Nat.le_refl _)
 have hx0:=HXK.out pt.fs.length (Nat.le_refl _)
 have G0:Hid (Gd u (X pt.fs.length).1 (X pt.fs.length).2 (X pt.fs.length).1):=⟨hs1,by rw [← HNL.out];exact hs2,hs3,fun c hc=>.inl hc⟩
 have HO0:=Lib.hid (fun O=>HOL.out (X pt.fs.length).1 O hx0)
 clear R5 HW0 HWS HSK HXK hs1 hs2 hs3 HOL W5
 generalize wc=W6 at *
 generalize (X pt.fs.length).1=O0 at *
 generalize (X pt.fs.length).2=S0 at *
 clear X
 obtain ⟨y0,y1,y2,y3⟩:=R6.out.cb.pth (Below.refl _ _)
 cases hst:pt.star
 case false =>
  have HE:=Lib.hid (HR3.out hst)
  rw [hst] at y3
  clear HR3 HR4 HCF HCT HIS HPU HFI HO0
  go_wp2
  go_ret
  exact ⟨R6.out.cb.ub.ub.hb,xa,xc,by rw [← HE.out];rfl,by rw [← HE.out];exact R6.out.ct⟩
 have HE:=Lib.hid (HR4.out hst)
 rw [hst] at y3
 clear HR3 HR4
 obtain ⟨⟨z0,z1,z2⟩,z3,z4,z5,z6⟩:=R6.out.cb.ub.now (Below.refl _ _)
 have HF6:=Lib.hid (HFI.out _ R6.out.cb.ub.ub.h R6.out.cb.ub.ub.f)
 go_upto_region 22 with (go_at_call 37;refine HF6.out.mono ?_;rintro e w7 ⟨hb7,na,nc,rfl,hat7⟩)
 have R7:=Lib.hid (R6.out.below hb7)
 have N7:=Lib.hid hat7
 clear R6 HF6 HFI hb7 hat7 y0 y1 y2 y3 z0 z1 z2 z3 z4 z5 z6
 generalize w7=W7 at *
 have HRS:Hid (∀ k,rnds u r N (k + 1) (S0,O0)=rnd u r N (rnds u r N k (S0,O0))):=fun k=>rfl
 have HR0:Hid (rnds u r N 0 (S0,O0)=(S0,O0)):=rfl
 go_wp2
 go_loopw [11,13,16] (fun v11 v13 i wr=>∃ (k:Nat) (S:List Int) (O:List Cel) (ka:Option Addr) (kc:Nat) (xa:Option Addr) (xc:Nat),k≤n + 1∧v11 = .slice ka S.length kc∧v13 = .slice xa O.length xc∧i = .int .i64 k∧Hid (RT u ha hc fa fc r p pt pa pc S ka kc O xa xc w wr)∧Hid (rnds u r N k (S0,O0)=(S,O))∧Hid (Gd u O0 S O)∧Hid (StrsAt wr na N)) (fun _ _ i _=>n + 1 - (intOf i).toNat)
 case atStart=>exact ⟨0,S0,O0,ka,kc,xa,xc,Nat.zero_le _,rfl,rfl,rfl,R7.out,rfl,G0.out,N7.out⟩
 case round =>
  clear R7 N7 G0 HR0
  obtain ⟨k,S,O,ka,kc,xa,xc,hk,rfl,rfl,rfl,B,HK,G,NA⟩:=hrel
  by_cases hlt:k≤n
  case neg =>
   have hkn:k=n + 1:=by omega
   have t1:decide ((k:Int)≤(n:Int))=false:=decide_eq_false (by omega)
   have HO:Hid (O=R):=by show _=_;rw [← HE.out,← hkn,HK.out]
   clear HRS HCF HCT HIS HPU HO0 HSL hlt
   go_wp2
   go_ret
   exact ⟨B.out.cb.ub.ub.hb,xa,xc,by rw [← HO.out];rfl,by rw [← HO.out];exact B.out.ct⟩
  have t1:decide ((k:Int)≤(n:Int))=true:=decide_eq_true (by omega)
  have HRk:=Lib.hid (HRS.out k)
  rw [HK.out] at HRk
  have HQ0:Hid (rnd u r (N.take 0) (S,O)=(S,O)):=rfl
  have HQS:Hid (∀ q (hq:q < N.length),rnd u r (N.take (q + 1)) (S,O)=stN u r (rnd u r (N.take q) (S,O)) N[q]):=fun q hq=>rnd_take hq
  have HQE:Hid (rnd u r (N.take N.length) (S,O)=rnd u r N (S,O)):=by show _=_;rw [List.take_length]
  rw [← HRk.out] at HQE
  clear HK HRk
  go_wp2
  go_loopw [11,13,17] (fun v11 v13 i wr=>∃ (q:Nat) (S':List Int) (O':List Cel) (ka:Option Addr) (kc:Nat) (xa:Option Addr) (xc:Nat),q≤N.length∧v11 = .slice ka S'.length kc∧v13 = .slice xa O'.length xc∧i = .int .i64 q∧Hid (RT u ha hc fa fc r p pt pa pc S' ka kc O' xa xc w wr)∧Hid (rnd u r (N.take q) (S,O)=(S',O'))∧Hid (Gd u O0 S' O')∧Hid (StrsAt wr na N)) (fun _ _ i _=>N.length - (intOf i).toNat)
  case atStart=>exact ⟨0,S,O,ka,kc,xa,xc,Nat.zero_le _,rfl,rfl,rfl,B.out,rfl,G.out,NA.out⟩
  case round =>
   clear B G NA HQ0
   obtain ⟨q,S1,O1,ka,kc,xa,xc,hq,rfl,rfl,rfl,B,HK,G,NA⟩:=hrel
   by_cases hlq:q < N.length
   case neg =>
    obtain rfl:q=N.length:=by omega
    rw [HQE.out] at HK
    clear HQS HCF HCT HIS HPU
    go_wp2
    go_roundw
    case rel=>exact ⟨k + 1,S1,O1,ka,kc,xa,xc,by omega,rfl,rfl,by go_num,B.out,HK.out,G.out,NA.out⟩
    case measure=>simp [intOf];omega
   obtain ⟨b,off,he,c0⟩:=NA.out q hlq
   subst he
   have HSq:=Lib.hid (HQS.out q hlq)
   rw [HK.out] at HSq
   generalize N[q]=fl at *
   have HST:Hid (stN u r (S1,O1) fl=(iPuts S1 (conL u r (cfL u fl S1)),celPuts O1 (cfL u fl S1))):=rfl
   have GN:=Lib.hid (G.out.step (r:=r) fl)
   rw [HST.out] at GN HSq
   have hsl1:=HSL.out S1 G.out.a (by rw [HNL.out];exact G.out.i)
   have hsl2:=HSL.out _ GN.out.a (by rw [HNL.out];exact GN.out.i)
   have hol2:=HO0.out _ GN.out.c GN.out.m
   have HF1:=Lib.hid (fun w1 h1 h2 h3=>HCF.out S1 ka kc fl w1 h1 h2 h3 G.out.a (by rw [HNL.out];exact G.out.i))
   have HCL:Hid ((cfL u fl S1).length≤150):=Nat.le_trans (celL_len _ _ _ _) hsl1
   have HCC:=Lib.hid (fun a c w1 h1 h2 h3 h4=>HCT.out (cfL u fl S1) a c w1 h1 h2 h3 h4 (by have:=HCL.out;omega))
   have HAC:Hid (∀ m,(celPuts O1 ((cfL u fl S1).take m)).length≤36150):=fun m=>HO0.out _ (celPuts_asc _ _ G.out.c) (fun c hc=>by
    rcases (celPuts_mem c _ _).1 hc with h1 | h1
    ·exact G.out.m c h1
    ·obtain ⟨_,h5,h6⟩:=cfL_mem.1 (List.mem_of_mem_take h1)
     exact .inr (by rw [h5];exact h6))
   have HAS:Hid (∀ m,(iPuts S1 ((conL u r (cfL u fl S1)).take m)).length≤150):=fun m=>HSL.out _ (iPuts_asc _ _ G.out.a) (fun x hx=>by
    rcases (iPuts_mem _ _ x).1 hx with h1 | h1
    ·rw [HNL.out];exact G.out.i x h1
    ·rw [HNL.out];exact conL_in x (List.mem_of_mem_take h1))
   have hml:(conL u r (cfL u fl S1)).length≤150:=by have:=conL_len u r (cfL u fl S1);rw [← HNL.out] at this;omega
   clear HK HQS HST G
   generalize conL u r (cfL u fl S1)=M at *
   generalize cfL u fl S1=L at *
   have hcl:=HCL.out
   go_upto_region 28 with (fail)
   have k1:∀ o:WB wr,o.u.cell? ⟨w.heap.size,0,none⟩=some (.slice ha u.h.length hc):=fun o=>(B.out.cb.ub.now o.h).1.1
   have k2:∀ o:WB wr,o.u.cell? ⟨w.heap.size,1,none⟩=some (.slice fa u.fs.length fc):=fun o=>(B.out.cb.ub.now o.h).1.2.1
   have k3:∀ o:WB wr,o.u.cell? ⟨w.heap.size,2,none⟩=some (.int .i64 u.main):=fun o=>(B.out.cb.ub.now o.h).1.2.2
   have k5:∀ o:WB wr,o.u.cell? ⟨b,off + q,none⟩=some (.string fl):=fun o=>cell_below o.h c0
   have hne:Nonempty (WB wr):=⟨⟨wr,Below.refl _ _⟩⟩
   have h0:Below wr.heap.size wr wr.drew:=(Below.refl _ _).drew
   clear c0
   refine wp_region_Y (fun w'=>∃ o:WB wr,w' = o.u) (by kernel_rfl) ?_
   change wpAnyY _ _ _ _ _ _ _ _ wr.drew
   refine wpAnyY_take 0 rfl (by kernel_rfl) (fun _ _ _ _ h=>h) ⟨⟨_,h0⟩,rfl⟩ (fun K hK=>?_);go_simp;refine hK _ ?_;clear hK K
   refine wpAnyY_take 1 rfl (by kernel_rfl) (fun _ _ _ _ h=>h) ⟨⟨_,h0⟩,rfl⟩ (fun K hK=>?_);go_simp;refine hK _ ?_;clear hK K
   refine wpAnyY_take 2 rfl (by kernel_rfl) (fun _ _ _ _ h=>h) ⟨⟨_,h0⟩,rfl⟩ (fun K hK=>?_);go_simp;refine hK _ ?_;clear hK K
   refine wpAnyY_take 3 rfl (by kernel_rfl) (fun _ _ _ _ h=>h) ⟨⟨_,h0⟩,rfl⟩ (fun K hK=>?_);go_simp;refine hK _ ?_;clear hK K
   refine wpAnyY_take 4 rfl (by kernel_rfl) (fun _ _ _ _ h=>h) ⟨⟨_,h0⟩,rfl⟩ (fun K hK=>?_);go_simp;refine hK _ ?_;clear hK K
   refine wpAnyY_take 5 rfl (by kernel_rfl) (fun _ _ _ _ h=>h) ⟨⟨_,h0⟩,rfl⟩ (fun K hK=>?_);go_simp;refine hK _ ?_;clear hK K
   refine wpAnyY_one 6 rfl (by kernel_rfl) ?_
   go_wp2_with fail
   refine (HF1.out _ (B.out.below h0).cb.ub.ub.h (B.out.below h0).cb.ub.ub.f (B.out.below h0).it).mono ?_
   rintro e w2 ⟨hb2,ya,yc,rfl,hyc,hat2⟩
   have h2:Below wr.heap.size wr w2:=h0.trans (hb2.mono h0.size)
   have AY:=Lib.hid hat2
   clear hb2 hat2
   go_wp2
   refine ⟨⟨⟨_,h2⟩,rfl⟩,?_⟩
   refine wpAnyY_one 7 rfl (by kernel_rfl) ?_
   go_wp2
   refine ⟨⟨⟨_,h2⟩,rfl⟩,?_⟩
   refine wpAnyY_done (by kernel_rfl) ?_ _
   have B2:=Lib.hid (B.out.below h2)
   have NB:=Lib.hid (NA.out.below h2)
   clear B NA k1 k2 k3 k5 h0 h2 HF1
   have HA0:Hid (celPuts O1 (L.take 0)=O1):=rfl
   have HAE:Hid (celPuts O1 (L.take L.length)=celPuts O1 L):=by show _=_;rw [List.take_length]
   have HAN:Hid (∀ m (hm:m < L.length),celPuts O1 (L.take (m + 1))=celPut (celPuts O1 (L.take m)) L[m]):=fun m hm=>celPuts_take hm
   obtain ⟨PO,hPO⟩:∃ PO:Nat→List Cel,PO=fun m=>celPuts O1 (L.take m):=⟨_,rfl⟩
   have HPO:Hid (∀ m,celPuts O1 (L.take m)=PO m):=fun m=>by rw [hPO]
   clear hPO
   simp only [HPO.out] at HA0 HAE HAN HAC
   clear HPO
   go_upto_block 8 with (fail)
   go_cut [13] (fun v wc=>∃ (xa:Option Addr) (xc:Nat),v = .slice xa (celPuts O1 L).length xc∧Hid (RT u ha hc fa fc r p pt pa pc S1 ka kc (celPuts O1 L) xa xc w wc)∧Hid (StrsAt wc (some ⟨b,off,none⟩) N)∧Hid (CelsAt wc ya L))
   case first =>
    clear HCF HCT HIS HCC HSq HAS GN HRS HE HQE HSL HO0
    go_wp2
    go_loopw [13,19] (fun v i wx=>∃ (m:Nat) (xa:Option Addr) (xc:Nat),m≤L.length∧v = .slice xa (PO m).length xc∧i = .int .i64 m∧Hid (RT u ha hc fa fc r p pt pa pc S1 ka kc (PO m) xa xc w wx)∧Hid (StrsAt wx (some ⟨b,off,none⟩) N)∧Hid (CelsAt wx ya L)) (fun _ i _=>L.length - (intOf i).toNat)
    case atStart=>exact ⟨0,xa,xc,Nat.zero_le _,by rw [HA0.out],rfl,by rw [HA0.out];exact B2.out,NB.out,AY.out⟩
    case round =>
     clear B2 NB AY HA0
     obtain ⟨m,xa,xc,hm,rfl,rfl,B,NA,CA⟩:=hrel
     by_cases hlm:m < L.length
     case neg =>
      obtain rfl:m=L.length:=by omega
      rw [HAE.out] at B
      rw [HAE.out]
      clear HAN
      go_wp2
      go_meet
      exact ⟨xa,xc,rfl,B.out,NA.out,CA.out⟩
     obtain ⟨b5,o5,he5,d0,d1⟩:=CA.out m hlm
     subst he5
     have HNm:=Lib.hid (HAN.out m hlm)
     have hac:=HAC.out m
     have HP1:=Lib.hid (HPU.out (PO m) L[m].s L[m].f xa xc _ B.out.ct B.out.xc (by omega))
     have HEC:Hid ((⟨L[m].s,L[m].f⟩:Cel)=L[m]):=rfl
     rw [HEC.out,← HNm.out] at HP1
     generalize L[m].s=s at *
     generalize L[m].f=g at *
     clear HNm HEC HAN
     go_wp2_with (go_at_call 38;refine HP1.out.mono ?_;rintro e w4 ⟨hb4,qa,qc,rfl,hq4,hat4⟩)
     have B4:Hid (RT u ha hc fa fc r p pt pa pc S1 ka kc (PO (m + 1)) qa qc w w4):=⟨B.out.cb.below hb4,B.out.it.below hb4,B.out.kc,hat4,hq4⟩
     have NA4:=Lib.hid (NA.out.below hb4)
     have CA4:=Lib.hid (CA.out.below hb4)
     clear B NA CA HP1 hb4 hq4 hat4 d0 d1
     go_roundw
     case rel=>exact ⟨m + 1,qa,qc,by omega,rfl,by go_num,B4.out,NA4.out,CA4.out⟩
     case measure=>simp [intOf];omega
   case rest =>
   obtain ⟨xa,xc,rfl,B,NA,CA⟩:=hcut
   clear B2 NB AY HA0 HAE HAN HAC
   have HCm:=Lib.hid (HCC.out ya yc _ B.out.cb.ub.ub.h B.out.cb.ub.ub.f B.out.cb.ub.rb.m CA.out)
   obtain ⟨⟨z0,z1,z2⟩,z3,z4,z5,z6⟩:=B.out.cb.ub.now (Below.refl _ _)
   clear HCC
   go_upto_region 34 with (go_at_call 36;refine HCm.out.mono ?_;rintro e w8 ⟨hb8,ma,mc,rfl,hmc,hat8⟩)
   have B8:=Lib.hid (B.out.below hb8)
   have NA8:=Lib.hid (NA.out.below hb8)
   have M8:=Lib.hid hat8
   clear B NA CA HCm hb8 hat8 z0 z1 z2 z3 z4 z5 z6
   generalize celPuts O1 L=O2 at *
   have HA0:Hid (iPuts S1 (M.take 0)=S1):=rfl
   have HAE:Hid (iPuts S1 (M.take M.length)=iPuts S1 M):=by show _=_;rw [List.take_length]
   have HAN:Hid (∀ m (hm:m < M.length),iPuts S1 (M.take (m + 1))=iPut (iPuts S1 (M.take m)) M[m]):=fun m hm=>iPuts_take hm
   obtain ⟨PS,hPS⟩:∃ PS:Nat→List Int,PS=fun m=>iPuts S1 (M.take m):=⟨_,rfl⟩
   have HPS:Hid (∀ m,iPuts S1 (M.take m)=PS m):=fun m=>by rw [hPS]
   clear hPS
   simp only [HPS.out] at HA0 HAE HAN HAS
   clear HPS
   go_wp2
   go_loopw [11,21] (fun v i wx=>∃ (m:Nat) (ka:Option Addr) (kc:Nat),m≤M.length∧v = .slice ka (PS m).length kc∧i = .int .i64 m∧Hid (RT u ha hc fa fc r p pt pa pc (PS m) ka kc O2 xa xc w wx)∧Hid (StrsAt wx (some ⟨b,off,none⟩) N)∧Hid (IntsAt wx ma M)) (fun _ i _=>M.length - (intOf i).toNat)
   case atStart=>exact ⟨0,ka,kc,Nat.zero_le _,by rw [HA0.out],rfl,by rw [HA0.out];exact B8.out,NA8.out,M8.out⟩
   case round =>
    clear B8 NA8 M8 HA0
    obtain ⟨m,ka,kc,hm,rfl,rfl,B,NA,MA⟩:=hrel
    by_cases hlm:m < M.length
    case neg =>
     obtain rfl:m=M.length:=by omega
     rw [HAE.out] at B
     rw [HAE.out]
     clear HAN
     go_wp2
     go_roundw
     case rel=>exact ⟨q + 1,iPuts S1 M,O2,ka,kc,xa,xc,by omega,rfl,rfl,by go_num,B.out,HSq.out,GN.out,NA.out⟩
     case measure=>simp [intOf];omega
    obtain ⟨b5,o5,he5,d0⟩:=MA.out m hlm
    subst he5
    have HNm:=Lib.hid (HAN.out m hlm)
    have has:=HAS.out m
    have HP1:=Lib.hid (HIS.out (PS m) M[m] ka kc _ B.out.it B.out.kc (by omega))
    rw [← HNm.out] at HP1
    generalize M[m]=x at *
    clear HNm HAN
    go_wp2_with (go_at_call 34;refine HP1.out.mono ?_;rintro e w9 ⟨hb9,qa,qc,rfl,hq9,hat9⟩)
    have B9:Hid (RT u ha hc fa fc r p pt pa pc (PS (m + 1)) qa qc O2 xa xc w w9):=⟨B.out.cb.below hb9,hat9,hq9,B.out.ct.below hb9,B.out.xc⟩
    have NA9:=Lib.hid (NA.out.below hb9)
    have MA9:=Lib.hid (MA.out.below hb9)
    clear B NA MA HP1 hb9 hq9 hat9 d0
    go_roundw
    case rel=>exact ⟨m + 1,qa,qc,by omega,rfl,by go_num,B9.out,NA9.out,MA9.out⟩
    case measure=>simp [intOf];omega
end Go.Proofs.YtffcklfigpmlgaaGreatDoor
