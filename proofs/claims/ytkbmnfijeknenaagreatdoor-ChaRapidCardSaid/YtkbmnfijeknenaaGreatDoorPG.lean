/-
  The reference's rapid type analysis.
  The law ChaRapid returns true. (Printed by pre.py.)
-/
import Derived.Test.YtkbmnfijeknenaaGreatDoorPF
import Derived.Test.YtkbmnfijeknenaaGreatDoorPD
import Derived.Test.YtkbmnfijeknenaaGreatDoorPa
import Derived.Test.YtkbmnfijeknenaaGreatDoorHX
import Derived.Test.YtkbmnfijeknenaaGreatDoorLiv20
namespace Go.Proofs.YtkbmnfijeknenaaGreatDoor
open Go.RowKit Go.Unit0 Go.AM

structure RR (u:Unt) (ha:Option Addr) (hc:Nat) (fa:Option Addr) (fc:Nat) (g:Nat) (bs:List Bool) (w wr:World):Prop where
 ub:UB u ha hc fa fc w wr
 bk:Blk wr g (blsC bs) 4
 gg:w.heap.size < g
 rb:RapB u bs
theorem RR.below {u:Unt} {ha:Option Addr} {hc:Nat} {fa:Option Addr} {fc:Nat} {g:Nat} {bs:List Bool} {w wr w':World} (k:RR u ha hc fa fc g bs w wr) (hb:Below wr.heap.size wr w'):RR u ha hc fa fc g bs w w' :=
 ⟨k.ub.below hb,k.bk.below hb,k.gg,k.rb⟩
theorem ownsC_keep {w w':World} {base:Nat} {a:Option Addr} {c:Nat} {l:List Cal} (h:w.ownsRow base 51 3 (.slice a l.length c) l.length (flatC l)) {g:Nat} {cs:Array Value} {t:TypeId} (hb:Blk w g cs t) (ht:t ≠ 51) (hg:w.grownBy w' (some g)):w'.ownsRow base 51 3 (.slice a l.length c) l.length (flatC l) :=
 h.kept hg (.inr (fun e=>owns_ne h hb ht e.symm))
set_option maxRecDepth 100000 in
set_option maxHeartbeats 16000000 in
theorem rapidRR (u:Unt) (ha:Option Addr) (hc:Nat) (fa:Option Addr) (fc:Nat) (w:World) (h:ClssAt w ha u.h) (hf:FncsAt w fa u.fs) (hb:FitOk u 150) :
 Calls Tryz.prog 24 #[unV u ha hc fa fc] w (RapPost u w):=by
 have S0:=Lib.hid (UB.start (hc:=hc) (fc:=fc) h hf)
 have HM:Hid (ClssAt w ha u.h∧FncsAt w fa u.fs):=⟨h,hf⟩
 have HZ:Hid ((w.alloc (unC u ha hc fa fc)).heap.size=w.heap.size + 1):=by show _=_;simp
 have hn:u.fs.length≤1000:=by have:=hb.nf;omega
 have HRA:Hid (∀ (bs:List Bool) (a:Option Addr) (c:Nat) (w1:World),ClssAt w1 ha u.h→FncsAt w1 fa u.fs→BlsAt w1 a bs→bs.length=u.fs.length→Calls Tryz.prog 65 #[unV u ha hc fa fc,.slice a bs.length c] w1 (CallsPost (rapU u (crtU u.fs bs u.fs.length) bs u.fs.length) w1)):=fun bs a c w1 h1 h2 h3 h4=>rapidR u ha hc fa fc bs a c w1 h1 h2 h3 h4 hb
 have HCL:=Lib.hid (@closureR2 u ha hc fa fc)
 have HRL:Hid (∀ bs:List Bool,(rapU u (crtU u.fs bs u.fs.length) bs u.fs.length).length≤1000000):=fun bs=>by
  have e:∀ m,m≤u.fs.length→(rapU u (crtU u.fs bs u.fs.length) bs m).length≤m * 3000:=by
   intro m
   induction m with
   | zero=>intro _;simp [rapU]
   | succ m ih =>
     intro hm
     have h1:=ih (by omega)
     have hml:m < u.fs.length:=by omega
     have hcl:=(hb.f _ (List.getElem_mem hml)).c
     have hnn:=hb.nf
     have h2:=rapN_len u (crtU u.fs bs u.fs.length) m u.fs[m].code.length
     have h3:u.fs[m].code.length * u.fs.length≤150 * 20:=Nat.mul_le_mul hcl hnn
     unfold rapU at *
     rw [List.range_succ,List.flatMap_append,List.length_append,List.flatMap_singleton]
     have h4:(if bs[m]? = some true then rapN u (crtU u.fs bs u.fs.length) m (u.fs[m]?.elim 0 (fun x=>x.code.length)) else []).length≤3000:=by
      split
      ·rw [List.getElem?_eq_getElem hml]
       exact Nat.le_trans h2 h3
      ·simp
     omega
  have h1:=e _ (Nat.le_refl _)
  have:=hb.nf
  omega
 clear h hf hb
 unfold unV at *
 go_enter Tryz.func24,Tryz.ntmps24
 go_upto_region 1 with (fail)
 generalize w.alloc _=W at *
 obtain ⟨z0,z1,z2⟩:=S0.out.cells
 obtain ⟨i0,hi,hz0,hz1,hz2⟩:=info_parts infoB
 go_upto_region 2 with (refine wpList_make_full W rfl _ _ 58 rfl 0 4 i0 (.bool false) 1 Tryz.underlying58 hi hz0 hz1 .i64 .i64 u.fs.length u.fs.length u.fs.length rfl rfl rfl rfl (by rw [hz2];omega) (by unfold maxLen;omega) (Nat.zero_le _) ?_;intro W0 own0 hg0)
 have HB0:Hid (Below W.heap.size W W0):=(Below.refl _ _).grown hg0 (Nat.le_refl _) (fun q hq=>by cases hq)
 have S1:=Lib.hid (S0.out.below HB0.out)
 have BK0:Hid (Blk W0 W.heap.size (blsC (List.replicate u.fs.length false)) 4):=by
  have:=blk_of_full own0
  rw [Nat.mul_one,show (Value.bool false).cells = #[.bool false] from rfl,made_one,bls_made] at this
  exact this
 have hgw:w.heap.size < W.heap.size:=by rw [HZ.out];omega
 clear own0 hg0 S0 HB0 HZ z0 z1 z2 hi hz0 hz1 hz2
 generalize W.heap.size=g at *
 generalize hN:u.fs.length=n at *
 have HNN:=Lib.hid hN
 clear hN
 go_cut [20] (fun v wx=>∃ b:Bool,v = .bool b∧Hid (b=true ↔ 0≤u.main∧u.main < n)∧Hid (W0=wx))
 case first =>
  obtain ⟨z0,z1,z2⟩:=S1.out.cells
  rw [HNN.out] at z1
  by_cases g1:0≤u.main
  case neg =>
   have t1:=decide_eq_false g1
   have HF:Hid (false=true ↔ 0≤u.main∧u.main < (n:Int)):=⟨fun e=>(by cases e),fun e=>absurd e.1 g1⟩
   clear g1
   go_wp2
   go_meet
   exact ⟨false,rfl,HF.out,rfl⟩
  have t1:=decide_eq_true g1
  by_cases g2:u.main < (n:Int)
  case neg =>
   have t2:=decide_eq_false g2
   have HF:Hid (false=true ↔ 0≤u.main∧u.main < (n:Int)):=⟨fun e=>(by cases e),fun e=>absurd e.2 g2⟩
   clear g1 g2
   go_wp2
   go_meet
   exact ⟨false,rfl,HF.out,rfl⟩
  have t2:=decide_eq_true g2
  have HF:Hid (0≤u.main∧u.main < (n:Int)):=⟨g1,g2⟩
  clear g1 g2
  go_wp2
  go_meet
  exact ⟨true,rfl,⟨fun _=>HF.out,fun _=>rfl⟩,rfl⟩
 case rest =>
 obtain ⟨b,rfl,HBI,HW⟩:=hcut
 obtain rfl:=HW.out
 clear HW
 go_upto_if 20 with (fail)
 go_cut [] (fun wx=>∃ bs,Hid (RR u ha hc fa fc g bs w wx))
 case first =>
  cases b
  case false =>
   have R1:Hid (RR u ha hc fa fc g (List.replicate n false) w W0):=⟨S1.out,BK0.out,hgw,RapB.start (by rw [List.length_replicate,HNN.out]) (fun x=>⟨fun k=>absurd k (at_none x),fun k=>by
    have:=HBI.out.2 ⟨k.2.1,by rw [← HNN.out];exact k.2.2⟩
    cases this⟩)⟩
   clear S1 BK0
   go_wp2
   go_meet
   exact ⟨_,R1.out⟩
  have hmm:=HBI.out.1 rfl
  obtain ⟨mN,hmN⟩:∃ k:Nat,u.main=k:=⟨u.main.toNat,by omega⟩
  have hmn:mN < (List.replicate n false).length:=by rw [List.length_replicate];omega
  have hmn2:mN < n:=by omega
  have q1:=BK0.out.cell mN (by simpa using hmn)
  have q2:=BK0.out.free mN
  simp only [List.getElem_toArray,List.getElem_map,List.getElem_replicate] at q1
  obtain ⟨z0,z1,z2⟩:=S1.out.cells
  have R1:Hid (RR u ha hc fa fc g ((List.replicate n false).set mN true) w (W0.setCell ⟨g,mN,none⟩ (.bool true))):=by
   refine ⟨S1.out.grow HM.out.1 HM.out.2 (grown_set W0 g mN _) (fun q hq=>by cases hq;omega),?_,hgw,RapB.start (by simp [HNN.out]) (fun x=>?_)⟩
   ·have:=BK0.out.set mN (.bool true)
    rw [bls_set] at this
    exact this
   ·rw [at_set hmn x]
    constructor
    ·rintro (k | k)
     ·exact ⟨by rw [hmN];exact k,hmm.1,by rw [HNN.out];exact hmm.2⟩
     ·exact absurd k (at_none x)
    ·rintro ⟨k,_,_⟩
     left
     rw [k,hmN]
  rw [hmN] at z2
  clear hmm hmN HBI S1 BK0
  go_wp2
  go_meet
  exact ⟨_,R1.out⟩
 case rest =>
 obtain ⟨bs0,R0⟩:=hcut
 clear S1 BK0 HBI
 generalize wc=W1 at *
 clear W0
 go_wp2
 go_loopw [4] (fun v wr=>v = .slice (some ⟨g,0,none⟩) n n∧∃ bs,Hid (RR u ha hc fa fc g bs w wr)) (fun _ wr=>cntW wr g)
 case atStart=>exact ⟨rfl,bs0,R0.out⟩
 case round =>
  clear R0
  obtain ⟨rfl,bs,R⟩:=hrel
  have HLB:Hid (bs.length=n):=by show _=_;rw [R.out.rb.ln,HNN.out]
  have hm1:=cntW_blk R.out.bk
  have hbl:bs.length≤1000:=by rw [HLB.out];exact hn
  go_wp2_with fail
  have HM1:=markedR bs (some ⟨g,0,none⟩) bs.length _ (bls_blk R.out.bk) hbl
  rw [HLB.out] at HM1
  refine HM1.mono ?_
  clear HM1
  rintro e w1 ⟨hb1,a1,c1,rfl,-⟩
  have R1:=Lib.hid (R.out.below hb1)
  clear R hb1
  generalize hml:(marked bs).length=ml at *
  have HML:=Lib.hid hml
  clear hml
  obtain ⟨z0,z1,z2⟩:=R1.out.ub.cells
  rw [HNN.out] at z1
  go_wp2_with fail
  have HR1:=HRA.out bs (some ⟨g,0,none⟩) n _ R1.out.ub.h R1.out.ub.f (bls_blk R1.out.bk) HLB.out
  rw [HLB.out] at HR1
  refine HR1.mono ?_
  clear HR1
  rintro e w2 ⟨hb2,la,lc,rfl,own2⟩
  have R2:=Lib.hid (R1.out.below hb2)
  have HLL:=Lib.hid (HRL.out bs)
  have HLS:=Lib.hid (rapU_lt u (crtU u.fs bs u.fs.length) bs u.fs.length)
  have HLM:Hid (∀ e,e ∈ rapU u (crtU u.fs bs u.fs.length) bs u.fs.length ↔ EdgS u (At bs) e):=fun e=>rapU_mem R1.out.rb.ln (fun c=>crtU_mem R1.out.rb.ln c) e
  rw [HNN.out] at HLS HLM
  have OW2:=Lib.hid own2
  clear R1 hb2 own2 z0 z1 z2
  generalize rapU u (crtU u.fs bs n) bs n=l at *
  generalize w1.heap.size=base at *
  obtain ⟨z0,z1,z2⟩:=R2.out.ub.cells
  rw [HNN.out] at z1
  go_wp2_with fail
  have HC1:=HCL.out bs g l la lc w _ HM.out.1 HM.out.2 (fun wx hx=>(ownsC' (ownsC_keep OW2.out R2.out.bk (by decide) hx)).2) R2.out.ub.hb (Nat.le_of_lt R2.out.gg) R2.out.bk HLB.out hn HLL.out
  rw [HLB.out] at HC1
  refine HC1.mono ?_
  clear HC1
  rintro e w3 ⟨hg3,bs',rfl,bk3,ci3,cl3⟩
  have O3:=Lib.hid (ownsC_keep OW2.out R2.out.bk (by decide) hg3)
  have R3:Hid (RR u ha hc fa fc g bs' w w3):=⟨R2.out.ub.grow HM.out.1 HM.out.2 hg3 (fun q hq=>by cases hq;exact R2.out.gg),bk3,R2.out.gg,R2.out.rb.next HLM.out (by rw [HNN.out];exact ci3)⟩
  have HLB':Hid (bs'.length=n):=by show _=_;rw [R3.out.rb.ln,HNN.out]
  have HDN:Hid ((marked bs').length=ml→RapF u (marked bs')∧RapE u l):=fun e=>R2.out.rb.done HLS.out HLM.out (by rw [HNN.out];exact ci3) (by rw [HNN.out];exact cl3) (e.trans HML.out.symm)
  have HLT:Hid ((marked bs').length ≠ ml→cntF bs' < cntF bs):=fun e=>by
   have h1:=cnt_marked bs
   have h2:=cnt_marked bs'
   have h3:=nodup_sub_len (l:=marked bs) (m:=marked bs') ((marked_lt bs).imp (fun h=>Int.ne_of_lt h)) (fun x hx=>mem_marked.2 (ci3.mono x (mem_marked.1 hx)))
   rw [HLB.out] at h1
   rw [HLB'.out] at h2
   have:=HML.out
   omega
  have hm3:=cntW_blk bk3
  clear hg3 bk3 ci3 cl3 R2 OW2 z0 z1 z2 HLS HLM
  have hbl3:bs'.length≤1000:=by rw [HLB'.out];exact hn
  go_wp2_with fail
  have HM1:=markedR bs' (some ⟨g,0,none⟩) bs'.length _ (bls_blk R3.out.bk) hbl3
  rw [HLB'.out] at HM1
  refine HM1.mono ?_
  clear HM1
  rintro e w4 ⟨hb4,a4,c4,rfl,-⟩
  have R4:=Lib.hid (R3.out.below hb4)
  have O4:=Lib.hid (owns_below O3.out hb4)
  have hm4:=cntW_blk R4.out.bk
  clear R3 O3 hb4 hm3
  generalize hml4:(marked bs').length=ml4 at *
  have HML4:=Lib.hid hml4
  clear hml4
  by_cases he:ml4=ml
  case neg =>
   have t1:((ml4:Int) == (ml:Int))=false:=by
    simp only [beq_eq_false_iff_ne,ne_eq]
    omega
   have hlt:=HLT.out he
   clear he HDN HLT
   go_wp2
   go_roundw
   case rel=>exact ⟨rfl,bs',R4.out⟩
   case measure=>rw [hm4,hm1];exact hlt
  have t1:((ml4:Int) == (ml:Int))=true:=by
   simp only [beq_iff_eq]
   omega
  obtain ⟨hd1,hd2⟩:=HDN.out he
  have HD1:=Lib.hid hd1
  have HD2:=Lib.hid hd2
  clear he HDN HLT hd1 hd2
  go_wp2_with fail
  have HM1:=markedR bs' (some ⟨g,0,none⟩) bs'.length _ (bls_blk R4.out.bk) hbl3
  rw [HLB'.out] at HM1
  refine HM1.mono ?_
  clear HM1
  rintro e w5 ⟨hb5,a5,c5,rfl,own5⟩
  have R5:=Lib.hid (R4.out.below hb5)
  have O5:=Lib.hid (ownsC' (owns_below O4.out hb5)).2
  have I5:=Lib.hid (owns_ints' own5).2
  clear R4 O4 hb5 own5
  go_wp2
  refine bodyPost_ret (v:=.tuple #[.slice a5 (marked bs').length c5,.slice la l.length lc]) (by simp [results,Tryz.results24,go_sem]) rfl ?_
  exact ⟨R5.out.ub.hb,marked bs',l,a5,c5,la,lc,rfl,HD1.out,HD2.out,I5.out,O5.out⟩
end Go.Proofs.YtkbmnfijeknenaaGreatDoor
namespace Go.Proofs.YtkbmnfijeknenaaGreatDoor
open Go.RowKit Go.Unit0 Go.AM

set_option maxRecDepth 100000 in
set_option maxHeartbeats 8000000 in
theorem rapid20 (u:Unt) (ha:Option Addr) (hc:Nat) (fa:Option Addr) (fc:Nat) (w:World) (hA:AW w) (h:ClssAt w ha u.h) (hf:FncsAt w fa u.fs) :
 Calls Tryz.prog 5 #[unV u ha hc fa fc] w (Ret w (.bool true)):=by
 have S0:=Lib.hid (UB.start (hc:=hc) (fc:=fc) h hf)
 have AW0:=Lib.hid hA
 have HSM:Hid (∀ w1,ClssAt w1 ha u.h→FncsAt w1 fa u.fs→Calls Tryz.prog 11 #[unV u ha hc fa fc,.int .i64 150] w1 (BPost (fun b=>b=true→FitOk u 150∧UnitOk u) w1)):=fun w1 h1 h2=>small11 u ha hc fa fc 150 w1 h1 h2 (by omega)
 have HR1:Hid (FitOk u 150→∀ w1,ClssAt w1 ha u.h→FncsAt w1 fa u.fs→Calls Tryz.prog 23 #[unV u ha hc fa fc] w1 (RapPost u w1)):=fun k w1 h1 h2=>rapidP u ha hc fa fc w1 h1 h2 k
 have HR2:Hid (FitOk u 150→∀ w1,ClssAt w1 ha u.h→FncsAt w1 fa u.fs→Calls Tryz.prog 24 #[unV u ha hc fa fc] w1 (RapPost u w1)):=fun k w1 h1 h2=>rapidRR u ha hc fa fc w1 h1 h2 k
 have HPL:Hid (FitOk u 150→∀ (F:List Int) (E:List Cal),RapF u F→RapE u E→F.length≤1000000∧E.length≤1000000):=fun k F E h1 h2=>by
  have e1:=rapF_len h1
  have e2:=keys_len (u:=u) (P:=Rap u) (l:=E.map keyK) (by
   unfold List.Nodup
   rw [List.pairwise_map]
   exact h2.1.imp (fun h e=>by
    have h3:∀ x:Cal,calK (keyK x)=x:=fun x=>rfl
    have h4:=congrArg calK e
    rw [h3,h3] at h4
    rw [h4] at h
    exact ltC_irrefl _ h)) (fun e he=>by
    obtain ⟨x,hx,rfl⟩:=List.mem_map.1 he
    exact (h2.2 x).1 hx)
  rw [List.length_map] at e2
  have:=k.nf
  have:=Nat.mul_le_mul k.t k.nf
  omega
 clear hA h hf
 unfold unV at *
 go_enter Tryz.func5,Tryz.ntmps5
 go_upto_region 1 with (fail)
 generalize w.alloc _=W at *
 obtain ⟨z0,z1,z2⟩:=S0.out.cells
 go_wp2_with fail
 refine (HSM.out _ S0.out.h S0.out.f).mono ?_
 rintro e w1 ⟨hb',d,rfl,hr⟩
 have S:=Lib.hid (S0.out.below hb')
 have HR:=Lib.hid hr
 clear S0 hb' z0 z1 z2 hr HSM
 generalize w1=W at *
 cases d
 case false =>
  go_wp2_with fail
  refine (awake20 _ (AW0.out.below S.out.hb)).mono ?_
  rintro e w2 ⟨rfl,hb'⟩
  have S1:=Lib.hid (S.out.below hb')
  clear S hb'
  go_wp2
  go_ret
  exact ⟨rfl,S1.out.hb⟩
 replace HR1:=Lib.hid (HR1.out (HR.out rfl).1)
 replace HR2:=Lib.hid (HR2.out (HR.out rfl).1)
 replace HPL:=Lib.hid (HPL.out (HR.out rfl).1)
 clear HR
 obtain ⟨z0,z1,z2⟩:=S.out.cells
 go_wp2_with fail
 refine (HR1.out _ S.out.h S.out.f).mono ?_
 rintro e w2 ⟨hb2,F,E,a1,c1,a2,c2,rfl,hF,hE,hi,hc⟩
 have S2:=Lib.hid (S.out.below hb2)
 have I1:=Lib.hid hi
 have C1:=Lib.hid hc
 have PF:=Lib.hid (And.intro hF hE)
 clear S hb2 hi hc hF hE z0 z1 z2
 obtain ⟨z0,z1,z2⟩:=S2.out.cells
 go_wp2_with fail
 refine (HR2.out _ S2.out.h S2.out.f).mono ?_
 rintro e w3 ⟨hb3,F',E',a3,c3,a4,c4,rfl,hF,hE,hi,hc⟩
 obtain rfl:=rapF_unique PF.out.1 hF
 obtain rfl:=rapE_unique PF.out.2 hE
 obtain ⟨hl1,hl2⟩:=HPL.out F E hF hE
 have S3:=Lib.hid (S2.out.below hb3)
 have I2:=Lib.hid (I1.out.below hb3)
 have C2:=Lib.hid (C1.out.below hb3)
 have I3:=Lib.hid hi
 have C3:=Lib.hid hc
 clear S2 hb3 hi hc hF hE PF I1 C1 z0 z1 z2 HR1 HR2 HPL
 go_wp2_with fail
 refine (awake20 _ (AW0.out.below S3.out.hb)).mono ?_
 rintro e w4 ⟨rfl,hb4⟩
 have S4:=Lib.hid (S3.out.below hb4)
 have I4:=Lib.hid (I2.out.below hb4)
 have C4:=Lib.hid (C2.out.below hb4)
 have I5:=Lib.hid (I3.out.below hb4)
 have C5:=Lib.hid (C3.out.below hb4)
 clear S3 I2 C2 I3 C3 hb4
 go_wp2_with fail
 refine (sameIntsT F a1 c1 a3 c3 _ I4.out I5.out hl1).mono ?_
 rintro e w5 ⟨rfl,hb5⟩
 have S5:=Lib.hid (S4.out.below hb5)
 have C6:=Lib.hid (C4.out.below hb5)
 have C7:=Lib.hid (C5.out.below hb5)
 clear S4 I4 C4 I5 C5 hb5
 go_wp2_with fail
 refine (sameCallsT E a2 c2 a4 c4 _ C6.out C7.out hl2).mono ?_
 rintro e w6 ⟨rfl,hb6⟩
 have S6:=Lib.hid (S5.out.below hb6)
 clear S5 C6 C7 hb6
 go_wp2
 go_ret
 exact ⟨rfl,S6.out.hb⟩
end Go.Proofs.YtkbmnfijeknenaaGreatDoor
