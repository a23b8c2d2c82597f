/-
  The program's reached functions.
-/
import Derived.Test.YtkbmnfijeknenaaGreatDoorGB
namespace Go.Proofs.YtkbmnfijeknenaaGreatDoor
open Go.RowKit Go.Unit0 Go.AM

set_option maxRecDepth 100000 in
set_option maxHeartbeats 8000000 in
theorem reachedP (u:Unt) (ha:Option Addr) (hc:Nat) (fa:Option Addr) (fc:Nat) (l:List Cal) (la:Option Addr) (lc:Nat) (w:World) (h:ClssAt w ha u.h) (f:FncsAt w fa u.fs) (hl:CalsAt w la l) (hn:u.fs.length≤1000) (hll:l.length≤1000000) :
 Calls Tryz.prog 21 #[unV u ha hc fa fc,.slice la l.length lc] w (ReachPost u.fs.length l u.main w):=by
 have S0:=Lib.hid (UB.start (hc:=hc) (fc:=fc) h f)
 have HL:=Lib.hid hl
 have HZ:Hid ((w.alloc (unC u ha hc fa fc)).heap.size=w.heap.size + 1):=by show _=_;simp
 have HG:Hid (∀ w1,ClssAt w1 ha u.h→FncsAt w1 fa u.fs→CalsAt w1 la l→Calls Tryz.prog 19 #[unV u ha hc fa fc,.slice la l.length lc] w1 (GraphPost u.fs.length l w1)):=fun w1 h1 h2 h3=>graphP u ha hc fa fc l la lc w1 h1 h2 h3 hll
 clear h f hl
 unfold unV at *
 go_enter Tryz.func21,Tryz.ntmps21
 go_upto_region 1 with (fail)
 generalize w.alloc _=W at *
 obtain ⟨z0,z1,z2⟩:=S0.out.cells
 have HRN:=Lib.hid (@reach_none u.fs.length l u.main)
 by_cases g1:u.main < 0
 case pos =>
  have t1:=decide_eq_true g1
  have HN:=Lib.hid (HRN.out (by omega))
  clear g1
  go_wp2
  go_ret
  exact ⟨S0.out.hb,[],none,0,rfl,HN.out,fun k hk=>by simp at hk⟩
 have t1:=decide_eq_false g1
 by_cases g2:(u.fs.length:Int)≤u.main
 case pos =>
  have t2:=decide_eq_true g2
  have HN:=Lib.hid (HRN.out (by omega))
  clear g1 g2
  go_wp2
  go_ret
  exact ⟨S0.out.hb,[],none,0,rfl,HN.out,fun k hk=>by simp at hk⟩
 have t2:=decide_eq_false g2
 have HM:Hid (0≤u.main∧u.main < u.fs.length):=⟨by omega,by omega⟩
 clear g1 g2 HRN
 generalize hN:u.fs.length=n at *
 obtain ⟨i0,hi,hz0,hz1,hz2⟩:=info_parts infoSI
 go_upto_region 5 with (refine wpList_make_full W rfl _ _ 111 rfl 0 31 i0 (.slice none 0 0) 1 Tryz.underlying111 hi hz0 hz1 .i64 .i64 n n n rfl rfl rfl rfl (by rw [hz2];omega) (by unfold maxLen;omega) (Nat.zero_le _) ?_;intro W0 own0 hg0)
 have HB0:Hid (Below W.heap.size W W0):=(Below.refl _ _).grown hg0 (Nat.le_refl _) (fun q hq=>by cases hq)
 have S1:=Lib.hid (S0.out.below HB0.out)
 have BK0:Hid (Blk W0 W.heap.size (List.replicate n (Value.slice none 0 0)).toArray 31):=by
  have:=blk_of_full own0
  rw [Nat.mul_one,show (Value.slice none 0 0).cells = #[.slice none 0 0] from rfl,made_one] at this
  exact this
 have hBW:w.heap.size < W.heap.size:=by rw [HZ.out];omega
 clear own0 hg0 S0 HB0 HZ z0 z1 z2 hi hz0 hz1 hz2 t1 t2
 generalize W.heap.size=B at *
 obtain ⟨z0,z1,z2⟩:=S1.out.cells
 rw [hN] at z1
 go_wp2_with fail
 refine (HG.out _ S1.out.h S1.out.f (HL.out.below S1.out.hb)).mono ?_
 rintro e W1 ⟨hb1,L,ea,ec,rfl,hgl,hown,hln⟩
 obtain ⟨-,a',c',he,hec,hea,heb⟩:=owns_edgs hown
 cases he
 have S2:=Lib.hid (S1.out.below hb1)
 have hB0:=BK0.out.lt
 have BK1:=Lib.hid (BK0.out.below hb1)
 have HGL:=Lib.hid hgl
 have HEA:=Lib.hid hea
 have HEB:Hid (∀ b off,ea=some ⟨b,off,none⟩→some b ≠ some B):=fun b off e e2=>by have h1:=heb b off e;have h2:b=B:=(by simpa using e2);omega
 have hB1:B < W1.heap.size:=BK1.out.lt
 clear S1 BK0 hb1 hgl hea heb hown hB0 HG z0 z1 z2
 have hfld:∀ w':World,(Instr.field 39 (.agg #[.int .i64 n,.slice ea L.length ec]) 1).run Tryz.prog w' = .ok (.slice ea L.length ec) w':=fun w'=>by kernel_rfl
 go_wp2
 clear hfld
 go_loopw [33] (fun i wr=>∃ (k:Nat) (vs:List Value),k≤L.length∧i = .int .i64 k∧Hid (RQ w W1 wr B n k L vs)) (fun i _=>L.length - (intOf i).toNat)
 case atStart=>exact ⟨0,_,Nat.zero_le _,rfl,World.grownBy.refl _ _,by rw [List.take_zero,adjL_nil];exact AdjV.start BK1.out⟩
 case round =>
  obtain ⟨k,vs,hk,rfl,R⟩:=hrel
  by_cases hlt:k < L.length
  case pos =>
   obtain ⟨bb,off,he,m0,m1⟩:=(HEA.out.grown R.out.gb HEB.out) k hlt
   subst he
   have HT:Hid (L.take (k + 1)=L.take k ++ [L[k]]):=List.take_succ_eq_append_getElem hlt
   have hrg:=((HGL.out.2 L[k]).1 (List.getElem_mem hlt)).range
   generalize L[k]=x at *
   obtain ⟨e1,e2⟩:=x
   obtain ⟨fN,rfl⟩:∃ fN:Nat,e1=fN:=⟨e1.toNat,by have:=hrg.1;simp at this;omega⟩
   have hfn:fN < n:=by have:=hrg.2.1;simp at this;omega
   clear hrg
   simp only at m0 m1
   have BZ:Hid (Blk (wr.alloc (.cells #[.int .i64 0,.int .i64 0] 42)) wr.heap.size _ 42):=blk_new ..
   have hsz:wr.heap.size≤wr.heap.size:=Nat.le_refl _
   go_upto_region 8 with (refine storeEdge rfl _ _ rfl wr.heap.size _ _ rfl rfl _ BZ.out rfl ?_)
   have HB2:=Lib.hid (below_row (one_below wr (.cells #[.int .i64 0,.int .i64 0] 42)) hsz #[.int .i64 fN,.int .i64 e2])
   have B2:=Lib.hid (BZ.out.setRow #[.int .i64 fN,.int .i64 e2])
   have R2:Hid (RQ w W1 _ B n k L vs):=⟨grown_below R.out.gb HB2.out,R.out.ad.below HB2.out⟩
   clear R BZ HB2 m0 m1 hsz
   generalize (wr.alloc _).setRow wr.heap.size _=W2 at *
   generalize wr.heap.size=n2 at *
   have y0:=B2.out.cell 0 (by simp)
   have y1:=B2.out.cell 1 (by simp)
   simp only [List.getElem_toArray,List.getElem_cons_zero,List.getElem_cons_succ] at y0 y1
   have hfa:fN < (adjL n (L.take k)).length:=by rw [adjL_len];exact hfn
   have hfv:fN < vs.length:=by rw [R2.out.ad.ln];exact hfa
   have hal:((adjL n (L.take k))[fN]).length≤1000000:=by
    have:=adjL_small (L:=L.take k) hfn
    have h2:=List.length_take_le k L
    omega
   have OWF:=Lib.hid (R2.out.ad.ow fN hfv hfa)
   have HADJ:Hid (adjL n (L.take (k + 1))=(adjL n (L.take k)).set fN ((adjL n (L.take k))[fN] ++ [e2])):=by
    show _=_
    rw [HT.out]
    exact adjL_snoc hfn rfl
   have hlt1:∀ q,vs[fN].ownBlock=some q→W1.heap.size≤q:=fun q hq=>(OWF.out.lt q hq).1
   have hneB:some B ≠ vs[fN].ownBlock:=fun e=>by have:=hlt1 B e.symm;omega
   have hne2:some n2 ≠ vs[fN].ownBlock:=owns_ne OWF.out B2.out (by decide)
   have cB:=R2.out.ad.bk.cell fN (by simpa using hfv)
   simp only [List.getElem_toArray] at cB
   generalize hvv:vs[fN]=vf at *
   generalize hlf:(adjL n (L.take k))[fN]=lf at *
   have k0:∀ o:GW W2 vf.ownBlock,o.u.cell? ⟨n2,0,none⟩=some (.int .i64 fN):=fun o=>o.h.cell y0 hne2
   have k1:∀ o:GW W2 vf.ownBlock,o.u.cell? ⟨n2,1,none⟩=some (.int .i64 e2):=fun o=>o.h.cell y1 hne2
   have k2:∀ o:GW W2 vf.ownBlock,o.u.cell? ⟨B,fN,none⟩=some vf:=fun o=>o.h.cell cB hneB
   have hcur:W2.grownBy W2.drew vf.ownBlock:=below_grown0 ((Below.refl _ _).drew) _
   have hne:Nonempty (GW W2 vf.ownBlock):=⟨⟨_,hcur⟩⟩
   clear y0 y1 cB
   refine wp_region_Z (fun w'=>∃ o:GW W2 vf.ownBlock,w' = o.u) 13 (by kernel_rfl) ?_
   change wpAnyZ _ _ _ _ _ _ _ _ _ W2.drew
   refine wpAnyZ_take 0 rfl (by kernel_rfl) (by kernel_rfl) (fun _ _ _ _ h=>h) ⟨⟨_,hcur⟩,rfl⟩ (fun K hK=>?_);go_simp;refine hK _ ?_;clear hK K
   refine wpAnyZ_take 1 rfl (by kernel_rfl) (by kernel_rfl) (fun _ _ _ _ h=>h) ⟨⟨_,hcur⟩,rfl⟩ (fun K hK=>?_);go_simp;refine hK _ ?_;clear hK K
   refine wpAnyZ_take 2 rfl (by kernel_rfl) (by kernel_rfl) (fun _ _ _ _ h=>h) ⟨⟨_,hcur⟩,rfl⟩ (fun K hK=>?_);go_simp;refine hK _ ?_;clear hK K
   refine wpAnyZ_take 3 rfl (by kernel_rfl) (by kernel_rfl) (fun _ _ _ _ h=>h) ⟨⟨_,hcur⟩,rfl⟩ (fun K hK=>?_);go_simp;refine hK _ ?_;clear hK K
   refine wpAnyZ_take 4 rfl (by kernel_rfl) (by kernel_rfl) (fun _ _ _ _ h=>h) ⟨⟨_,hcur⟩,rfl⟩ (fun K hK=>?_);go_simp;refine hK _ ?_;clear hK K
   refine wpAnyZ_take 5 rfl (by kernel_rfl) (by kernel_rfl) (fun _ _ _ _ h=>h) ⟨⟨_,hcur⟩,rfl⟩ (fun K hK=>?_);go_simp;refine hK _ ?_;clear hK K
   refine wpAnyZ_take 6 rfl (by kernel_rfl) (by kernel_rfl) (fun _ _ _ _ h=>h) ⟨⟨_,hcur⟩,rfl⟩ (fun K hK=>?_);go_simp;refine hK _ ?_;clear hK K
   refine wpAnyZ_take 7 rfl (by kernel_rfl) (by kernel_rfl) (fun _ _ _ _ h=>h) ⟨⟨_,hcur⟩,rfl⟩ (fun K hK=>?_);go_simp;refine hK _ ?_;clear hK K
   refine wpAnyZ_take 8 rfl (by kernel_rfl) (by kernel_rfl) (fun _ _ _ _ h=>h) ⟨⟨_,hcur⟩,rfl⟩ (fun K hK=>?_);go_simp;refine hK _ ?_;clear hK K
   refine wpAnyZ_take 9 rfl (by kernel_rfl) (by kernel_rfl) (fun _ _ _ _ h=>h) ⟨⟨_,hcur⟩,rfl⟩ (fun K hK=>?_);go_simp;refine hK _ ?_;clear hK K
   have hb6:Below W2.heap.size W2 (W2.alloc (.cells #[.int .i64 e2] 3)).drew:=(one_below ..).drew
   have hcur6:W2.grownBy (W2.alloc (.cells #[.int .i64 e2] 3)).drew vf.ownBlock:=below_grown0 hb6 _
   have B6:Hid (Blk (W2.alloc (.cells #[.int .i64 e2] 3)).drew W2.heap.size #[.int .i64 e2] 3):=blk_new ..
   have OW6:=Lib.hid (owns_below OWF.out hb6)
   have R6:Hid (AdjV (W2.alloc (.cells #[.int .i64 e2] 3)).drew W1.heap.size B (adjL n (L.take k)) vs):=R2.out.ad.below hb6
   have hbs6:W1.heap.size≤(W2.alloc (.cells #[.int .i64 e2] 3)).drew.heap.size:=Nat.le_trans R2.out.gb.size hb6.size
   refine wpAnyZ_one 10 rfl (by kernel_rfl) ?_
   go_wp2
   refine ⟨⟨⟨_,hcur6⟩,rfl⟩,?_⟩
   refine wpAnyZ_one 11 rfl (by kernel_rfl) ?_
   refine app_intF rfl _ _ rfl W1.heap.size _ lf rfl OW6.out W2.heap.size e2 rfl B6.out hal hbs6 ?_
   intro v7 W7 own7 hg7 hfr7
   obtain ⟨-,oa7,oc7,he7,-,-⟩:=owns_ints own7
   subst he7
   go_wp2
   have hcur7:W2.grownBy W7 vf.ownBlock:=grown_grown hcur6 hg7 (fun q hq=>.inr hq)
   refine ⟨⟨⟨_,hcur7⟩,rfl⟩,?_⟩
   refine wpAnyZ_one 12 rfl (by kernel_rfl) ?_
   go_wp2
   refine ⟨⟨⟨_,hcur7⟩,rfl⟩,?_⟩
   have BK7:=R6.out.bk.grown hg7 hneB
   have q1:=BK7.cell fN (by simpa using hfv)
   have q2:=BK7.free fN
   simp only [List.getElem_toArray] at q1
   clear k0 k1 k2
   refine wpAnyZ_last rfl (by kernel_rfl) ?_
   go_wp2
   refine wpAnyZ_done (by kernel_rfl) ?_ _
   have R8:Hid (RQ w W1 (W7.setCell ⟨B,fN,none⟩ (.slice oa7 (lf ++ [e2]).length oc7)) B n (k + 1) L (vs.set fN (.slice oa7 (lf ++ [e2]).length oc7))):=by
    refine ⟨grown_grown (grown_grown R2.out.gb hcur7 (fun q hq=>.inl (hlt1 q hq))) (grown_set W7 B fN _) (fun q hq=>.inr hq),?_⟩
    rw [HADJ.out]
    subst hlf
    subst hvv
    exact R6.out.put hB1 hfv hfa hbs6 own7 hg7 hfr7
   go_wp2
   go_roundw
   case rel =>
    rw [List.length_append] at R8
    exact ⟨k + 1,_,by omega,by go_num,R8.out⟩
   case measure=>simp [intOf];omega
  case neg =>
   obtain rfl:k=L.length:=by omega
   have hvl:vs.length=n:=by rw [R.out.ad.ln,adjL_len]
   have AD:=Lib.hid R.out.ad
   rw [List.take_length] at AD
   have HBW:Hid (Below w.heap.size w wr):=S2.out.hb.grown R.out.gb S2.out.hb.size (fun q hq=>by cases hq;omega)
   have bU:=Lib.hid (S2.out.b1.grown R.out.gb (fun e=>by cases e;omega))
   clear R S2 BK1 HEA HEB hlt hk
   generalize hW2:wr=W2 at *
   clear hW2
   have z2:=bU.out.cell 2 (by simp)
   simp only [List.getElem_toArray,List.getElem_cons_zero,List.getElem_cons_succ] at z2
   have z2m:=cell_below (one_below W2 (.map #[] 0)) z2
   go_upto_region 11 with (first | (refine wpList_makeF rfl 95 rfl undMIB (Value.int .i64) ?_;intro hmp) | (refine wpList_insertF rfl _ _ _ 95 rfl keyInt undMIB W2.heap.size rfl hmp u.main rfl (.bool true) rfl ?_;intro W3 hm3 hg3 hs3))
   have hb3:Below W2.heap.size W2 W3:=(one_below W2 (.map #[] 0)).grown hg3 (by simp) (fun q hq=>by cases hq;exact Nat.le_refl _)
   have MP3:Hid (MapF W3 W2.heap.size (Value.int .i64) (setF [u.main]) 1):=by
    have:=hm3
    have e:=setF_snoc [] u.main
    rw [← setF_nil] at e
    rw [show setF [u.main]=_ from e.symm]
    exact this
   have HB3:=Lib.hid hb3
   have z2':=cell_below hb3 z2
   clear hmp hm3 hg3 hs3 hb3 z2 z2m
   have hb4:Below W2.heap.size W2 (W3.alloc (.cells #[.int .i64 u.main] 3)):=HB3.out.trans ((one_below ..).mono HB3.out.size)
   have R0:Hid (RS W2 (W3.alloc (.cells #[.int .i64 u.main] 3)) W2.heap.size n l u.main [u.main] [u.main] (some ⟨W3.heap.size,0,none⟩) 1) :=
    ⟨hb4,MP3.out.below (one_below ..),⟨rfl,.inr ⟨W3.heap.size,1,_,rfl,HB3.out.size,blk_new ..,Nat.le_refl _,by unfold maxLen;omega,rfl,rfl⟩⟩,Nat.le_refl _,RI.start HM.out.1 HM.out.2⟩
   generalize hgm:W2.heap.size=gm at R0
   go_wp2
   clear z2' HB3 MP3 hb4
   go_loopw [10] (fun v wr=>∃ (S T:List Int) (oa:Option Addr) (oc:Nat),v = .slice oa T.length oc∧Hid (RS W2 wr gm n l u.main S T oa oc)∧Hid (ClosT n l S (fun y=>y ∈ T))∧Hid (T.length≤2 * S.length)) (fun v wr=>2 * (n - mapN wr gm) + slLen v)
   case atStart=>exact ⟨[u.main],[u.main],_,_,rfl,R0.out,clos_start,(by show 1≤2 * 1;omega)⟩
   case round =>
    clear R0
    obtain ⟨S,T0,oa,oc,rfl,R,CT,HTS⟩:=hrel
    have hmN:=R.out.mapN
    have hfw:=R.out.few
    by_cases hT:0 < T0.length
    case neg =>
     have hT0:T0 = []:=List.eq_nil_of_length_eq_zero (by omega)
     subst hT0
     have HS:Hid (∀ x,(0≤x∧(setF S x).isSome=true) ↔ Rch n l (mainS n u.main) x):=fun x=>by
      rw [setF_some]
      constructor
      ·intro hx;exact R.out.ri.rch x hx.2
      ·intro hx
       have:=(R.out.ri.done (fun c hc hr hf _=>CT.out c hc hr hf (by simp)) x).2 hx
       exact ⟨(R.out.ri.range this).1,this⟩
     go_wp2_with fail
     refine (functionsP (setF S) gm S.length _ R.out.mp (by omega)).mono ?_
     rintro e w9 ⟨hb9,L9,a9,c9,rfl,hp9,hm9,hi9⟩
     have HBE:Hid (Below w.heap.size w w9):=(HBW.out.trans (R.out.hb.mono HBW.out.size)).trans (hb9.mono (Nat.le_trans HBW.out.size R.out.hb.size))
     have HP9:=Lib.hid hp9
     have HM9:=Lib.hid hm9
     have HI9:=Lib.hid (owns_ints' hi9).2
     clear hb9 hp9 hm9 hi9 R CT
     go_wp2
     go_ret
     exact ⟨HBE.out,L9,a9,c9,rfl,⟨HP9.out,fun x=>(HM9.out x).trans (HS.out x)⟩,HI9.out⟩
    case pos =>
     obtain ⟨T,x,rfl⟩:=last_of hT
     have hxs:x ∈ S:=R.out.ri.sub x (by simp)
     obtain ⟨fN,hfn,rfl⟩:=ri_nat R.out.ri x hxs
     have hoI:=owns_ints' R.out.ow
     obtain ⟨b,off,he,cx⟩:=hoI.2 T.length (by simp)
     have hcap:=hoI.1
     subst he
     have HXS:=Lib.hid hxs
     have hTl:(T ++ [(fN:Int)]).length=T.length + 1:=by simp
     have hts:=HTS.out
     rw [hTl] at hts
     rw [List.getElem_append_right (Nat.le_refl _)] at cx
     simp only [Nat.sub_self,List.getElem_cons_zero] at cx
     rw [hTl] at hcap ⊢
     have OT:Hid (wr.ownsRow W2.heap.size 3 1 (.slice (some ⟨b,off,none⟩) T.length oc) T.length (T.map intV)):=by
      have:=owns_take R.out.ow (m:=T.length) (by rw [hTl];omega) (by simp)
      rw [List.map_append,List.take_left' (by simp)] at this
      exact this
     have R1:Hid (RS W2 wr gm n l u.main S T (some ⟨b,off,none⟩) oc):=⟨R.out.hb,R.out.mp,OT.out,R.out.gg,ri_pop R.out.ri⟩
     have C1:=Lib.hid (clos_pop CT.out)
     have hfa:fN < (adjL n L).length:=by rw [adjL_len];exact hfn
     have hfv:fN < vs.length:=by rw [hvl];exact hfn
     obtain ⟨-,va,vc,hve,hvc,hvi⟩:=owns_ints (AD.out.ow fN hfv hfa)
     have cB:=AD.out.bk.cell fN (by simpa using hfv)
     simp only [List.getElem_toArray] at cB
     rw [hve] at cB
     have HVI:=Lib.hid hvi
     have cB':=cell_below R.out.hb cB
     have HRC:Hid (∀ z ∈ (adjL n L)[fN],Rch n l (mainS n u.main) z):=fun z hz=>adj_rch HGL.out hfn R.out.ri hxs hz
     have HAL:Hid (∀ c ∈ l,rightC n c=true→c.f=fN→c.c ∈ (adjL n L)[fN]):=fun c hc hr e=>adj_all HGL.out hfn hc hr e
     have hrl:((adjL n L)[fN]).length≤1000000:=by have:=adjL_small (L:=L) hfn;omega
     clear R CT hoI hve hvi cB hxs hT OT
     generalize (adjL n L)[fN]=r at *
     go_wp2
     clear cx cB'
     obtain ⟨wo,rfl⟩:∃ wo,wo=wr:=⟨_,rfl⟩
     go_loopw [10,77] (fun v i wr=>∃ (q:Nat) (S2 T2:List Int) (oa:Option Addr) (oc:Nat),q≤r.length∧v = .slice oa T2.length oc∧i = .int .i64 q∧Hid (RS W2 wr gm n l u.main S2 T2 oa oc)∧Hid (ClosT n l S2 (fun y=>y ∈ T2 ∨ y=(fN:Int)))∧Hid (∀ y ∈ r.take q,y ∈ S2)∧Hid (T2.length + 2 * S.length≤T.length + 2 * S2.length)∧Hid ((fN:Int) ∈ S2)) (fun _ i _=>r.length - (intOf i).toNat)
     case atStart=>exact ⟨0,S,T,_,_,Nat.zero_le _,rfl,rfl,R1.out,C1.out,(by show ∀ _,_;simp),(by show _≤_;omega),HXS.out⟩
     case round =>
      clear R1 C1 HXS
      obtain ⟨q,S2,T2,oa,oc,hq,rfl,rfl,R,C,HQ,HN,HX⟩:=hrel
      have hmN2:=R.out.mapN
      have hfw2:=R.out.few
      have hNN:=HN.out
      by_cases hlt:q < r.length
      case neg =>
       have C2:Hid (ClosT n l S2 (fun y=>y ∈ T2)):=clos_end C.out (fun c hc hr e=>HQ.out _ (by rw [List.take_of_length_le (by omega)];exact HAL.out c hc hr e))
       go_wp2
       go_roundw
       case rel=>exact ⟨S2,T2,oa,oc,rfl,R.out,C2.out,(by show _≤_;omega)⟩
       case measure =>
        rw [hmN2,hmN]
        simp only [slLen]
        omega
      obtain ⟨b2,off2,he,cz⟩:=(HVI.out.below R.out.hb) q hlt
      subst he
      have HT2:Hid (r.take (q + 1)=r.take q ++ [r[q]]):=List.take_succ_eq_append_getElem hlt
      have HRZ:=Lib.hid (HRC.out _ (List.getElem_mem hlt))
      generalize r[q]=z at *
      by_cases hz:z ∈ S2
      case pos =>
       have hlk:(Instr.lookup 95 (.map (some gm)) (.int .i64 z) false).run Tryz.prog wr = .ok (.bool true) wr:=by rw [R.out.mp.lookup keyInt undMIB (zeroBool wr) z false];simp [setF,hz]
       have HQ2:Hid (∀ y ∈ r.take (q + 1),y ∈ S2):=fun y hy=>by
        rw [HT2.out] at hy
        rcases List.mem_append.1 hy with hy | hy
        ·exact HQ.out y hy
        ·rw [List.mem_singleton.1 hy];exact hz
       clear hz
       go_wp2
       go_roundw
       case rel=>exact ⟨q + 1,S2,T2,oa,oc,by omega,rfl,by go_num,R.out,C.out,HQ2.out,HN.out,HX.out⟩
       case measure=>simp [intOf];omega
      case neg =>
       have hlk:(Instr.lookup 95 (.map (some gm)) (.int .i64 z) false).run Tryz.prog wr = .ok (.bool false) wr:=by rw [R.out.mp.lookup keyInt undMIB (zeroBool wr) z false];simp [setF,hz]
       have HQ2:Hid (∀ y ∈ r.take (q + 1),y ∈ S2 ++ [z]):=fun y hy=>by
        rw [HT2.out] at hy
        rcases List.mem_append.1 hy with hy | hy
        ·exact List.mem_append_left _ (HQ.out y hy)
        ·exact List.mem_append_right _ hy
       have RI2:=Lib.hid (ri_push R.out.ri hz HRZ.out)
       have C2:=Lib.hid (clos_push (z:=z) C.out)
       clear hz
       go_upto_region 20 with (at_mapUpdate;refine wpList_mapF rfl _ _ _ _ rfl keyInt undMIB gm rfl R.out.mp z rfl (.bool true) rfl ?_;intro w2 hm2 hg2 hs2)
       have hb2:Below W2.heap.size W2 w2:=R.out.hb.grown hg2 R.out.hb.size (fun q hq=>by cases hq;exact R.out.gg)
       have MP2:Hid (MapF w2 gm (Value.int .i64) (setF (S2 ++ [z])) (S2.length + 1)):=by rw [setF_snoc] at hm2;exact hm2
       have OW2:=Lib.hid (owns_put R.out.ow R.out.mp hg2)
       have hgg:=R.out.gg
       have hT2:T2.length≤1000000:=by omega
       clear R hm2 hg2 hs2 hlk C HQ
       have O3:=Lib.hid (owns_below OW2.out (one_below w2 (.cells #[.int .i64 z] 3)))
       have M3:=Lib.hid (MP2.out.below (one_below w2 (.cells #[.int .i64 z] 3)))
       have hb3:Below W2.heap.size W2 (w2.alloc (.cells #[.int .i64 z] 3)):=hb2.trans ((one_below ..).mono hb2.size)
       have hbs3:=hb3.size
       go_wp2_with (at_builtin;refine app_ints rfl _ _ rfl W2.heap.size _ T2 rfl O3.out _ 1 [z] rfl (ints_new _ _) hT2 (by simp) hbs3 ?_;intro v7 W7 own7 hg7;obtain ⟨-,oa7,oc7,rfl,-,-⟩:=owns_ints own7)
       have R8:Hid (RS W2 W7 gm n l u.main (S2 ++ [z]) (T2 ++ [z]) oa7 oc7) :=
        ⟨hb3.grown hg7 hbs3 (fun q hq=>(O3.out.lt q hq).1),by simpa using M3.out.grown hg7 (owns_mapF O3.out M3.out),own7,hgg,RI2.out⟩
       go_roundw
       case rel=>exact ⟨q + 1,S2 ++ [z],T2 ++ [z],oa7,oc7,by omega,(by first | rfl | simp),by go_num,R8.out,C2.out,HQ2.out,(by show _≤_;simp;omega),List.mem_append_left _ HX.out⟩
       case measure=>simp [intOf];omega
end Go.Proofs.YtkbmnfijeknenaaGreatDoor
