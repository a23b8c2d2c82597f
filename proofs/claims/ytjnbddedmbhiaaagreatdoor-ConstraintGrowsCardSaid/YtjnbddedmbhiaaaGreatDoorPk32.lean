/-
  constraint's builder: executes.
-/
import Derived.Test.YtjnbddedmbhiaaaGreatDoorPk31
namespace Go.Proofs.YtjnbddedmbhiaaaGreatDoor
open Go.RowKit Go.ak Go.AM

structure xh(D:BD)(W:World)(g:Nat)(m:Str × Str)(l:List Str)(la:Option Addr)(G:Int->Option Value)(wl:World):Prop where
 hb:Below W.heap.size W wl
 mp:bI wl g (Value.int .i64) G
 st:bF wl la l
 tg:Ia D m G
theorem JR{w w':World}{a:Option Addr}{l:List Str}(h:bF w a l){g:Nat}{κ:Type}[DecidableEq κ]{enc:κ->Value}{F:κ->Option Value}(hm:bI w g enc F)(hg:w.grownBy w' (some g)):bF w' a l:=by
 obtain⟨n,hm⟩:=hm
 intro k hk
 obtain⟨b,off,e,hc⟩:=h k hk
 refine⟨b,off,e,?_⟩
 have hne:=P5 hc hm
 have hl:b<w.heap.size:=by
  unfold World.cell? at hc
  cases hq:w.heap[b]? with
  |none=>simp[hq]at hc
  |some o=>exact(Array.getElem?_eq_some_iff.1 hq).1
 rw[<-hc]
 unfold World.cell?
 rw[hg.block b hl hne]
theorem xh.below{D:BD}{W:World}{g:Nat}{m:Str × Str}{l:List Str}{la:Option Addr}{G:Int->Option Value}{wl w':World}(k:xh D W g m l la G wl)(hb:Below wl.heap.size wl w'):xh D W g m l la G w':=by
 refine⟨k.hb.trans (hb.mono k.hb.size),?_,k.st.below hb,k.tg⟩
 exact k.mp.at (hb.block _ k.mp.lt)
set_option maxRecDepth 100000 in
set_option maxHeartbeats 16000000 in
theorem y1a{D:BD}{K:List Cn}{ka:Option Addr}{kc:Nat}{w wr:World}(c m:Str)(k:BM D K ka kc w wr)(o:gI D) :
 Calls Tryz.prog 35 #[.pointer (some ⟨D.R,0,none⟩),.agg #[.string c,.string m]] wr (fun e w'=>∃g G,e = .returned (.map (some g))/\bI w' g (Value.int .i64) G/\Ia D (c,m) G/\BM D K ka kc w w'/\aF (mine D wr) wr w'):=by
 have S:=Lib.hid k
 have HI:Hid (∀w1,Below wr.heap.size wr w1->Calls Tryz.prog 74 #[.agg #[.slice D.ha D.u.h.length D.hc],.string c,.string m] w1 (Ib (nE D.u.h c m) D.u.h.length w1)):=fun w1 hb=>by
  have k1:=k.below hb
  exact RY D.u.h c m D.ha D.hc w1 (k1.h.below k1.bk.hb) o.b.h.l o.b.h.m
 have HFN:Hid (∀x w1,Below wr.heap.size wr w1->Calls Tryz.prog 34 #[.agg #[.slice D.ha D.u.h.length D.hc,.slice D.fa D.u.fs.length D.fc,.int .i64 D.u.main],.string x,.string m] w1 (aj w1 (.int .i64 (dM D.u.fs x m)))):=fun x w1 hb=>by
  have k1:=k.below hb
  exact FO D.u D.ha D.hc D.fa D.fc x m w1 (k1.f.below k1.bk.hb) (by have:=o.b.l;omega)
 have hhl:D.u.h.length<=100000:=o.b.h.l
 obtain⟨F,⟨n,hm⟩,hF⟩:=k.mt
 have HM:=Lib.hid hm
 have HF:=Lib.hid hF
 clear k o hm hF
 have S1:=Lib.hid (S.out.below (av wr (.cells #[.string c,.string m] 108)))
 have HX:Hid (ah (wr.alloc (.cells #[.string c,.string m] 108)) wr.heap.size #[.string c,.string m] 108):=aL ..
 have HMW:=Lib.hid (HM.out.below (av wr (.cells #[.string c,.string m] 108)))
 have HCB:Hid (aF (mine D wr) wr (wr.alloc (.cells #[.string c,.string m] 108))):=aF.of_below (av ..)
 have HI1:Hid (∀w1,Below (wr.alloc (.cells #[.string c,.string m] 108)).heap.size (wr.alloc (.cells #[.string c,.string m] 108)) w1->Calls Tryz.prog 74 #[.agg #[.slice D.ha D.u.h.length D.hc],.string c,.string m] w1 (Ib (nE D.u.h c m) D.u.h.length w1)):=fun w1 hb=>HI.out w1 ((av ..).trans (hb.mono (av ..).size))
 have HFN1:Hid (∀x w1,Below (wr.alloc (.cells #[.string c,.string m] 108)).heap.size (wr.alloc (.cells #[.string c,.string m] 108)) w1->Calls Tryz.prog 34 #[.agg #[.slice D.ha D.u.h.length D.hc,.slice D.fa D.u.fs.length D.fc,.int .i64 D.u.main],.string x,.string m] w1 (aj w1 (.int .i64 (dM D.u.fs x m)))):=fun x w1 hb=>HFN.out x w1 ((av ..).trans (hb.mono (av ..).size))
 have HSB:Hid (∀w1 g G,Below (wr.alloc (.cells #[.string c,.string m] 108)).heap.size (wr.alloc (.cells #[.string c,.string m] 108)) w1->bI wr g (Value.int .i64) G->bI w1 g (Value.int .i64) G):=fun w1 g G hb hs=>hs.at ((((av ..).trans (hb.mono (av ..).size)).block g hs.lt))
 clear HI HM HFN
 go_enter Tryz.func35,Tryz.ntmps35
 go_upto_region 1 with (fail)
 generalize wr.heap.size=n3 at *
 generalize wr.alloc _=W at *
 obtain⟨z0,z1,z2,-,-,-,-,-,-,z9⟩:=S1.out.cells
 have x0:=HX.out.cell 0 (by simp)
 have x1:=HX.out.cell 1 (by simp)
 simp only[List.getElem_toArray,List.getElem_cons_zero,List.getElem_cons_succ]at x0 x1
 have k0:∀o:WB W,o.u.cell? ⟨D.R,0,none⟩=some (.slice D.ha D.u.h.length D.hc):=fun o=>cell_below o.h z0
 have k1:∀o:WB W,o.u.cell? ⟨D.R,1,none⟩=some (.slice D.fa D.u.fs.length D.fc):=fun o=>cell_below o.h z1
 have k2:∀o:WB W,o.u.cell? ⟨D.R,2,none⟩=some (.int .i64 D.u.main):=fun o=>cell_below o.h z2
 have k9:∀o:WB W,o.u.cell? ⟨D.R,9,none⟩=some (.map (some D.gt)):=fun o=>cell_below o.h z9
 have y0:∀o:WB W,o.u.cell? ⟨n3,0,none⟩=some (.string c):=fun o=>cell_below o.h x0
 have y1:∀o:WB W,o.u.cell? ⟨n3,1,none⟩=some (.string m):=fun o=>cell_below o.h x1
 have hne:Nonempty (WB W):=⟨⟨W,Below.refl _ _⟩⟩
 have h0:Below W.heap.size W W.drew:=(Below.refl _ _).drew
 clear x0 x1 z0 z1 z2 z9
 cases hF0:F (c,m)with
 |some v =>
  obtain⟨g,G,rfl,hl,hs,ht⟩:=HF.out _ v hF0
  have hlk:∀o:WB W,(Instr.lookup 79 (.map (some D.gt)) (.agg #[.string c,.string m]) true).run Tryz.prog o.u = .ok (.tuple #[.map (some g),.bool true]) o.u:=fun o=>by
   have:=(HMW.out.below o.h).lookup FD Dj (Iy o.u) (c,m) true
   rw[hF0]at this
   exact this
  have HS:Hid (∀w1,Below W.heap.size W w1->bI w1 g (Value.int .i64) G):=fun w1 hb=>HSB.out w1 g G hb hs
  clear hs hF0 HF HI1 HSB
  refine dC (fun w'=>∃o:WB W,w' = o.u) (by kernel_rfl) ?_
  change bO _ _ _ _ _ _ _ _ W.drew
  generalize W.drew=V0 at *
  refine af 0 rfl (by kernel_rfl) (fun _ _ _ _ h=>h) ⟨⟨_,h0⟩,rfl⟩ (fun K hK=>?_);go_simp;refine hK _ ?_;clear hK K
  refine af 1 rfl (by kernel_rfl) (fun _ _ _ _ h=>h) ⟨⟨_,h0⟩,rfl⟩ (fun K hK=>?_);go_simp;refine hK _ ?_;clear hK K
  refine af 2 rfl (by kernel_rfl) (fun _ _ _ _ h=>h) ⟨⟨_,h0⟩,rfl⟩ (fun K hK=>?_);go_simp;refine hK _ ?_;clear hK K
  refine af 3 rfl (by kernel_rfl) (fun _ _ _ _ h=>h) ⟨⟨_,h0⟩,rfl⟩ (fun K hK=>?_);go_simp;refine hK _ ?_;clear hK K
  refine af 4 rfl (by kernel_rfl) (fun _ _ _ _ h=>h) ⟨⟨_,h0⟩,rfl⟩ (fun K hK=>?_);go_simp;refine hK _ ?_;clear hK K
  refine af 5 rfl (by kernel_rfl) (fun _ _ _ _ h=>h) ⟨⟨_,h0⟩,rfl⟩ (fun K hK=>?_);go_simp;refine hK _ ?_;clear hK K
  refine af 6 rfl (by kernel_rfl) (fun _ _ _ _ h=>h) ⟨⟨_,h0⟩,rfl⟩ (fun K hK=>?_);go_simp;refine hK _ ?_;clear hK K
  refine af 7 rfl (by kernel_rfl) (fun _ _ _ _ h=>h) ⟨⟨_,h0⟩,rfl⟩ (fun K hK=>?_);go_simp;refine hK _ ?_;clear hK K
  refine af 8 rfl (by kernel_rfl) (fun _ _ _ _ h=>h) ⟨⟨_,h0⟩,rfl⟩ (fun K hK=>?_);go_simp;refine hK _ ?_;clear hK K
  refine aP 9 rfl (by kernel_rfl) ?_
  go_wp2
  refine⟨⟨⟨_,h0⟩,rfl⟩,?_⟩
  refine aP 10 rfl (by kernel_rfl) ?_
  go_wp2
  refine⟨⟨⟨_,h0⟩,rfl⟩,?_⟩
  refine dh (by kernel_rfl) ?_ _
  have H0:=Lib.hid h0
  clear hlk k0 k1 k2 k9 y0 y1 h0 hne
  go_wp2
  go_ret
  exact⟨g,G,rfl,HS.out _ H0.out,ht,S1.out.below H0.out,mine.trans HCB.out (aF.of_below H0.out)⟩
 |none =>
  have hlk:∀o:WB W,(Instr.lookup 79 (.map (some D.gt)) (.agg #[.string c,.string m]) true).run Tryz.prog o.u = .ok (.tuple #[.map none,.bool false]) o.u:=fun o=>by
   have:=(HMW.out.below o.h).lookup FD Dj (Iy o.u) (c,m) true
   rw[hF0]at this
   exact this
  refine dC (fun w'=>∃o:WB W,w' = o.u) (by kernel_rfl) ?_
  change bO _ _ _ _ _ _ _ _ W.drew
  generalize W.drew=V0 at *
  refine af 0 rfl (by kernel_rfl) (fun _ _ _ _ h=>h) ⟨⟨_,h0⟩,rfl⟩ (fun K hK=>?_);go_simp;refine hK _ ?_;clear hK K
  refine af 1 rfl (by kernel_rfl) (fun _ _ _ _ h=>h) ⟨⟨_,h0⟩,rfl⟩ (fun K hK=>?_);go_simp;refine hK _ ?_;clear hK K
  refine af 2 rfl (by kernel_rfl) (fun _ _ _ _ h=>h) ⟨⟨_,h0⟩,rfl⟩ (fun K hK=>?_);go_simp;refine hK _ ?_;clear hK K
  refine af 3 rfl (by kernel_rfl) (fun _ _ _ _ h=>h) ⟨⟨_,h0⟩,rfl⟩ (fun K hK=>?_);go_simp;refine hK _ ?_;clear hK K
  refine af 4 rfl (by kernel_rfl) (fun _ _ _ _ h=>h) ⟨⟨_,h0⟩,rfl⟩ (fun K hK=>?_);go_simp;refine hK _ ?_;clear hK K
  refine af 5 rfl (by kernel_rfl) (fun _ _ _ _ h=>h) ⟨⟨_,h0⟩,rfl⟩ (fun K hK=>?_);go_simp;refine hK _ ?_;clear hK K
  refine af 6 rfl (by kernel_rfl) (fun _ _ _ _ h=>h) ⟨⟨_,h0⟩,rfl⟩ (fun K hK=>?_);go_simp;refine hK _ ?_;clear hK K
  refine af 7 rfl (by kernel_rfl) (fun _ _ _ _ h=>h) ⟨⟨_,h0⟩,rfl⟩ (fun K hK=>?_);go_simp;refine hK _ ?_;clear hK K
  refine af 8 rfl (by kernel_rfl) (fun _ _ _ _ h=>h) ⟨⟨_,h0⟩,rfl⟩ (fun K hK=>?_);go_simp;refine hK _ ?_;clear hK K
  refine aP 9 rfl (by kernel_rfl) ?_
  go_wp2
  refine⟨⟨⟨_,h0⟩,rfl⟩,?_⟩
  refine aP 10 rfl (by kernel_rfl) ?_
  go_wp2
  refine⟨⟨⟨_,h0⟩,rfl⟩,?_⟩
  refine dh (by kernel_rfl) ?_ _
  clear hlk
  go_upto_region 4 with (refine sH rfl 105 rfl jG (Value.int .i64) ?_;intro hmp)
  have h2:Below W.heap.size W (V0.alloc (.map #[] 0)).drew:=(h0.trans ((av ..).mono h0.size)).drew
  have hgW:W.heap.size<=V0.heap.size:=h0.size
  have HMP:Hid (bI (V0.alloc (.map #[] 0)).drew V0.heap.size (Value.int .i64) (fun _=>none)):=⟨_,hmp.below (Below.refl _ _).drew⟩
  clear hmp
  refine dC (fun w'=>∃o:WB W,w' = o.u) (by kernel_rfl) ?_
  change bO _ _ _ _ _ _ _ _ (V0.alloc (.map #[] 0)).drew
  generalize V0.heap.size=gm at *
  generalize (V0.alloc _).drew=V1 at *
  refine af 0 rfl (by kernel_rfl) (fun _ _ _ _ h=>h) ⟨⟨_,h2⟩,rfl⟩ (fun K hK=>?_);go_simp;refine hK _ ?_;clear hK K
  refine af 1 rfl (by kernel_rfl) (fun _ _ _ _ h=>h) ⟨⟨_,h2⟩,rfl⟩ (fun K hK=>?_);go_simp;refine hK _ ?_;clear hK K
  refine af 2 rfl (by kernel_rfl) (fun _ _ _ _ h=>h) ⟨⟨_,h2⟩,rfl⟩ (fun K hK=>?_);go_simp;refine hK _ ?_;clear hK K
  refine af 3 rfl (by kernel_rfl) (fun _ _ _ _ h=>h) ⟨⟨_,h2⟩,rfl⟩ (fun K hK=>?_);go_simp;refine hK _ ?_;clear hK K
  refine af 4 rfl (by kernel_rfl) (fun _ _ _ _ h=>h) ⟨⟨_,h2⟩,rfl⟩ (fun K hK=>?_);go_simp;refine hK _ ?_;clear hK K
  refine af 5 rfl (by kernel_rfl) (fun _ _ _ _ h=>h) ⟨⟨_,h2⟩,rfl⟩ (fun K hK=>?_);go_simp;refine hK _ ?_;clear hK K
  refine af 6 rfl (by kernel_rfl) (fun _ _ _ _ h=>h) ⟨⟨_,h2⟩,rfl⟩ (fun K hK=>?_);go_simp;refine hK _ ?_;clear hK K
  refine af 7 rfl (by kernel_rfl) (fun _ _ _ _ h=>h) ⟨⟨_,h2⟩,rfl⟩ (fun K hK=>?_);go_simp;refine hK _ ?_;clear hK K
  refine af 8 rfl (by kernel_rfl) (fun _ _ _ _ h=>h) ⟨⟨_,h2⟩,rfl⟩ (fun K hK=>?_);go_simp;refine hK _ ?_;clear hK K
  refine af 11 rfl (by kernel_rfl) (fun _ _ _ _ h=>h) ⟨⟨_,h2⟩,rfl⟩ (fun K hK=>?_);go_simp;refine hK _ ?_;clear hK K
  refine aP 9 rfl (by kernel_rfl) ?_
  go_wp2_with fail
  refine(HI1.out _ h2).mono ?_
  rintro e w2 ⟨hb2,l,la,lc,rfl,hll,hlc,hlm,hls⟩
  have h3:Below W.heap.size W w2:=h2.trans (hb2.mono h2.size)
  have E0:Hid (xh D W gm (c,m) l la (fun _=>none) w2):=⟨h3,HMP.out.at (hb2.block _ HMP.out.lt),hls,fun k x e=>by cases e⟩
  have HLM:=Lib.hid hlm
  clear hb2 HI1 HMP hls hlm
  go_wp2
  refine⟨⟨⟨_,h3⟩,rfl⟩,?_⟩
  refine aP 10 rfl (by kernel_rfl) ?_
  go_wp2
  refine⟨⟨⟨_,h3⟩,rfl⟩,?_⟩
  refine dh (by kernel_rfl) ?_ _
  clear h3 h2 h0
  go_wp2
  go_loopw[32] (fun i wl=>∃(k:Nat) (G:Int->Option Value),k<=l.length/\i = .int .i64 k/\Hid (xh D W gm (c,m) l la G wl)) (fun i _=>l.length-(intOf i).toNat)
  case atStart=>exact⟨0,_,Nat.zero_le _,rfl,E0.out⟩
  case round =>
   clear E0
   obtain⟨q,G,hq,rfl,E⟩:=hrel
   by_cases hlt:q<l.length
   case neg =>
    have H3:=Lib.hid E.out.hb
    have S2:=Lib.hid (S1.out.below H3.out)
    have HX2:=Lib.hid (HX.out.below H3.out)
    have hnm:=S2.out.zo HX2.out (by decide) (by decide)
    have S3:=Lib.hid (S2.out.below (Below.refl _ wr).drew)
    have H4:Hid (aF (mine D wr) wr wr.drew):=aF.of_below (Below.refl _ wr).drew
    have HV2:Hid (Below W.heap.size W wr.drew):=H3.out.drew
    have HM3:=Lib.hid (HMW.out.below HV2.out)
    have E3:=Lib.hid (E.out.below (Below.refl _ wr).drew)
    have x0:=HX2.out.cell 0 (by simp)
    have x1:=HX2.out.cell 1 (by simp)
    simp only[List.getElem_toArray,List.getElem_cons_zero,List.getElem_cons_succ]at x0 x1
    clear k0 k1 k2 k9 y0 y1 hne HFN1 HLM
    have k9:∀o:aX D w wr,o.u.cell? ⟨D.R,9,none⟩=some (.map (some D.gt)):=fun o=>o.cells.2.2.2.2.2.2.2.2.2
    have y0:∀o:aX D w wr,o.u.cell? ⟨n3,0,none⟩=some (.string c):=fun o=>o.old x0 hnm
    have y1:∀o:aX D w wr,o.u.cell? ⟨n3,1,none⟩=some (.string m):=fun o=>o.old x1 hnm
    have hcw:=S3.out.cw H4.out
    have hne:Nonempty (aX D w wr):=hcw.elim fun o _=>⟨o⟩
    clear x0 x1 hnm
    go_upto_region 9 with (fail)
    refine dC (fun w'=>∃o:aX D w wr,w' = o.u) (by kernel_rfl) ?_
    change bO _ _ _ _ _ _ _ _ wr.drew
    generalize wr.drew=V2 at *
    refine af 0 rfl (by kernel_rfl) (fun _ _ _ _ h=>h) hcw (fun K hK=>?_);go_simp;refine hK _ ?_;clear hK K
    refine af 1 rfl (by kernel_rfl) (fun _ _ _ _ h=>h) hcw (fun K hK=>?_);go_simp;refine hK _ ?_;clear hK K
    refine af 2 rfl (by kernel_rfl) (fun _ _ _ _ h=>h) hcw (fun K hK=>?_);go_simp;refine hK _ ?_;clear hK K
    refine af 3 rfl (by kernel_rfl) (fun _ _ _ _ h=>h) hcw (fun K hK=>?_);go_simp;refine hK _ ?_;clear hK K
    refine af 4 rfl (by kernel_rfl) (fun _ _ _ _ h=>h) hcw (fun K hK=>?_);go_simp;refine hK _ ?_;clear hK K
    refine af 5 rfl (by kernel_rfl) (fun _ _ _ _ h=>h) hcw (fun K hK=>?_);go_simp;refine hK _ ?_;clear hK K
    refine aP 6 rfl (by kernel_rfl) ?_
    refine jW rfl _ _ _ _ rfl FD Dj D.gt rfl HM3.out (c,m) rfl (.map (some gm)) rfl ?_
    intro w5 hm5 hg5 hs5
    have hc5:aF (mine D V2) V2 w5:=tK hg5 (.inr (.inr (.inr (.inl rfl))))
    have hlo:D.lo<=gm:=Nat.le_trans S1.out.lo.2.2.2 hgW
    have hex:D.ex≠some gm:=fun e=>by have:=S1.out.le _ e;omega
    have S5:=Lib.hid (S3.out.Uo hg5 ⟨_,⟨_,hm5⟩,fun t v e=>by
     by_cases ht:t=(c,m)
     ·subst ht
      rw[if_pos rfl]at e
      cases e
      exact⟨gm,G,rfl,⟨hlo,hex⟩,S3.out.tgt hc5 hlo E3.out.mp,E3.out.tg⟩
     ·rw[if_neg ht]at e
      obtain⟨g',G',e1,e2,e3,e4⟩:=HF.out t v e
      exact⟨g',G',e1,e2,S3.out.tgt hc5 e2.1 (HSB.out _ _ _ HV2.out e3),e4⟩⟩)
    refine⟨S5.out.cw (mine.trans H4.out hc5),?_⟩
    refine dh (by kernel_rfl) ?_ _
    have HZ:=Lib.hid (mine.trans HCB.out (mine.trans (aF.of_below H3.out) (mine.trans H4.out hc5)))
    have SZ:=Lib.hid (S3.out.tgt hc5 hlo E3.out.mp)
    clear k9 y0 y1 hne hcw
    go_wp2
    go_ret
    exact⟨gm,G,rfl,SZ.out,E3.out.tg,S5.out,HZ.out⟩
   case pos =>
    obtain⟨b,off,he,hc⟩:=E.out.st q hlt
    subst he
    have HXL:=Lib.hid ((HLM.out _).1 (List.getElem_mem hlt))
    generalize l[q]=x at *
    go_upto_region 7 with (fail)
    have hd:Below wr.heap.size wr wr.drew:=(Below.refl _ _).drew
    have h5:Below W.heap.size W wr.drew:=E.out.hb.drew
    refine dC (fun w'=>∃o:WB W,w' = o.u) (by kernel_rfl) ?_
    change bO _ _ _ _ _ _ _ _ wr.drew
    generalize wr.drew=V5 at *
    refine af 0 rfl (by kernel_rfl) (fun _ _ _ _ h=>h) ⟨⟨_,h5⟩,rfl⟩ (fun K hK=>?_);go_simp;refine hK _ ?_;clear hK K
    refine af 1 rfl (by kernel_rfl) (fun _ _ _ _ h=>h) ⟨⟨_,h5⟩,rfl⟩ (fun K hK=>?_);go_simp;refine hK _ ?_;clear hK K
    refine af 2 rfl (by kernel_rfl) (fun _ _ _ _ h=>h) ⟨⟨_,h5⟩,rfl⟩ (fun K hK=>?_);go_simp;refine hK _ ?_;clear hK K
    refine af 3 rfl (by kernel_rfl) (fun _ _ _ _ h=>h) ⟨⟨_,h5⟩,rfl⟩ (fun K hK=>?_);go_simp;refine hK _ ?_;clear hK K
    refine af 4 rfl (by kernel_rfl) (fun _ _ _ _ h=>h) ⟨⟨_,h5⟩,rfl⟩ (fun K hK=>?_);go_simp;refine hK _ ?_;clear hK K
    refine af 5 rfl (by kernel_rfl) (fun _ _ _ _ h=>h) ⟨⟨_,h5⟩,rfl⟩ (fun K hK=>?_);go_simp;refine hK _ ?_;clear hK K
    refine af 6 rfl (by kernel_rfl) (fun _ _ _ _ h=>h) ⟨⟨_,h5⟩,rfl⟩ (fun K hK=>?_);go_simp;refine hK _ ?_;clear hK K
    refine af 7 rfl (by kernel_rfl) (fun _ _ _ _ h=>h) ⟨⟨_,h5⟩,rfl⟩ (fun K hK=>?_);go_simp;refine hK _ ?_;clear hK K
    refine aP 8 rfl (by kernel_rfl) ?_
    go_wp2_with fail
    refine(HFN1.out x _ h5).mono ?_
    rintro e w4 ⟨rfl,hb4⟩
    have h6:Below W.heap.size W w4:=h5.trans (hb4.mono h5.size)
    have E4:=Lib.hid (E.out.below (hd.trans (hb4.mono hd.size)))
    clear hb4 hd
    go_wp2
    refine⟨⟨⟨_,h6⟩,rfl⟩,?_⟩
    obtain⟨n4,hm4⟩:=E4.out.mp
    have HM4:=Lib.hid hm4
    clear hm4
    refine aP 9 rfl (by kernel_rfl) ?_
    refine jW rfl _ _ _ _ rfl j5 jG gm rfl HM4.out (dM D.u.fs x m) rfl (.bool true) rfl ?_
    intro w5 hm5 hg5 hs5
    have h7:Below W.heap.size W w5:=h6.grown hg5 h6.size (fun q hq=>by cases hq;exact hgW)
    have E5:Hid (xh D W gm (c,m) l (some ⟨b,off,none⟩) (fun k'=>if k' = dM D.u.fs x m then some (.bool true)else G k') w5):=⟨h7,⟨_,hm5⟩,JR E4.out.st E4.out.mp hg5,fun k' x' e=>by
     by_cases hk:k' = dM D.u.fs x m
     ·rw[if_pos hk]at e
      cases e
      exact⟨rfl,x,HXL.out,hk⟩
     ·rw[if_neg hk]at e
      exact E4.out.tg k' x' e⟩
    clear hm5 hg5 hs5 E4 HM4 E HXL hc
    go_wp2
    refine⟨⟨⟨_,h7⟩,rfl⟩,?_⟩
    refine dh (by kernel_rfl) ?_ _
    clear h5 h6 h7
    go_wp2
    go_roundw
    case rel=>exact⟨q+1,_,by omega,by go_num,E5.out⟩
    case measure=>simp[intOf];omega

def pK(u:aQ)(x:bA):Prop:=∃(f i g:Nat) (hf:f<u.fs.length) (hi:i<u.fs[f].code.length),g<u.fs.length/\x=⟨f,i,g⟩ /\
 ((u.fs[f].code[i].op=10/\dM u.fs u.fs[f].code[i].cls u.fs[f].code[i].name=g)∨(u.fs[f].code[i].op=9/\∃c,nE u.h u.fs[f].code[i].cls u.fs[f].code[i].name c/\(g:Int)=dM u.fs c u.fs[f].code[i].name))
abbrev wL(x:bA):Obj:=.cells #[.int .i64 x.f,.int .i64 x.i,.int .i64 x.c] 56
set_option maxRecDepth 100000 in
set_option maxHeartbeats 16000000 in
theorem y1h{D:BD}{K:List Cn}{ka:Option Addr}{kc:Nat}{w wr:World}(x:bA)(k:BM D K ka kc w wr)(o:gI D) :
 Calls Tryz.prog 16 #[.pointer (some ⟨D.R,0,none⟩),.agg #[.int .i64 x.f,.int .i64 x.i,.int .i64 x.c]] wr (fun e w'=>∃r:Int,e = .returned (.int .i64 r)/\(r=0->pK D.u x)/\BM D K ka kc w w'/\aF (mine D wr) wr w'):=by
 obtain⟨xf,xi,xc⟩:=x
 have S1:=Lib.hid (k.below (av wr (wL ⟨xf,xi,xc⟩)))
 have HX:Hid (ah (wr.alloc (wL ⟨xf,xi,xc⟩)) wr.heap.size #[.int .i64 xf,.int .i64 xi,.int .i64 xc] 56):=aL ..
 have HCB:Hid (aF (mine D wr) wr (wr.alloc (wL ⟨xf,xi,xc⟩))):=aF.of_below (av ..)
 have HO:=Lib.hid o
 have HCL:=Lib.hid o.cl
 have hfl:=o.fl
 clear k o
 simp only
 go_enter Tryz.func16,Tryz.ntmps16
 go_upto_region 1 with (fail)
 generalize wr.heap.size=n3 at *
 generalize wr.alloc _=W at *
 obtain⟨z0,z1,z2,-,-,-,-,-,-,-⟩:=S1.out.cells
 have x0:=HX.out.cell 0 (by simp)
 have x1:=HX.out.cell 1 (by simp)
 have x2:=HX.out.cell 2 (by simp)
 simp only[List.getElem_toArray,List.getElem_cons_zero,List.getElem_cons_succ]at x0 x1 x2
 go_upto_region 2 with (fail)
 have k0:∀o:WB W,o.u.cell? ⟨D.R,0,none⟩=some (.slice D.ha D.u.h.length D.hc):=fun o=>cell_below o.h z0
 have k1:∀o:WB W,o.u.cell? ⟨D.R,1,none⟩=some (.slice D.fa D.u.fs.length D.fc):=fun o=>cell_below o.h z1
 have k2:∀o:WB W,o.u.cell? ⟨D.R,2,none⟩=some (.int .i64 D.u.main):=fun o=>cell_below o.h z2
 have y0:∀o:WB W,o.u.cell? ⟨n3,0,none⟩=some (.int .i64 xf):=fun o=>cell_below o.h x0
 have y1:∀o:WB W,o.u.cell? ⟨n3,1,none⟩=some (.int .i64 xi):=fun o=>cell_below o.h x1
 have y2:∀o:WB W,o.u.cell? ⟨n3,2,none⟩=some (.int .i64 xc):=fun o=>cell_below o.h x2
 have hne:Nonempty (WB W):=⟨⟨W,Below.refl _ _⟩⟩
 clear x0 x1 x2 z0 z1 z2
 by_cases c1:xf<0
 case pos =>
  have t1:=decide_eq_true c1
  clear c1
  refine bJ W (by kernel_rfl) ?_
  repeat (go_big_quiet_step (fail))
  refine wpQuiet_nil ?_
  intro _ hw'
  obtain⟨o,rfl⟩:=hw'
  have HB:=Lib.hid o.h
  clear k0 k1 k2 y0 y1 y2 hne
  go_wp2
  go_ret
  exact⟨4,rfl,fun e=>(by cases e),S1.out.below HB.out,mine.trans HCB.out (aF.of_below HB.out)⟩
 have t1:=decide_eq_false c1
 by_cases c2:(D.u.fs.length:Int)<=xf
 case pos =>
  have t2:=decide_eq_true c2
  clear c1 c2
  refine bJ W (by kernel_rfl) ?_
  repeat (go_big_quiet_step (fail))
  refine wpQuiet_nil ?_
  intro _ hw'
  obtain⟨o,rfl⟩:=hw'
  have HB:=Lib.hid o.h
  clear k0 k1 k2 y0 y1 y2 hne
  go_wp2
  go_ret
  exact⟨4,rfl,fun e=>(by cases e),S1.out.below HB.out,mine.trans HCB.out (aF.of_below HB.out)⟩
 have t2:=decide_eq_false c2
 by_cases c3:xc<0
 case pos =>
  have t3:=decide_eq_true c3
  clear c1 c2 c3
  refine bJ W (by kernel_rfl) ?_
  repeat (go_big_quiet_step (fail))
  refine wpQuiet_nil ?_
  intro _ hw'
  obtain⟨o,rfl⟩:=hw'
  have HB:=Lib.hid o.h
  clear k0 k1 k2 y0 y1 y2 hne
  go_wp2
  go_ret
  exact⟨4,rfl,fun e=>(by cases e),S1.out.below HB.out,mine.trans HCB.out (aF.of_below HB.out)⟩
 have t3:=decide_eq_false c3
 by_cases c4:(D.u.fs.length:Int)<=xc
 case pos =>
  have t4:=decide_eq_true c4
  clear c1 c2 c3 c4
  refine bJ W (by kernel_rfl) ?_
  repeat (go_big_quiet_step (fail))
  refine wpQuiet_nil ?_
  intro _ hw'
  obtain⟨o,rfl⟩:=hw'
  have HB:=Lib.hid o.h
  clear k0 k1 k2 y0 y1 y2 hne
  go_wp2
  go_ret
  exact⟨4,rfl,fun e=>(by cases e),S1.out.below HB.out,mine.trans HCB.out (aF.of_below HB.out)⟩
 have t4:=decide_eq_false c4
 by_cases c5:xi<0
 case pos =>
  have t5:=decide_eq_true c5
  clear c1 c2 c3 c4 c5
  refine bJ W (by kernel_rfl) ?_
  repeat (go_big_quiet_step (fail))
  refine wpQuiet_nil ?_
  intro _ hw'
  obtain⟨o,rfl⟩:=hw'
  have HB:=Lib.hid o.h
  clear k0 k1 k2 y0 y1 y2 hne
  go_wp2
  go_ret
  exact⟨4,rfl,fun e=>(by cases e),S1.out.below HB.out,mine.trans HCB.out (aF.of_below HB.out)⟩
 have t5:=decide_eq_false c5
 obtain⟨f,rfl⟩:=Int.eq_ofNat_of_zero_le (show 0<=xf by omega)
 obtain⟨g,rfl⟩:=Int.eq_ofNat_of_zero_le (show 0<=xc by omega)
 obtain⟨i,rfl⟩:=Int.eq_ofNat_of_zero_le (show 0<=xi by omega)
 have hf:f<D.u.fs.length:=by omega
 have hg:g<D.u.fs.length:=by omega
 have t2':decide (D.u.fs.length<=f)=false:=by simp;omega
 have t4':decide (D.u.fs.length<=g)=false:=by simp;omega
 obtain⟨b,off,va,vc,ca,cc,he,-,-,-,-,-,-,m6,-,hins⟩:=S1.out.f f hf
 have m6':=cell_below S1.out.bk.hb m6
 have hcl:=HCL.out _ (List.getElem_mem hf)
 rw[he]at k1
 have k6:∀o:WB W,o.u.cell? ⟨b,off+f*7+6,none⟩=some (.slice ca D.u.fs[f].code.length cc):=fun o=>cell_below o.h m6'
 clear m6 m6'
 by_cases c6:D.u.fs[f].code.length<=i
 case pos =>
  have t6:decide (D.u.fs[f].code.length<=i)=true:=by simp;omega
  clear c1 c2 c3 c4 c5 c6
  generalize D.u.fs[f].code.length=cl at *
  refine bJ W (by kernel_rfl) ?_
  repeat (go_big_quiet_step (fail))
  refine wpQuiet_nil ?_
  intro _ hw'
  obtain⟨o,rfl⟩:=hw'
  have HB:=Lib.hid o.h
  clear k0 k1 k2 y0 y1 y2 hne
  go_wp2
  go_ret
  exact⟨4,rfl,fun e=>(by cases e),S1.out.below HB.out,mine.trans HCB.out (aF.of_below HB.out)⟩
 have hi:i<D.u.fs[f].code.length:=by omega
 have t6:decide (D.u.fs[f].code.length<=i)=false:=by simp;omega
 clear c1 c2 c3 c4 c5 c6
 have hins2:=hins.below S1.out.bk.hb
 obtain⟨b2,off2,ga,gc,he2,p0,p1,p2,p3,p4,p5,p6,p7,p8,p9,-⟩:=hins2 i hi
 subst he2
 have HAC:Hid ((D.u.fs[f].code[i].op=10/\dM D.u.fs D.u.fs[f].code[i].cls D.u.fs[f].code[i].name=g)∨(D.u.fs[f].code[i].op=9/\∃c,nE D.u.h D.u.fs[f].code[i].cls D.u.fs[f].code[i].name c/\(g:Int)=dM D.u.fs c D.u.fs[f].code[i].name)->pK D.u ⟨f,i,g⟩):=fun h=>⟨f,i,g,hf,hi,hg,rfl,h⟩
 clear hins hins2
 generalize D.u.fs[f].code[i]=x at *
 generalize D.u.fs[f].code.length=cl at *
 refine bJ W (by kernel_rfl) ?_
 repeat (go_big_quiet_step (fail))
 refine wpQuiet_nil ?_
 intro _ hw'
 obtain⟨o,rfl⟩:=hw'
 have H0:=Lib.hid o.h
 generalize o.u=W1 at *
 go_upto_region 4 with (fail)
 have hq0:Below W.heap.size W W1.drew:=H0.out.drew
 have q0:∀o:WB W,o.u.cell? ⟨b2,off2+i*10,none⟩=some (.int .i64 x.op):=fun o=>cell_below o.h p0
 have q1:∀o:WB W,o.u.cell? ⟨b2,off2+i*10+1,none⟩=some (.int .i64 x.dst):=fun o=>cell_below o.h p1
 have q2:∀o:WB W,o.u.cell? ⟨b2,off2+i*10+2,none⟩=some (.int .i64 x.a):=fun o=>cell_below o.h p2
 have q3:∀o:WB W,o.u.cell? ⟨b2,off2+i*10+3,none⟩=some (.int .i64 x.b):=fun o=>cell_below o.h p3
 have q4:∀o:WB W,o.u.cell? ⟨b2,off2+i*10+4,none⟩=some (.int .i64 x.n):=fun o=>cell_below o.h p4
 have q5:∀o:WB W,o.u.cell? ⟨b2,off2+i*10+5,none⟩=some (.string x.cls):=fun o=>cell_below o.h p5
 have q6:∀o:WB W,o.u.cell? ⟨b2,off2+i*10+6,none⟩=some (.string x.name):=fun o=>cell_below o.h p6
 have q7:∀o:WB W,o.u.cell? ⟨b2,off2+i*10+7,none⟩=some (.slice ga x.args.length gc):=fun o=>cell_below o.h p7
 have q8:∀o:WB W,o.u.cell? ⟨b2,off2+i*10+8,none⟩=some (.int .i64 x.goto):=fun o=>cell_below o.h p8
 have q9:∀o:WB W,o.u.cell? ⟨b2,off2+i*10+9,none⟩=some (.int .i64 x.aZ):=fun o=>cell_below o.h p9
 clear p0 p1 p2 p3 p4 p5 p6 p7 p8 p9
 refine dC (fun w'=>∃o:WB W,w' = o.u) (by kernel_rfl) ?_
 change bO _ _ _ _ _ _ _ _ W1.drew
 generalize W1.drew=V0 at *
 refine af 0 rfl (by kernel_rfl) (fun _ _ _ _ h=>h) ⟨⟨_,hq0⟩,rfl⟩ (fun K hK=>?_);go_simp;refine hK _ ?_;clear hK K
 refine af 1 rfl (by kernel_rfl) (fun _ _ _ _ h=>h) ⟨⟨_,hq0⟩,rfl⟩ (fun K hK=>?_);go_simp;refine hK _ ?_;clear hK K
 refine af 2 rfl (by kernel_rfl) (fun _ _ _ _ h=>h) ⟨⟨_,hq0⟩,rfl⟩ (fun K hK=>?_);go_simp;refine hK _ ?_;clear hK K
 refine af 3 rfl (by kernel_rfl) (fun _ _ _ _ h=>h) ⟨⟨_,hq0⟩,rfl⟩ (fun K hK=>?_);go_simp;refine hK _ ?_;clear hK K
 refine af 4 rfl (by kernel_rfl) (fun _ _ _ _ h=>h) ⟨⟨_,hq0⟩,rfl⟩ (fun K hK=>?_);go_simp;refine hK _ ?_;clear hK K
 refine af 5 rfl (by kernel_rfl) (fun _ _ _ _ h=>h) ⟨⟨_,hq0⟩,rfl⟩ (fun K hK=>?_);go_simp;refine hK _ ?_;clear hK K
 refine af 6 rfl (by kernel_rfl) (fun _ _ _ _ h=>h) ⟨⟨_,hq0⟩,rfl⟩ (fun K hK=>?_);go_simp;refine hK _ ?_;clear hK K
 refine af 7 rfl (by kernel_rfl) (fun _ _ _ _ h=>h) ⟨⟨_,hq0⟩,rfl⟩ (fun K hK=>?_);go_simp;refine hK _ ?_;clear hK K
 refine af 8 rfl (by kernel_rfl) (fun _ _ _ _ h=>h) ⟨⟨_,hq0⟩,rfl⟩ (fun K hK=>?_);go_simp;refine hK _ ?_;clear hK K
 refine af 9 rfl (by kernel_rfl) (fun _ _ _ _ h=>h) ⟨⟨_,hq0⟩,rfl⟩ (fun K hK=>?_);go_simp;refine hK _ ?_;clear hK K
 refine af 10 rfl (by kernel_rfl) (fun _ _ _ _ h=>h) ⟨⟨_,hq0⟩,rfl⟩ (fun K hK=>?_);go_simp;refine hK _ ?_;clear hK K
 refine af 11 rfl (by kernel_rfl) (fun _ _ _ _ h=>h) ⟨⟨_,hq0⟩,rfl⟩ (fun K hK=>?_);go_simp;refine hK _ ?_;clear hK K
 refine af 12 rfl (by kernel_rfl) (fun _ _ _ _ h=>h) ⟨⟨_,hq0⟩,rfl⟩ (fun K hK=>?_);go_simp;refine hK _ ?_;clear hK K
 refine af 13 rfl (by kernel_rfl) (fun _ _ _ _ h=>h) ⟨⟨_,hq0⟩,rfl⟩ (fun K hK=>?_);go_simp;refine hK _ ?_;clear hK K
 refine aP 14 rfl (by kernel_rfl) ?_
 go_wp2
 have hq1:Below W.heap.size W (V0.alloc bV):=hq0.trans ((av ..).mono hq0.size)
 have BZ:Hid (ah (V0.alloc bV) V0.heap.size _ 53):=aL ..
 refine⟨⟨⟨_,hq1⟩,rfl⟩,?_⟩
 refine aP 15 rfl (by kernel_rfl) ?_
 refine kR rfl rfl _ _ rfl V0.heap.size x ga gc rfl rfl _ BZ.out rfl ?_
 go_wp2
 have hq2:=bP hq1 hq0.size #[.int .i64 x.op,.int .i64 x.dst,.int .i64 x.a,.int .i64 x.b,.int .i64 x.n,.string x.cls,.string x.name,.slice ga x.args.length gc,.int .i64 x.goto,.int .i64 x.aZ]
 refine⟨⟨⟨_,hq2⟩,rfl⟩,?_⟩
 refine dh (by kernel_rfl) ?_ _
 have BI:=Lib.hid (BZ.out.setRow #[.int .i64 x.op,.int .i64 x.dst,.int .i64 x.a,.int .i64 x.b,.int .i64 x.n,.string x.cls,.string x.name,.slice ga x.args.length gc,.int .i64 x.goto,.int .i64 x.aZ])
 have H2:=Lib.hid hq2
 clear k0 k1 k2 k6 y0 y1 y2 q0 q1 q2 q3 q4 q5 q6 q7 q8 q9 hne hq0 hq1 hq2 BZ H0
 generalize (V0.alloc _).setRow _ _=W2 at *
 generalize V0.heap.size=n6 at *
 have S2:=Lib.hid (S1.out.below H2.out)
 have HX2:=Lib.hid (HX.out.below H2.out)
 have HC2:Hid (aF (mine D wr) wr W2):=mine.trans HCB.out (aF.of_below H2.out)
 clear S1 HX HCB H2
 have i0:=BI.out.cell 0 (by simp)
 have i5:=BI.out.cell 5 (by simp)
 have i6:=BI.out.cell 6 (by simp)
 have x2:=HX2.out.cell 2 (by simp)
 simp only[List.getElem_toArray,List.getElem_cons_zero,List.getElem_cons_succ]at i0 i5 i6 x2
 by_cases h10:x.op=10
 case pos =>
  have t10:(x.op==10)=true:=by simpa using h10
  go_upto_region 8 with (fail)
  obtain⟨z0,z1,z2,-,-,-,-,-,-,-⟩:=S2.out.cells
  have k0:∀o:WB W2,o.u.cell? ⟨D.R,0,none⟩=some (.slice D.ha D.u.h.length D.hc):=fun o=>cell_below o.h z0
  have k1:∀o:WB W2,o.u.cell? ⟨D.R,1,none⟩=some (.slice D.fa D.u.fs.length D.fc):=fun o=>cell_below o.h z1
  have k2:∀o:WB W2,o.u.cell? ⟨D.R,2,none⟩=some (.int .i64 D.u.main):=fun o=>cell_below o.h z2
  have k3:∀o:WB W2,o.u.cell? ⟨n6,5,none⟩=some (.string x.cls):=fun o=>cell_below o.h i5
  have k4:∀o:WB W2,o.u.cell? ⟨n6,6,none⟩=some (.string x.name):=fun o=>cell_below o.h i6
  have k5:∀o:WB W2,o.u.cell? ⟨n3,2,none⟩=some (.int .i64 (g:Int)):=fun o=>cell_below o.h x2
  have HFN:Hid (∀w1,Below W2.heap.size W2 w1->Calls Tryz.prog 34 #[.agg #[.slice D.ha D.u.h.length D.hc,.slice D.fa D.u.fs.length D.fc,.int .i64 D.u.main],.string x.cls,.string x.name] w1 (aj w1 (.int .i64 (dM D.u.fs x.cls x.name)))):=fun w1 hb=>by
   have k1:=S2.out.below hb
   exact FO D.u D.ha D.hc D.fa D.fc x.cls x.name w1 (k1.f.below k1.bk.hb) hfl
  have HAC2:Hid (dM D.u.fs x.cls x.name=g->pK D.u ⟨f,i,g⟩):=fun e=>HAC.out (.inl ⟨h10,e⟩)
  have hne:Nonempty (WB W2):=⟨⟨W2,Below.refl _ _⟩⟩
  clear z0 z1 z2 HAC
  rw[he]at HFN
  generalize dM D.u.fs x.cls x.name=z at *
  by_cases hz:z=(g:Int)
  case pos =>
   have HP:=Lib.hid (HAC2.out hz)
   subst hz
   clear HAC2
   refine bJ W2 (by kernel_rfl) ?_
   iterate 8 (go_big_quiet_step (fail))
   go_big_quiet_step ((go_at_call 34;rename_i o;exact(HFN.out _ o.h).mono (fun _ _ h=>aj.bu h)))
   repeat (go_big_quiet_step (fail))
   refine wpQuiet_nil ?_
   intro _ hw'
   obtain⟨o,rfl⟩:=hw'
   have H4:=Lib.hid o.h
   clear k0 k1 k2 k3 k4 k5 hne HFN
   go_wp2
   go_ret
   exact⟨0,rfl,fun _=>HP.out,S2.out.below H4.out,mine.trans HC2.out (aF.of_below H4.out)⟩
  case neg =>
   have tz:(z != (g:Int))=true:=by simpa using hz
   have tz2:(z==(g:Int))=false:=by simpa using hz
   refine bJ W2 (by kernel_rfl) ?_
   iterate 8 (go_big_quiet_step (fail))
   go_big_quiet_step ((go_at_call 34;rename_i o;exact(HFN.out _ o.h).mono (fun _ _ h=>aj.bu h)))
   repeat (go_big_quiet_step (fail))
   refine wpQuiet_nil ?_
   intro _ hw'
   obtain⟨o,rfl⟩:=hw'
   have H4:=Lib.hid o.h
   clear k0 k1 k2 k3 k4 k5 hne HFN
   go_wp2
   go_ret
   exact⟨20,rfl,fun e=>(by cases e),S2.out.below H4.out,mine.trans HC2.out (aF.of_below H4.out)⟩
 by_cases h9:x.op=9
 case neg =>
  have t10:(x.op==10)=false:=by simpa using h10
  have t9:(x.op==9)=false:=by simpa using h9
  go_wp2
  go_ret
  exact⟨12,rfl,fun e=>(by cases e),S2.out,HC2.out⟩
 case pos =>
  have t10:(x.op==10)=false:=by simpa using h10
  have t9:(x.op==9)=true:=by simpa using h9
  have n1:=S2.out.zo BI.out (by decide) (by decide)
  have n2:=S2.out.zo HX2.out (by decide) (by decide)
  have k3:∀o:aX D w W2,o.u.cell? ⟨n6,5,none⟩=some (.string x.cls):=fun o=>o.old i5 n1
  have k4:∀o:aX D w W2,o.u.cell? ⟨n6,6,none⟩=some (.string x.name):=fun o=>o.old i6 n1
  have k5:∀o:aX D w W2,o.u.cell? ⟨n3,2,none⟩=some (.int .i64 (g:Int)):=fun o=>o.old x2 n2
  have S3:=Lib.hid (S2.out.below (Below.refl _ W2).drew)
  have HC3:Hid (aF (mine D W2) W2 W2.drew):=aF.of_below (Below.refl _ W2).drew
  have HEX:=Lib.hid (y1a x.cls x.name S3.out HO.out)
  have HAC2:Hid ((∃c,nE D.u.h x.cls x.name c/\(g:Int)=dM D.u.fs c x.name)->pK D.u ⟨f,i,g⟩):=fun e=>HAC.out (.inr ⟨h9,e⟩)
  have hcw:=S3.out.cw HC3.out
  have hne:Nonempty (aX D w W2):=hcw.elim fun o _=>⟨o⟩
  clear HAC
  go_upto_region 11 with (fail)
  clear i0 i5 i6 x2
  refine dC (fun w'=>∃o:aX D w W2,w' = o.u) (by kernel_rfl) ?_
  change bO _ _ _ _ _ _ _ _ W2.drew
  generalize W2.drew=V2 at *
  refine af 0 rfl (by kernel_rfl) (fun _ _ _ _ h=>h) hcw (fun K hK=>?_);go_simp;refine hK _ ?_;clear hK K
  refine af 1 rfl (by kernel_rfl) (fun _ _ _ _ h=>h) hcw (fun K hK=>?_);go_simp;refine hK _ ?_;clear hK K
  refine af 2 rfl (by kernel_rfl) (fun _ _ _ _ h=>h) hcw (fun K hK=>?_);go_simp;refine hK _ ?_;clear hK K
  refine af 3 rfl (by kernel_rfl) (fun _ _ _ _ h=>h) hcw (fun K hK=>?_);go_simp;refine hK _ ?_;clear hK K
  refine af 4 rfl (by kernel_rfl) (fun _ _ _ _ h=>h) hcw (fun K hK=>?_);go_simp;refine hK _ ?_;clear hK K
  refine af 5 rfl (by kernel_rfl) (fun _ _ _ _ h=>h) hcw (fun K hK=>?_);go_simp;refine hK _ ?_;clear hK K
  refine af 7 rfl (by kernel_rfl) (fun _ _ _ _ h=>h) hcw (fun K hK=>?_);go_simp;refine hK _ ?_;clear hK K
  refine af 8 rfl (by kernel_rfl) (fun _ _ _ _ h=>h) hcw (fun K hK=>?_);go_simp;refine hK _ ?_;clear hK K
  refine aP 6 rfl (by kernel_rfl) ?_
  go_wp2_with fail
  refine HEX.out.mono ?_
  rintro e w4 ⟨gm,G,rfl,hmp,htg,hbm,hch⟩
  have S4:=Lib.hid hbm
  have HC4:=Lib.hid (mine.trans HC3.out hch)
  have HM4:=Lib.hid hmp
  clear hbm hch hmp HEX S3 HC3
  have hcw4:=S4.out.cw HC4.out
  go_wp2
  refine⟨hcw4,?_⟩
  obtain⟨n4,hm4⟩:=HM4.out
  have hlk:=hm4.lookup j5 jG (lW w4) (g:Int) false
  cases hG:G (g:Int)with
  |none =>
   rw[hG]at hlk
   have hlk2:(Instr.lookup 105 (.map (some gm)) (.int .i64 (g:Int)) false).run Tryz.prog w4 = .ok (.bool false) w4:=hlk
   clear hlk
   refine aP 9 rfl (by kernel_rfl) ?_
   go_wp2
   refine⟨hcw4,?_⟩
   refine aP 10 rfl (by kernel_rfl) ?_
   go_wp2
   refine⟨hcw4,?_⟩
   refine dh (by kernel_rfl) ?_ _
   clear k3 k4 k5 hne hcw hcw4 hlk2 hm4
   go_wp2
   go_ret
   exact⟨20,rfl,fun e=>(by cases e),S4.out,mine.trans HC2.out HC4.out⟩
  |some v =>
   obtain⟨rfl,hcc⟩:=htg _ _ hG
   rw[hG]at hlk
   have hlk2:(Instr.lookup 105 (.map (some gm)) (.int .i64 (g:Int)) false).run Tryz.prog w4 = .ok (.bool true) w4:=hlk
   have HP:=Lib.hid (HAC2.out hcc)
   clear hlk HAC2 hcc htg
   refine aP 9 rfl (by kernel_rfl) ?_
   go_wp2
   refine⟨hcw4,?_⟩
   refine aP 10 rfl (by kernel_rfl) ?_
   go_wp2
   refine⟨hcw4,?_⟩
   refine dh (by kernel_rfl) ?_ _
   clear k3 k4 k5 hne hcw hcw4 hlk2 hm4
   go_wp2
   go_ret
   exact⟨0,rfl,fun _=>HP.out,S4.out,mine.trans HC2.out HC4.out⟩
end Go.Proofs.YtjnbddedmbhiaaaGreatDoor
