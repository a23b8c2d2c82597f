/-
  The reference's up.
  The reference's overrides.
  The reference's fields.
-/
import Derived.Test.YtffcklfigpmlgaaGreatDoorVB
namespace Go.Proofs.YtffcklfigpmlgaaGreatDoor
open Go.RowKit Go.Unit0

set_option maxRecDepth 100000 in
theorem slice59l (a:Option Addr) (n cap m:Nat) (hm:m≤n) (hc:n≤cap):∃ a',(∀ w:World,(Instr.slice 35 (.slice a n cap) (some (.int .i64 (m:Int))) none none).run Tryz.prog w = .ok (.slice a' (n - m) (cap - m)) w)∧∀ (w:World) (l:List ByteArray),l.length=n→StrsAt w a l→StrsAt w a' (l.drop m):=by
 refine ⟨if cap=m then a else a.map (·.add m),fun w=>?_,fun w l hl h=>?_⟩
 ·have hs:(sizeOf (Tryz.prog.elem 35)).run Tryz.prog w = .ok 1 w:=by kernel_rfl
  rw [run_slice_l w 35 a n cap Tryz.underlying35 .i64 (m:Int) (by omega) (by omega),hs]
  simp [Result.andThen,sliced]
 ·intro k hk
  rw [List.length_drop] at hk
  obtain ⟨b,off,rfl,hcell⟩:=h (m + k) (by omega)
  refine ⟨b,off + m,?_,?_⟩
  ·rw [if_neg (by omega)];simp [addr_add]
  ·rw [Nat.add_assoc,hcell,List.getElem_drop]
def ListPost (l:List Str) (w:World) (e:Ending) (w':World):Prop :=
 Below w.heap.size w w'∧∃ a c,e = .returned (.slice a l.length c)∧StrsAt w' a l
set_option maxHeartbeats 1000000 in
theorem up292 (h:List Cls) (s:Str) (a:Option Addr) (c:Nat) (w:World) (hc:ClssAt w a h) (hl:h.length≤100000) :
 Calls Tryz.prog 411 #[.agg #[.slice a h.length c],.string s] w (ListPost (upP h s) w):=by
 have HB:=Lib.hid (one_below w (.cells #[.slice a h.length c] 24))
 have HX:Hid (Blk (w.alloc (.cells #[.slice a h.length c] 24)) w.heap.size #[.slice a h.length c] 24):=blk_new ..
 have HC:=Lib.hid (hc.below HB.out)
 clear hc
 go_enter Tryz.func411,Tryz.ntmps411
 go_upto_region 1 with (fail)
 generalize hW:w.alloc (.cells #[.slice a h.length c] 24)=W at *
 clear hW
 have x0:=HX.out.cell 0 (by simp)
 go_wp2_with fail
 refine (supers132 h s a c _ HC.out hl).mono ?_
 rintro e w1 ⟨hb1,oa,oc,rfl,hown⟩
 have OW:=Lib.hid (owns_strs' hown)
 have HB1:=Lib.hid (HB.out.trans (hb1.mono HB.out.size))
 clear hown x0 hb1 HX HB
 have HU:Hid (upP h s=(supers h s).drop 1):=rfl
 generalize supers h s=L at *
 by_cases h0:L.length=0
 ·have t1:((L.length:Int) == 0)=true:=by simp [h0]
  have HL:Hid (upP h s = []):=by show _=_;rw [HU.out,List.eq_nil_of_length_eq_zero h0];rfl
  clear h0
  go_wp2
  go_ret
  exact ⟨HB1.out,none,0,by rw [HL.out];rfl,by rw [HL.out];exact fun k hk=>absurd hk (by simp)⟩
 ·have t1:((L.length:Int) == 0)=false:=by rw [beq_eq_false_iff_ne];omega
  obtain ⟨a',hsl,hdr⟩:=slice59l oa L.length oc 1 (by omega) OW.out.1
  have HDR:=Lib.hid hdr;clear hdr
  have hsl1:∀ w:World,(Instr.slice 35 (.slice oa L.length oc) (some (.int .i64 1)) none none).run Tryz.prog w = .ok (.slice a' (L.length - 1) (oc - 1)) w:=hsl
  clear hsl h0
  go_wp2
  go_ret
  exact ⟨HB1.out,a',oc - 1,by rw [HU.out];simp,by rw [HU.out];exact HDR.out _ _ rfl OW.out.2⟩
end Go.Proofs.YtffcklfigpmlgaaGreatDoor
namespace Go.Proofs.YtffcklfigpmlgaaGreatDoor
open Go.RowKit Go.Unit0

def condO (g m:Sgn):Bool:=eqB m.name g.name && (m.stat || g.stat || !sameSig m g)
theorem over_hit {h:List Cls} {g:Sgn} {L:List Str} {k:Nat} (hk:k < L.length) {c:Cls} (e:findC h L[k]=some c) {q:Nat} (hq:q < c.methods.length) (e2:condO g c.methods[q]=true):overF h g L=true:=by
 unfold overF
 rw [List.any_eq_true]
 refine ⟨L[k],List.getElem_mem hk,?_⟩
 rw [e]
 show c.methods.any _=true
 rw [List.any_eq_true]
 exact ⟨_,List.getElem_mem hq,e2⟩
theorem over_step {h:List Cls} {g:Sgn} {L:List Str} {k:Nat} (hk:k < L.length) {c:Cls} (e:findC h L[k]=some c) (e2:c.methods.any (condO g)=false):overF h g (L.drop k)=overF h g (L.drop (k + 1)):=by
 rw [List.drop_eq_getElem_cons hk]
 unfold overF
 rw [List.any_cons,e]
 show (c.methods.any (condO g) || _)=_
 rw [e2,Bool.false_or]
theorem over_end {h:List Cls} {g:Sgn} {L:List Str} {k:Nat} (hk:L.length≤k):overF h g (L.drop k)=false:=by
 rw [List.drop_of_length_le hk];rfl
theorem any_step {α:Type} {f:α→Bool} {l:List α} {k:Nat} (hk:k < l.length) (e:f l[k]=false):(l.drop k).any f=(l.drop (k + 1)).any f:=by
 rw [List.drop_eq_getElem_cons hk,List.any_cons,e,Bool.false_or]
theorem any_end {α:Type} {f:α→Bool} {l:List α} {k:Nat} (hk:l.length≤k):(l.drop k).any f=false:=by
 rw [List.drop_of_length_le hk];rfl
structure OW (h:List Cls) (g:Sgn) (a:Option Addr) (c:Nat) (pa:Option Addr) (pc:Nat) (L:List Str) (oa:Option Addr) (w wr:World):Prop where
 hb:Below w.heap.size w wr
 bx:Blk wr w.heap.size #[.slice a h.length c] 24
 b2:Blk wr (w.heap.size + 1) #[.string g.name,.bool g.stat,.slice pa g.params.length pc,.string g.result] 87
 sp:StrsAt wr pa g.params
 st:StrsAt wr oa L
theorem OW.below {h:List Cls} {g:Sgn} {a:Option Addr} {c:Nat} {pa:Option Addr} {pc:Nat} {L:List Str} {oa:Option Addr} {w wr w':World} (x:OW h g a c pa pc L oa w wr) (hb:Below wr.heap.size wr w'):OW h g a c pa pc L oa w w' :=
 ⟨x.hb.trans (hb.mono x.hb.size),x.bx.below hb,x.b2.below hb,x.sp.below hb,x.st.below hb⟩
set_option maxRecDepth 100000 in
set_option maxHeartbeats 8000000 in
theorem overrides277 (h:List Cls) (s:Str) (g:Sgn) (a:Option Addr) (c:Nat) (pa:Option Addr) (pc:Nat) (w:World) (hc:ClssAt w a h) (hp:StrsAt w pa g.params) (hl:h.length≤100000) (hm:∀ x ∈ h,x.methods.length≤100000) (hmp:∀ x ∈ h,∀ y ∈ x.methods,y.params.length≤100000) :
 Calls Tryz.prog 367 #[.agg #[.slice a h.length c],.string s,sgV g pa pc] w (Ret w (.bool (overF h g (upP h s)))):=by
 unfold sgV
 have HM:=Lib.hid hm;clear hm
 have HMP:=Lib.hid hmp;clear hmp
 have HC0:=Lib.hid hc;clear hc
 have HB:=Lib.hid (two_below w (.cells #[.slice a h.length c] 24) (.cells #[.string g.name,.bool g.stat,.slice pa g.params.length pc,.string g.result] 87))
 have HX:Hid (Blk ((w.alloc (.cells #[.slice a h.length c] 24)).alloc (.cells #[.string g.name,.bool g.stat,.slice pa g.params.length pc,.string g.result] 87)) w.heap.size #[.slice a h.length c] 24):=(blk_new ..).below (one_below ..)
 have HZ:Hid (Blk ((w.alloc (.cells #[.slice a h.length c] 24)).alloc (.cells #[.string g.name,.bool g.stat,.slice pa g.params.length pc,.string g.result] 87)) (w.heap.size + 1) #[.string g.name,.bool g.stat,.slice pa g.params.length pc,.string g.result] 87):=blk_new2 ..
 have HP:=Lib.hid (hp.below HB.out);clear hp
 go_enter Tryz.func367,Tryz.ntmps367
 go_upto_region 1 with (fail)
 generalize hW:(w.alloc (.cells #[.slice a h.length c] 24)).alloc (.cells #[.string g.name,.bool g.stat,.slice pa g.params.length pc,.string g.result] 87)=W at *
 clear hW
 have x0:=HX.out.cell 0 (by simp)
 go_wp2_with fail
 refine (up292 h s a c _ (HC0.out.below HB.out) hl).mono ?_
 rintro e w1 ⟨hb1,oa,oc,rfl,hat⟩
 have S1:Hid (OW h g a c pa pc (upP h s) oa w w1):=⟨HB.out.trans (hb1.mono HB.out.size),HX.out.below hb1,HZ.out.below hb1,HP.out.below hb1,hat⟩
 clear hat hb1 x0 HB HX HZ HP
 have hL:(upP h s).length≤h.length:=by have:=supers_len h s;unfold upP;rw [List.length_drop];omega
 have HAT:Hid (∀ k (hk:k < (upP h s).length),∃ j,∃ hj:j < h.length,findI h (upP h s)[k]=j∧findC h (upP h s)[k]=some h[j]):=fun k hk=>by
  have e:(upP h s)[k]=(supers h s)[1 + k]'(by unfold upP at hk;rw [List.length_drop] at hk;omega):=List.getElem_drop ..
  rw [e];exact chain_at _
 generalize upP h s=L at *
 go_wp2
 go_loopw [8] (fun i wr=>∃ k:Nat,k≤L.length∧i = .int .i64 k∧Hid (OW h g a c pa pc L oa w wr)∧Hid (overF h g (L.drop k)=overF h g L)) (fun i _=>L.length - (intOf i).toNat)
 case atStart=>exact ⟨0,Nat.zero_le _,rfl,S1.out,rfl⟩
 case round =>
  clear S1
  obtain ⟨k,hk,rfl,S,HI⟩:=hrel
  by_cases hlt:k < L.length
  case neg =>
   have HF:Hid (overF h g L=false):=by show _=_;rw [← HI.out,over_end (by omega)]
   go_wp2
   go_ret
   exact ⟨ret_bool HF.out.symm,S.out.hb⟩
  obtain ⟨j,hj,f1,f2⟩:=HAT.out k hlt
  obtain ⟨ob,oo,rfl,l0⟩:=S.out.st k hlt
  have x0:=S.out.bx.cell 0 (by simp)
  go_upto_region 5 with (fail)
  go_cut [9] (fun s wx=>∃ gb,s = .pointer (some ⟨gb,0,none⟩)∧Hid (OW h g a c pa pc L (some ⟨ob,oo,none⟩) w wx)∧Hid (∃ fa fc ma mc,Blk wx gb #[.string h[j].name,.string h[j].super,.slice fa h[j].fields.length fc,.slice ma h[j].methods.length mc] 85∧FldsAt w fa h[j].fields∧SgnsAt w ma h[j].methods))
  case first =>
   have hC:=HC0.out.below S.out.hb
   have HCW:=Lib.hid (HC0.out j hj)
   obtain ⟨b,off,fa,fc,ma,mc,rfl,m0,m1,m2,m3,hf,hs⟩:=HC0.out j hj
   have HFS:Hid (FldsAt w fa h[j].fields∧SgnsAt w ma h[j].methods):=⟨hf,hs⟩
   clear hf hs HCW
   have hne:Nonempty (WB wr):=⟨⟨wr,Below.refl _ _⟩⟩
   have k0:∀ o:WB wr,o.u.cell? ⟨w.heap.size,0,none⟩=some (.slice (some ⟨b,off,none⟩) h.length c):=fun o=>cell_below o.h x0
   have k1:∀ o:WB wr,o.u.cell? ⟨ob,oo + k,none⟩=some (.string L[k]):=fun o=>cell_below o.h l0
   have k2:∀ o:WB wr,o.u.cell? ⟨b,off + j * 4,none⟩=some (.string h[j].name):=fun o=>cell_below o.h (cell_below S.out.hb m0)
   have k3:∀ o:WB wr,o.u.cell? ⟨b,off + j * 4 + 1,none⟩=some (.string h[j].super):=fun o=>cell_below o.h (cell_below S.out.hb m1)
   have k4:∀ o:WB wr,o.u.cell? ⟨b,off + j * 4 + 2,none⟩=some (.slice fa h[j].fields.length fc):=fun o=>cell_below o.h (cell_below S.out.hb m2)
   have k5:∀ o:WB wr,o.u.cell? ⟨b,off + j * 4 + 3,none⟩=some (.slice ma h[j].methods.length mc):=fun o=>cell_below o.h (cell_below S.out.hb m3)
   have HFD:Hid (∀ o:WB wr,Calls Tryz.prog 122 #[.agg #[.slice (some ⟨b,off,none⟩) h.length c],.string L[k]] o.u (Ret o.u (.int .i64 j))):=fun o=>by
    have:=find184 h L[k] (some ⟨b,off,none⟩) c o.u ((HC0.out.below S.out.hb).below o.h) (by omega)
    rw [f1] at this;exact this
   clear m0 m1 m2 m3 x0 l0 f1 f2 hC
   generalize h[j]=x at *
   generalize L[k]=n at *
   refine wp_region_Y (fun w'=>∃ o:WB wr,w' = o.u) (by kernel_rfl) ?_
   change wpAnyY _ _ _ _ _ _ _ _ wr.drew
   have hcur:Below wr.heap.size wr wr.drew:=(Below.refl _ _).drew
   refine wpAnyY_take 0 rfl (by kernel_rfl) (fun _ _ _ _ h=>h) ⟨⟨_,hcur⟩,rfl⟩ (fun K hK=>?_);go_simp;refine hK _ ?_;clear hK K
   refine wpAnyY_take 1 rfl (by kernel_rfl) (fun _ _ _ _ h=>h) ⟨⟨_,hcur⟩,rfl⟩ (fun K hK=>?_);go_simp;refine hK _ ?_;clear hK K
   refine wpAnyY_take 2 rfl (by kernel_rfl) (fun _ _ _ _ h=>h) ⟨⟨_,hcur⟩,rfl⟩ (fun K hK=>?_);go_simp;refine hK _ ?_;clear hK K
   refine wpAnyY_take 3 rfl (by kernel_rfl) (fun _ _ _ _ h=>h) ⟨⟨_,hcur⟩,rfl⟩ (fun K hK=>?_);go_simp;refine hK _ ?_;clear hK K
   refine wpAnyY_take 4 rfl (by kernel_rfl) (fun _ _ _ _ h=>h) ⟨⟨_,hcur⟩,rfl⟩ (fun K hK=>?_);go_simp;refine hK _ ?_;clear hK K
   refine wpAnyY_take 5 rfl (by kernel_rfl) (fun _ _ _ _ h=>h) ⟨⟨_,hcur⟩,rfl⟩ (fun K hK=>?_);go_simp;refine hK _ ?_;clear hK K
   refine wpAnyY_take 6 rfl (by kernel_rfl) (fun _ _ _ _ h=>h) ⟨⟨_,hcur⟩,rfl⟩ (fun K hK=>?_);go_simp;refine hK _ ?_;clear hK K
   refine wpAnyY_two 7 10 rfl rfl (by kernel_rfl) ?_ ?_
   ·go_wp2_with fail
    refine (HFD.out ⟨_,hcur⟩).mono ?_
    rintro e w2 ⟨rfl,hb2⟩
    have hcur2:Below wr.heap.size wr w2:=hcur.trans (hb2.mono hcur.size)
    go_wp2
    refine ⟨⟨⟨_,hcur2⟩,rfl⟩,?_⟩
    refine wpAnyY_take 8 rfl (by kernel_rfl) (fun _ _ _ _ h=>h) ⟨⟨_,hcur2⟩,rfl⟩ (fun K hK=>?_);go_simp;refine hK _ ?_;clear hK K
    refine wpAnyY_take 9 rfl (by kernel_rfl) (fun _ _ _ _ h=>h) ⟨⟨_,hcur2⟩,rfl⟩ (fun K hK=>?_);go_simp;refine hK _ ?_;clear hK K
    have hcur3:Below wr.heap.size wr (w2.alloc (.cells #[.string ⟨#[]⟩,.string ⟨#[]⟩,.slice none 0 0,.slice none 0 0] 85)):=hcur2.trans ((one_below ..).mono hcur2.size)
    have B3:Hid (Blk (w2.alloc (.cells #[.string ⟨#[]⟩,.string ⟨#[]⟩,.slice none 0 0,.slice none 0 0] 85)) w2.heap.size #[.string ⟨#[]⟩,.string ⟨#[]⟩,.slice none 0 0,.slice none 0 0] 85):=blk_new ..
    refine wpAnyY_one 10 rfl (by kernel_rfl) ?_
    go_wp2
    refine ⟨⟨⟨_,hcur3⟩,rfl⟩,?_⟩
    have hz2:=hcur2.size
    have hcur4:Below wr.heap.size wr ((w2.alloc (.cells #[.string ⟨#[]⟩,.string ⟨#[]⟩,.slice none 0 0,.slice none 0 0] 85)).setRow w2.heap.size #[.string x.name,.string x.super,.slice fa x.fields.length fc,.slice ma x.methods.length mc]):=below_setRow hcur3 hz2 _
    refine wpAnyY_one 11 rfl (by kernel_rfl) ?_
    go_wp2_with (refine store111 rfl _ _ rfl w2.heap.size _ _ _ _ _ _ _ _ rfl rfl _ B3.out rfl ?_)
    refine ⟨⟨⟨_,hcur4⟩,rfl⟩,?_⟩
    refine wpAnyY_done (by kernel_rfl) ?_ _
    go_wp2
    go_meet
    exact ⟨w2.heap.size,rfl,S.out.below hcur4,fa,fc,ma,mc,B3.out.setRow _,HFS.out.1,HFS.out.2⟩
   ·go_wp2
    have hcur2:Below wr.heap.size wr (wr.drew.alloc (.cells #[.string ⟨#[]⟩,.string ⟨#[]⟩,.slice none 0 0,.slice none 0 0] 85)):=hcur.trans ((one_below ..).mono hcur.size)
    have B2:Hid (Blk (wr.drew.alloc (.cells #[.string ⟨#[]⟩,.string ⟨#[]⟩,.slice none 0 0,.slice none 0 0] 85)) wr.drew.heap.size #[.string ⟨#[]⟩,.string ⟨#[]⟩,.slice none 0 0,.slice none 0 0] 85):=blk_new ..
    refine ⟨⟨⟨_,hcur2⟩,rfl⟩,?_⟩
    refine wpAnyY_one 7 rfl (by kernel_rfl) ?_
    go_wp2_with fail
    refine (HFD.out ⟨_,hcur2⟩).mono ?_
    rintro e w3 ⟨rfl,hb3⟩
    have hcur3:Below wr.heap.size wr w3:=hcur2.trans (hb3.mono hcur2.size)
    have B3:=Lib.hid (B2.out.below hb3)
    go_wp2
    refine ⟨⟨⟨_,hcur3⟩,rfl⟩,?_⟩
    refine wpAnyY_take 8 rfl (by kernel_rfl) (fun _ _ _ _ h=>h) ⟨⟨_,hcur3⟩,rfl⟩ (fun K hK=>?_);go_simp;refine hK _ ?_;clear hK K
    refine wpAnyY_take 9 rfl (by kernel_rfl) (fun _ _ _ _ h=>h) ⟨⟨_,hcur3⟩,rfl⟩ (fun K hK=>?_);go_simp;refine hK _ ?_;clear hK K
    have hcur4:Below wr.heap.size wr (w3.setRow wr.drew.heap.size #[.string x.name,.string x.super,.slice fa x.fields.length fc,.slice ma x.methods.length mc]):=below_setRow hcur3 (Nat.le_refl _) _
    refine wpAnyY_one 11 rfl (by kernel_rfl) ?_
    go_wp2_with (refine store111 rfl _ _ rfl wr.drew.heap.size _ _ _ _ _ _ _ _ rfl rfl _ B3.out rfl ?_)
    refine ⟨⟨⟨_,hcur4⟩,rfl⟩,?_⟩
    refine wpAnyY_done (by kernel_rfl) ?_ _
    go_wp2
    go_meet
    exact ⟨wr.drew.heap.size,rfl,S.out.below hcur4,fa,fc,ma,mc,B3.out.setRow _,HFS.out.1,HFS.out.2⟩
  case rest =>
   obtain ⟨gb,rfl,S2,B2⟩:=hcut
   obtain ⟨fa,fc,ma,mc,B2,hf,hs⟩:=B2.out
   have HS:=Lib.hid hs
   have B:=Lib.hid B2
   clear hf hs B2 S x0 l0
   have HMX:h[j].methods.length≤100000:=HM.out _ (List.getElem_mem hj)
   have HMY:Hid (∀ y ∈ h[j].methods,y.params.length≤100000):=HMP.out _ (List.getElem_mem hj)
   have HH:Hid (∀ q (hq:q < h[j].methods.length),condO g h[j].methods[q]=true→overF h g L=true):=fun q hq e=>over_hit hlt f2 hq e
   have HN:Hid (h[j].methods.any (condO g)=false→overF h g (L.drop (k + 1))=overF h g L):=fun e=>by rw [← HI.out,over_step hlt f2 e]
   clear f1 f2 HI
   generalize h[j]=x at *
   go_wp2
   obtain ⟨wo,rfl⟩:∃ wo:World,wo=wc:=⟨_,rfl⟩
   go_loopw [10] (fun i wr=>∃ q:Nat,q≤x.methods.length∧i = .int .i64 q∧Hid ((x.methods.drop q).any (condO g)=x.methods.any (condO g))∧Hid (OW h g a c pa pc L (some ⟨ob,oo,none⟩) w wr)∧Hid (Blk wr gb #[.string x.name,.string x.super,.slice fa x.fields.length fc,.slice ma x.methods.length mc] 85)) (fun i _=>x.methods.length - (intOf i).toNat)
   case atStart=>exact ⟨0,Nat.zero_le _,rfl,rfl,S2.out,B.out⟩
   case round =>
    clear S2 B
    obtain ⟨q,hq,rfl,HI,S,B⟩:=hrel
    have y2:=B.out.cell 3 (by simp)
    simp at y2
    by_cases hql:q < x.methods.length
    case neg =>
     have HNN:=Lib.hid (HN.out (by rw [← HI.out,any_end (by omega)]))
     go_wp2
     go_roundw
     case rel=>exact ⟨k + 1,by omega,by go_num,S.out,HNN.out⟩
     case measure=>simp [intOf];omega
    obtain ⟨b,off,qa,qc,rfl,m0,m1,m2,m3,hst⟩:=HS.out.below S.out.hb q hql
    have HST:=Lib.hid hst;clear hst
    have HT:=Lib.hid (HH.out q hql)
    have HMI:=Lib.hid (@any_step _ (condO g) x.methods q hql)
    have hpl:=HMY.out _ (List.getElem_mem hql)
    generalize x.methods[q]=y at *
    have z0:=S.out.b2.cell 0 (by simp)
    have z1:=S.out.b2.cell 1 (by simp)
    have z2:=S.out.b2.cell 2 (by simp)
    have z3:=S.out.b2.cell 3 (by simp)
    simp at z0 z1 z2 z3
    have HCO:Hid (condO g y=((y.name.toList == g.name.toList) && (y.stat || g.stat || !sameSig y g))):=rfl
    have HSS:Hid (∀ o:WB wr,Calls Tryz.prog 412 #[.agg #[.string y.name,.bool y.stat,.slice qa y.params.length qc,.string y.result],.agg #[.string g.name,.bool g.stat,.slice pa g.params.length pc,.string g.result]] o.u (Ret o.u (.bool (sameSig y g)))):=fun o =>
     sameSig293 y g qa qc pa pc o.u (HST.out.below o.h) (S.out.sp.below o.h) hpl
    have hne:Nonempty (WB wr):=⟨⟨wr,Below.refl _ _⟩⟩
    have k0:∀ o:WB wr,o.u.cell? ⟨gb,3,none⟩=some (.slice (some ⟨b,off,none⟩) x.methods.length mc):=fun o=>cell_below o.h y2
    have k1:∀ o:WB wr,o.u.cell? ⟨b,off + q * 4,none⟩=some (.string y.name):=fun o=>cell_below o.h m0
    have k2:∀ o:WB wr,o.u.cell? ⟨b,off + q * 4 + 1,none⟩=some (.bool y.stat):=fun o=>cell_below o.h m1
    have k3:∀ o:WB wr,o.u.cell? ⟨b,off + q * 4 + 2,none⟩=some (.slice qa y.params.length qc):=fun o=>cell_below o.h m2
    have k4:∀ o:WB wr,o.u.cell? ⟨b,off + q * 4 + 3,none⟩=some (.string y.result):=fun o=>cell_below o.h m3
    have k5:∀ o:WB wr,o.u.cell? ⟨w.heap.size + 1,0,none⟩=some (.string g.name):=fun o=>cell_below o.h z0
    have k6:∀ o:WB wr,o.u.cell? ⟨w.heap.size + 1,1,none⟩=some (.bool g.stat):=fun o=>cell_below o.h z1
    have k7:∀ o:WB wr,o.u.cell? ⟨w.heap.size + 1,2,none⟩=some (.slice pa g.params.length pc):=fun o=>cell_below o.h z2
    have k8:∀ o:WB wr,o.u.cell? ⟨w.heap.size + 1,3,none⟩=some (.string g.result):=fun o=>cell_below o.h z3
    clear m1 m2 m3 z0 z1 z2 z3
    generalize y.stat=by1 at *
    generalize g.stat=by2 at *
    generalize sameSig y g=by3 at *
    cases hn:(y.name.toList == g.name.toList) <;> cases by1 <;> cases by2 <;> cases by3
    all_goals
     rw [hn] at HCO
     go_upto_region 9 with (fail)
     refine wp_region_WB wr (by kernel_rfl) ?_
     repeat (go_big_quiet_step ((rename_i o;exact (HSS.out o).mono (fun _ _ h=>Ret.inB h))))
     refine wpQuiet_nil ?_
     intro _ hw'
     obtain ⟨o,rfl⟩:=hw'
     have S':=Lib.hid (S.out.below o.h)
     have B':=Lib.hid (B.out.below o.h)
     clear k0 k1 k2 k3 k4 k5 k6 k7 k8
     first
     | (have HV:Hid (condO g y=false):=HCO.out
        have HNN:=Lib.hid (HMI.out HV.out)
        go_wp2
        go_roundw
        case rel=>exact ⟨q + 1,by omega,by go_num,by show _=_;rw [← HNN.out];exact HI.out,S'.out,B'.out⟩
        case measure=>simp [intOf];omega)
     | (have HV:Hid (condO g y=true):=HCO.out
        have HF:=Lib.hid (HT.out HV.out)
        go_wp2
        go_ret
        exact ⟨ret_bool HF.out.symm,S'.out.hb⟩)
end Go.Proofs.YtffcklfigpmlgaaGreatDoor
namespace Go.Proofs.YtffcklfigpmlgaaGreatDoor
open Go.RowKit Go.Unit0

def fV:Option (Str × Fld)→Value
 | none=>.tuple #[.string ⟨#[]⟩,.string ⟨#[]⟩,.bool false]
 | some (x,g)=>.tuple #[.string x,.string g.type,.bool true]
theorem FieldPost.ret {r:Option (Str × Fld)} {w w':World} {e:Ending} (h:FieldPost r w e w'):Ret w (fV r) e w':=by
 obtain ⟨hb,⟨rfl,rfl⟩ | ⟨x,g,rfl,rfl⟩⟩:=h
 ·exact ⟨rfl,hb⟩
 ·exact ⟨rfl,hb⟩
theorem fV_ex (r:Option (Str × Fld)):∃ s t,fV r = .tuple #[.string s,.string t,.bool r.isSome]:=by
 cases r with
 | none=>exact ⟨_,_,rfl⟩
 | some x=>exact ⟨_,_,rfl⟩
def namesF (l:List Fld):List Str:=l.map (·.name)
theorem fields_end {h:List Cls} {sup:Str} {l:List Fld} {j:Nat} (hj:l.length≤j):fieldsE identB h sup (namesF (l.take j)) (l.drop j)=0:=by
 rw [List.drop_of_length_le hj];rfl
theorem dup_of {l:List Fld} {j k:Nat} (hk:k < l.length) (hkj:k < j) {s:Str} (e:(l[k].name.toList == s.toList)=true):dupF (namesF (l.take j)) s=true:=by
 unfold dupF namesF
 rw [List.any_eq_true]
 refine ⟨l[k].name,List.mem_map.2 ⟨l[k],?_,rfl⟩,e⟩
 rw [List.mem_take_iff_getElem]
 exact ⟨k,by omega,rfl⟩
theorem dup_not {l:List Fld} {j:Nat} {s:Str} (e:∀ k (hk:k < l.length),k < j→(l[k].name.toList == s.toList)=false):dupF (namesF (l.take j)) s=false:=by
 unfold dupF namesF
 rw [List.any_eq_false]
 intro x hx
 obtain ⟨f,hf,rfl⟩:=List.mem_map.1 hx
 rw [List.mem_take_iff_getElem] at hf
 obtain ⟨k,hk,rfl⟩:=hf
 have:=e k (by omega) (by omega)
 unfold eqB
 rw [this];simp
theorem fields_at {h:List Cls} {sup:Str} {l:List Fld} {j:Nat} (hj:j < l.length):fieldsE identB h sup (namesF (l.take j)) (l.drop j) =
 if identB l[j].name=false then 5 else if typeB h l[j].type=false then 8 else if dupF (namesF (l.take j)) l[j].name=true then 7 else
 if (fieldP h sup l[j].name).isSome && !emptyB sup then 7 else fieldsE identB h sup (namesF (l.take (j + 1))) (l.drop (j + 1)):=by
 rw [List.drop_eq_getElem_cons hj]
 have e:namesF (l.take (j + 1))=namesF (l.take j) ++ [l[j].name]:=by unfold namesF;rw [List.take_succ_eq_append_getElem hj,List.map_append];rfl
 rw [e]
 rfl
structure HX (h:List Cls) (a:Option Addr) (c:Nat) (w wr:World):Prop where
 hb:Below w.heap.size w wr
 b1:Blk wr w.heap.size #[.slice a h.length c] 24
 hc:ClssAt wr a h
theorem HX.below {h:List Cls} {a:Option Addr} {c:Nat} {w wr w':World} (x:HX h a c w wr) (hb:Below wr.heap.size wr w'):HX h a c w w' :=
 ⟨x.hb.trans (hb.mono x.hb.size),x.b1.below hb,x.hc.below hb⟩
set_option maxRecDepth 100000 in
set_option maxHeartbeats 8000000 in
theorem fields245 (h:List Cls) (i:Nat) (hi:i < h.length) (a:Option Addr) (c:Nat) (w:World) (hc:ClssAt w a h) (hl:h.length≤100000) (hm:∀ x ∈ h,x.fields.length≤100000) :
 Calls Tryz.prog 293 #[.agg #[.slice a h.length c],.int .i64 i] w (Ret w (.int .i64 (fieldsE identB h h[i].super [] h[i].fields))):=by
 have HM:=Lib.hid hm;clear hm
 have HB:=one_below w (.cells #[.slice a h.length c] 24)
 have S0:Hid (HX h a c w (w.alloc (.cells #[.slice a h.length c] 24))):=⟨HB,blk_new ..,hc.below HB⟩
 have hfl:=HM.out _ (List.getElem_mem hi)
 obtain ⟨b,off,fa,fc,ma,mc,rfl,m0,m1,m2,m3,hf,_⟩:=hc i hi
 have HFL:Hid (∀ wr,HX h (some ⟨b,off,none⟩) c w wr→FldsAt wr fa h[i].fields):=fun wr q=>hf.below q.hb
 have HSUP:Hid (∀ wr,HX h (some ⟨b,off,none⟩) c w wr→wr.cell? ⟨b,off + i * 4 + 1,none⟩=some (.string h[i].super)):=fun wr q=>cell_below q.hb m1
 have x2:=cell_below HB m2
 clear hc hf m0 m1 m2 m3 HB
 obtain ⟨R,hR⟩:∃ R,R=fieldsE identB h h[i].super [] h[i].fields:=⟨_,rfl⟩
 rw [← hR]
 have HR:=Lib.hid hR;clear hR
 go_enter Tryz.func293,Tryz.ntmps293
 go_wp2
 clear x2
 generalize h[i].super=sup at *
 generalize h[i].fields=l at *
 go_loopw [6] (fun v wr=>∃ j:Nat,j≤l.length∧v = .int .i64 j∧Hid (HX h (some ⟨b,off,none⟩) c w wr)∧Hid (fieldsE identB h sup (namesF (l.take j)) (l.drop j)=R)) (fun v _=>l.length - (intOf v).toNat)
 case atStart=>exact ⟨0,Nat.zero_le _,rfl,S0.out,HR.out.symm⟩
 case round =>
  clear S0
  obtain ⟨j,hj,rfl,S,HI⟩:=hrel
  by_cases hlt:j < l.length
  case neg =>
   have HF:Hid (R=0):=by show _=_;rw [← HI.out,fields_end (by omega)]
   go_wp2
   go_ret
   exact ⟨ret_int HF.out.symm,S.out.hb⟩
  have HE:=Lib.hid ((@fields_at h sup l j hlt).symm.trans HI.out)
  obtain ⟨lb,lo,rfl,n0,n1⟩:=HFL.out _ S.out j hlt
  have hgn:l[j].name=l[j].name:=rfl
  cases hid:identB l[j].name
  case false =>
   have HF:Hid (R=5):=by show _=_;rw [← HE.out,if_pos hid]
   generalize l[j]=f at *
   go_wp2_with (go_at_call 62;refine (ident201 _ _).mono ?_;rw [hid];rintro e w' ⟨rfl,hb'⟩)
   go_ret
   exact ⟨ret_int HF.out.symm,S.out.hb.trans (hb'.mono S.out.hb.size)⟩
  rw [if_neg (by simp [hid])] at HE
  generalize hff:l[j]=f at *
  have HFF:=Lib.hid hff;clear hff
  go_upto_region 7 with (go_at_call 62;refine (ident201 _ _).mono ?_;rw [hid];rintro e wq ⟨rfl,hb'⟩)
  have Sq:=Lib.hid (S.out.below hb')
  replace n0:=cell_below hb' n0
  replace n1:=cell_below hb' n1
  clear S hb'
  have x0:=Sq.out.b1.cell 0 (by simp)
  have k0:∀ o:WB wq,o.u.cell? ⟨w.heap.size,0,none⟩=some (.slice (some ⟨b,off,none⟩) h.length c):=fun o=>cell_below o.h x0
  have k1:∀ o:WB wq,o.u.cell? ⟨lb,lo + j * 2 + 1,none⟩=some (.string f.type):=fun o=>cell_below o.h n1
  have hne:Nonempty (WB wq):=⟨⟨wq,Below.refl _ _⟩⟩
  clear x0 n0 n1
  refine wp_region_WB wq (by kernel_rfl) ?_
  repeat (go_big_quiet_step ((rename_i o;exact (type203 h f.type _ c _ (Sq.out.hc.below o.h) hl).mono (fun _ _ h=>Ret.inB h))))
  refine wpQuiet_nil ?_
  intro _ hw'
  obtain ⟨o,rfl⟩:=hw'
  have S:=Lib.hid (Sq.out.below o.h)
  clear k0 k1 hne Sq
  cases ht:typeB h f.type
  case false =>
   have HF:Hid (R=8):=by show _=_;rw [← HE.out,if_pos ht]
   go_wp2
   go_ret
   exact ⟨ret_int HF.out.symm,S.out.hb⟩
  rw [if_neg (by simp [ht])] at HE
  have HDN:Hid (∀ k (hk:k < l.length),k < j→(l[k].name.toList == f.name.toList)=true→R=7):=fun k hk hkj e=>by
   rw [← HE.out,if_pos (dup_of hk hkj e)]
  have HDM:Hid ((∀ k (hk:k < l.length),k < j→(l[k].name.toList == f.name.toList)=false)→(if (fieldP h sup f.name).isSome && !emptyB sup then 7 else fieldsE identB h sup (namesF (l.take (j + 1))) (l.drop (j + 1)))=R):=fun e=>by
   have h1:=HE.out
   rw [dup_not e,if_neg (by simp)] at h1
   exact h1
  clear HE HI
  go_wp2
  obtain ⟨wo,hwo⟩:∃ wo:World,wo=o.u:=⟨_,rfl⟩
  rw [← hwo] at S
  rw [← hwo]
  clear hwo
  go_loopw [7] (fun v wr=>∃ k:Nat,k≤j∧v = .int .i64 k∧Hid (HX h (some ⟨b,off,none⟩) c w wr)∧Hid (∀ q (hq:q < l.length),q < k→(l[q].name.toList == f.name.toList)=false)) (fun v _=>j - (intOf v).toNat)
  case atStart=>exact ⟨0,Nat.zero_le _,rfl,S.out,fun q hq hq0=>absurd hq0 (by omega)⟩
  case round =>
   clear S
   obtain ⟨k,hk,rfl,S,HD⟩:=hrel
   obtain ⟨lb',lo',he,n0,n1⟩:=HFL.out _ S.out j hlt
   cases he
   rw [HFF.out] at n0 n1
   by_cases hkj:k < j
   case neg =>
    obtain rfl:k=j:=by omega
    have HE:=Lib.hid (HDM.out HD.out)
    clear HDM HDN
    have x0:=S.out.b1.cell 0 (by simp)
    have x1:=HSUP.out _ S.out
    obtain ⟨fs,ft,hfv⟩:=fV_ex (fieldP h sup f.name)
    have HSS:Hid (∀ o:WB wr,Calls Tryz.prog 64 #[.agg #[.slice (some ⟨b,off,none⟩) h.length c],.string sup,.string f.name] o.u (Ret o.u (.tuple #[.string fs,.string ft,.bool (fieldP h sup f.name).isSome]))):=fun o=>by
     have:=(field275 h sup f.name (some ⟨b,off,none⟩) c o.u (S.out.hc.below o.h) hl HM.out).mono (fun _ _ h=>FieldPost.ret h)
     rw [hfv] at this
     exact this
    clear hfv
    generalize (fieldP h sup f.name).isSome=bq at *
    go_upto_region 14 with (fail)
    have k0:∀ o:WB wr,o.u.cell? ⟨w.heap.size,0,none⟩=some (.slice (some ⟨b,off,none⟩) h.length c):=fun o=>cell_below o.h x0
    have k1:∀ o:WB wr,o.u.cell? ⟨b,off + i * 4 + 1,none⟩=some (.string sup):=fun o=>cell_below o.h x1
    have k2:∀ o:WB wr,o.u.cell? ⟨lb,lo + k * 2,none⟩=some (.string f.name):=fun o=>cell_below o.h n0
    have hne:Nonempty (WB wr):=⟨⟨wr,Below.refl _ _⟩⟩
    clear n0 n1 x0 x1
    refine wp_region_WB wr (by kernel_rfl) ?_
    repeat (go_big_quiet_step ((rename_i o;exact (HSS.out o).mono (fun _ _ h=>Ret.inB h))))
    refine wpQuiet_nil ?_
    intro _ hw'
    obtain ⟨o,rfl⟩:=hw'
    have S':=Lib.hid (S.out.below o.h)
    have x0:=cell_below o.h (show wr.cell? _=_ from S.out.b1.cell 0 (by simp))
    have x1:=HSUP.out _ S'.out
    clear k0 k1 k2 S
    rw [empty_iff] at HE
    cases bq
    case false =>
     have HN:Hid (fieldsE identB h sup (namesF (l.take (k + 1))) (l.drop (k + 1))=R):=by have h1:=HE.out;rw [if_neg (by simp)] at h1;exact h1
     go_wp2
     go_roundw
     case rel=>exact ⟨k + 1,by omega,by go_num,S'.out,HN.out⟩
     case measure=>simp [intOf];omega
    case true =>
     cases hs:(sup.toList == ([]:List UInt8))
     case false =>
      have HF:Hid (R=7):=by have h1:=HE.out;rw [if_pos (by simp [hs])] at h1;exact h1.symm
      go_wp2
      go_ret
      exact ⟨ret_int HF.out.symm,S'.out.hb⟩
     case true =>
      have HN:Hid (fieldsE identB h sup (namesF (l.take (k + 1))) (l.drop (k + 1))=R):=by have h1:=HE.out;rw [if_neg (by simp [hs])] at h1;exact h1
      go_wp2
      go_roundw
      case rel=>exact ⟨k + 1,by omega,by go_num,S'.out,HN.out⟩
      case measure=>simp [intOf];omega
   have hkl:k < l.length:=by omega
   obtain ⟨lb',lo',he,p0,_⟩:=HFL.out _ S.out k hkl
   cases he
   have HDK:=Lib.hid (HDN.out k hkl hkj)
   have HDS:Hid ((l[k].name.toList == f.name.toList)=false→∀ q (hq:q < l.length),q < k + 1→(l[q].name.toList == f.name.toList)=false):=fun e q hq hqk=>by
    by_cases e2:q < k
    ·exact HD.out q hq e2
    ·obtain rfl:q=k:=by omega
     exact e
   generalize l[k]=y at *
   go_upto_region 12 with (fail)
   have k0:∀ o:WB wr,o.u.cell? ⟨lb,lo + k * 2,none⟩=some (.string y.name):=fun o=>cell_below o.h p0
   have k1:∀ o:WB wr,o.u.cell? ⟨lb,lo + j * 2,none⟩=some (.string f.name):=fun o=>cell_below o.h n0
   have hne:Nonempty (WB wr):=⟨⟨wr,Below.refl _ _⟩⟩
   clear p0 n0 n1
   refine wp_region_WB wr (by kernel_rfl) ?_
   repeat (go_big_quiet_step (fail))
   refine wpQuiet_nil ?_
   intro _ hw'
   obtain ⟨o,rfl⟩:=hw'
   have S':=Lib.hid (S.out.below o.h)
   clear k0 k1
   cases hy:(y.name.toList == f.name.toList)
   case true =>
    have HF:Hid (R=7):=HDK.out hy
    go_wp2
    go_ret
    exact ⟨ret_int HF.out.symm,S'.out.hb⟩
   have HDD:=Lib.hid (HDS.out hy)
   go_wp2
   go_roundw
   case rel=>exact ⟨k + 1,by omega,by go_num,S'.out,HDD.out⟩
   case measure=>simp [intOf];omega
end Go.Proofs.YtffcklfigpmlgaaGreatDoor
