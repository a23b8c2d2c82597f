/-
  The reference's right, Marked and closure.
-/
import Derived.Test.YtkbmnfijeknenaaGreatDoorGB
namespace Go.Proofs.YtkbmnfijeknenaaGreatDoor
open Go.RowKit Go.Unit0 Go.AM

def BlsAt (w:World) (a:Option Addr) (l:List Bool):Prop :=
 ∀ k (h:k < l.length),∃ b off,a=some ⟨b,off,none⟩∧w.cell? ⟨b,off + k,none⟩=some (.bool l[k])
theorem BlsAt.below {w w':World} {a:Option Addr} {l:List Bool} (h:BlsAt w a l) (hb:Below w.heap.size w w'):BlsAt w' a l:=by
 intro k hk
 obtain ⟨b,off,ha,h0⟩:=h k hk
 exact ⟨b,off,ha,cell_below hb h0⟩
abbrev blsC (bs:List Bool):Array Value:=(bs.map Value.bool).toArray
theorem bls_blk {w:World} {g:Nat} {bs:List Bool} {t:TypeId} (h:Blk w g (blsC bs) t):BlsAt w (some ⟨g,0,none⟩) bs:=by
 intro k hk
 have:=h.cell k (by simpa using hk)
 refine ⟨_,_,rfl,?_⟩
 rw [Nat.zero_add,this]
 simp
theorem bls_set (bs:List Bool) (k:Nat):(blsC bs).setIfInBounds k (.bool true)=blsC (bs.set k true):=by
 simp [blsC,List.map_set]
theorem bls_made (n:Nat):(List.replicate n (Value.bool false)).toArray=blsC (List.replicate n false):=by simp [blsC]
theorem infoB:(Tryz.prog.info? 4).map (fun i=>(i.zero,i.size,i.bytes))=some (some (.bool false),1,1):=by kernel_rfl
set_option maxHeartbeats 2000000 in
theorem rightR (u:Unt) (ha:Option Addr) (hc:Nat) (fa:Option Addr) (fc:Nat) (x:Cal) (w:World) (h:ClssAt w ha u.h) (f:FncsAt w fa u.fs) :
 Calls Tryz.prog 58 #[unV u ha hc fa fc,.agg #[.int .i64 x.f,.int .i64 x.i,.int .i64 x.c]] w (Ret w (.bool (rightC u.fs.length x))):=by
 have S0:Hid (UB u ha hc fa fc w ((w.alloc (unC u ha hc fa fc)).alloc (.cells #[.int .i64 x.f,.int .i64 x.i,.int .i64 x.c] 51))):=(UB.start (hc:=hc) (fc:=fc) h f).below (one_below ..)
 have B0:Hid (Blk ((w.alloc (unC u ha hc fa fc)).alloc (.cells #[.int .i64 x.f,.int .i64 x.i,.int .i64 x.c] 51)) (w.heap.size + 1) #[.int .i64 x.f,.int .i64 x.i,.int .i64 x.c] 51):=blk_new2 ..
 have HRI:Hid (rightC u.fs.length x=true ↔ 0≤x.f∧x.f < u.fs.length∧0≤x.c∧x.c < u.fs.length):=rightC_iff
 clear h f
 generalize rightC u.fs.length x=rr at *
 unfold unV
 go_enter Tryz.func58,Tryz.ntmps58
 go_upto_region 1 with (fail)
 generalize (w.alloc _).alloc _=W at *
 obtain ⟨z0,z1,z2⟩:=S0.out.cells
 have y0:=B0.out.cell 0 (by simp)
 have y2:=B0.out.cell 2 (by simp)
 simp only [List.getElem_toArray,List.getElem_cons_zero,List.getElem_cons_succ] at y0 y2
 by_cases g1:0≤x.f
 case neg =>
  have t1:=decide_eq_false g1
  have HF:Hid (rr=false):=Bool.eq_false_iff.2 (fun e=>g1 (HRI.out.1 e).1)
  clear g1
  go_wp2
  go_ret
  exact ⟨ret_bool HF.out.symm,S0.out.hb⟩
 have t1:=decide_eq_true g1
 by_cases g2:x.f < (u.fs.length:Int)
 case neg =>
  have t2:=decide_eq_false g2
  have HF:Hid (rr=false):=Bool.eq_false_iff.2 (fun e=>g2 (HRI.out.1 e).2.1)
  clear g1 g2
  go_wp2
  go_ret
  exact ⟨ret_bool HF.out.symm,S0.out.hb⟩
 have t2:=decide_eq_true g2
 by_cases g3:0≤x.c
 case neg =>
  have t3:=decide_eq_false g3
  have HF:Hid (rr=false):=Bool.eq_false_iff.2 (fun e=>g3 (HRI.out.1 e).2.2.1)
  clear g1 g2 g3
  go_wp2
  go_ret
  exact ⟨ret_bool HF.out.symm,S0.out.hb⟩
 have t3:=decide_eq_true g3
 by_cases g4:x.c < (u.fs.length:Int)
 case neg =>
  have t4:=decide_eq_false g4
  have HF:Hid (rr=false):=Bool.eq_false_iff.2 (fun e=>g4 (HRI.out.1 e).2.2.2)
  clear g1 g2 g3 g4
  go_wp2
  go_ret
  exact ⟨ret_bool HF.out.symm,S0.out.hb⟩
 have t4:=decide_eq_true g4
 have HF:Hid (rr=true):=HRI.out.2 ⟨g1,g2,g3,g4⟩
 clear g1 g2 g3 g4
 go_wp2
 go_ret
 exact ⟨ret_bool HF.out.symm,S0.out.hb⟩
set_option maxHeartbeats 2000000 in
theorem markedR (bs:List Bool) (a:Option Addr) (c:Nat) (w:World) (h:BlsAt w a bs) (hl:bs.length≤1000) :
 Calls Tryz.prog 59 #[.slice a bs.length c] w (IntsPost (marked bs) w):=by
 have HL:=Lib.hid h
 clear h
 have HMK:Hid (marked bs=markT bs bs.length):=rfl
 go_enter Tryz.func59,Tryz.ntmps59
 go_wp2
 go_loopw [3,4] (fun v i wr=>∃ (k:Nat) (oa:Option Addr) (oc:Nat),k≤bs.length∧v = .slice oa (markT bs k).length oc∧i = .int .i64 k∧Hid (Below w.heap.size w wr)∧Hid (wr.ownsRow w.heap.size 3 1 (.slice oa (markT bs k).length oc) (markT bs k).length ((markT bs k).map intV))) (fun _ i _=>bs.length - (intOf i).toNat)
 case atStart=>exact ⟨0,none,0,Nat.zero_le _,rfl,rfl,Below.refl _ _,World.ownsRow_nil _ _ _ _⟩
 case round =>
  obtain ⟨k,oa,oc,hk,rfl,rfl,HB,OW⟩:=hrel
  by_cases hlt:k < bs.length
  case neg =>
   obtain rfl:k=bs.length:=by omega
   go_wp2
   go_ret
   rw [← HMK.out]
   exact ⟨HB.out,oa,oc,rfl,OW.out⟩
  obtain ⟨b,off,he,c0⟩:=(HL.out.below HB.out) k hlt
  subst he
  have hml:=markT_len bs k
  cases hv:bs[k]
  case false =>
   rw [hv] at c0
   have HS:Hid (markT bs (k + 1)=markT bs k):=markT_f (by rw [List.getElem?_eq_getElem hlt,hv])
   clear hv
   go_wp2
   go_roundw
   case rel=>exact ⟨k + 1,oa,oc,by omega,by rw [HS.out],by go_num,HB.out,by rw [HS.out];exact OW.out⟩
   case measure=>simp [intOf];omega
  case true =>
   rw [hv] at c0
   have HS:Hid (markT bs (k + 1)=markT bs k ++ [(k:Int)]):=markT_t (by rw [List.getElem?_eq_getElem hlt,hv])
   clear hv
   generalize markT bs k=mk at *
   have O1:=Lib.hid (owns_below OW.out (one_below wr (.cells #[.int .i64 k] 3)))
   have hbs:=HB.out.size
   have hb1:Below w.heap.size w (wr.alloc (.cells #[.int .i64 k] 3)):=HB.out.trans ((one_below ..).mono hbs)
   have hbs1:=hb1.size
   go_wp2_with (at_builtin;refine app_ints rfl _ _ rfl w.heap.size _ mk rfl O1.out _ 1 [(k:Int)] rfl (ints_new _ _) (by omega) (by simp) hbs1 ?_;intro v7 W7 own7 hg7;obtain ⟨-,oa7,oc7,rfl,-,-⟩:=owns_ints own7)
   have HB7:=Lib.hid (hb1.grown hg7 hbs1 (fun q hq=>(O1.out.lt q hq).1))
   have OW7:=Lib.hid own7
   go_roundw
   case rel=>exact ⟨k + 1,oa7,oc7,by omega,by rw [HS.out];first | rfl | simp,by go_num,HB7.out,by rw [HS.out];exact OW7.out⟩
   case measure=>simp [intOf];omega
def cntV (l:List Value):Nat:=l.countP (fun v=>match v with | .bool false=>true | _=>false)
theorem cntV_bls (bs:List Bool):cntV (bs.map Value.bool)=cntF bs:=by
 unfold cntV cntF
 induction bs with
 | nil=>rfl
 | cons b bs ih =>
   rw [List.map_cons,List.countP_cons,List.count_cons,ih]
   cases b <;> rfl
def cntW (w:World) (g:Nat):Nat:=match w.heap[g]? with
 | some (.cells cs _ _)=>cntV cs.toList
 | _=>0
theorem cntW_blk {w:World} {g:Nat} {bs:List Bool} {t:TypeId} (h:Blk w g (blsC bs) t):cntW w g=cntF bs:=by
 unfold Blk at h
 unfold cntW
 rw [h]
 exact cntV_bls bs
def mesC (v:Value) (w:World) (g:Nat):Nat:=match v with
 | .bool true=>1 + cntW w g
 | _=>0
structure ClW (u:Unt) (ha:Option Addr) (hc:Nat) (fa:Option Addr) (fc:Nat) (w0 w wr:World) (g:Nat) (l:List Cal) (bs bs':List Bool):Prop where
 hb:Below w0.heap.size w0 wr
 gr:w.grownBy wr (some g)
 b1:Blk wr w.heap.size #[.slice ha u.h.length hc,.slice fa u.fs.length fc,.int .i64 u.main] 27
 bk:Blk wr g (blsC bs') 4
 ci:CI u.fs.length l bs bs'
theorem ClW.below {u:Unt} {ha:Option Addr} {hc:Nat} {fa:Option Addr} {fc:Nat} {w0 w wr w':World} {g:Nat} {l:List Cal} {bs bs':List Bool} (k:ClW u ha hc fa fc w0 w wr g l bs bs') (hb:Below wr.heap.size wr w'):ClW u ha hc fa fc w0 w w' g l bs bs' :=
 ⟨k.hb.trans (hb.mono k.hb.size),grown_below k.gr hb,k.b1.below hb,k.bk.below hb,k.ci⟩
set_option maxRecDepth 100000 in
set_option maxHeartbeats 8000000 in
theorem closureR2 (u:Unt) (ha:Option Addr) (hc:Nat) (fa:Option Addr) (fc:Nat) (bs:List Bool) (g:Nat) (l:List Cal) (la:Option Addr) (lc:Nat) (w0 w:World) (h:ClssAt w0 ha u.h) (f:FncsAt w0 fa u.fs) (hl:∀ wx,w.grownBy wx (some g)→CalsAt wx la l)
 (hb0:Below w0.heap.size w0 w) (hg:w0.heap.size≤g) (hbk:Blk w g (blsC bs) 4) (hn:bs.length=u.fs.length) (_hn2:u.fs.length≤1000) (hll:l.length≤1000000) :
 Calls Tryz.prog 60 #[unV u ha hc fa fc,.slice (some ⟨g,0,none⟩) bs.length bs.length,.slice la l.length lc] w (fun e w'=>w.grownBy w' (some g)∧∃ bs',e = .returned (.slice (some ⟨g,0,none⟩) bs.length bs.length)∧Blk w' g (blsC bs') 4∧CI u.fs.length l bs bs'∧ClosedB u.fs.length l bs'):=by
 have S0:Hid (ClW u ha hc fa fc w0 w (w.alloc (unC u ha hc fa fc)) g l bs bs) :=
  ⟨hb0.trans ((one_below ..).mono hb0.size),below_grown0 (one_below ..) _,blk_new ..,hbk.below (one_below ..),CI.refl _ _ _⟩
 have hgl:=hbk.lt
 have HR:Hid (∀ (x:Cal) (w1:World),ClssAt w1 ha u.h→FncsAt w1 fa u.fs→Calls Tryz.prog 58 #[unV u ha hc fa fc,.agg #[.int .i64 x.f,.int .i64 x.i,.int .i64 x.c]] w1 (Ret w1 (.bool (rightC u.fs.length x)))):=fun x w1 h1 h2=>rightR u ha hc fa fc x w1 h1 h2
 have HH:=Lib.hid h
 have HF:=Lib.hid f
 have HL:=Lib.hid hl
 clear h f hl hb0 hbk
 unfold unV at *
 go_enter Tryz.func60,Tryz.ntmps60
 go_wp2
 generalize w.alloc _=W at *
 go_loopw [7] (fun v wr=>∃ (mo:Bool) (bs':List Bool),v = .bool mo∧Hid (ClW u ha hc fa fc w0 w wr g l bs bs')∧Hid (mo=false→ClosedB u.fs.length l bs')) (fun v wr=>mesC v wr g)
 case atStart=>exact ⟨true,bs,rfl,S0.out,fun e=>(by cases e)⟩
 case round =>
  clear S0
  obtain ⟨mo,b1,rfl,S,HC⟩:=hrel
  cases mo
  case false =>
   have HC0:=Lib.hid (HC.out rfl)
   clear HC
   go_wp2
   go_ret
   first | exact ⟨S.out.gr,b1,rfl,S.out.bk,S.out.ci,HC0.out⟩ | exact ⟨S.out.gr,(by rw [hn];rfl),b1,S.out.bk,S.out.ci,HC0.out⟩
  clear HC
  have hm1:=cntW_blk S.out.bk
  obtain ⟨wo,rfl⟩:∃ wo,wo=wr:=⟨_,rfl⟩
  go_wp2
  go_loopw [7,8] (fun v i wr=>∃ (q:Nat) (mo:Bool) (b2:List Bool),q≤l.length∧v = .bool mo∧i = .int .i64 q∧Hid (ClW u ha hc fa fc w0 w wr g l bs b2)∧Hid (mo=false→b2=b1∧ClosedB u.fs.length (l.take q) b2)∧Hid (mo=true→cntF b2 < cntF b1)∧Hid (cntF b2≤cntF b1)) (fun _ i _=>l.length - (intOf i).toNat)
  case atStart=>exact ⟨0,false,b1,Nat.zero_le _,rfl,rfl,S.out,fun _=>⟨rfl,ClosedB.nil _ _⟩,fun e=>(by cases e),Nat.le_refl _⟩
  case round =>
   clear S
   obtain ⟨q,mo,b2,hq,rfl,rfl,S,HC,HM,HLE⟩:=hrel
   have hm2:=cntW_blk S.out.bk
   by_cases hlt:q < l.length
   case neg =>
    have HC2:Hid (mo=false→ClosedB u.fs.length l b2):=fun e=>by
     have:=(HC.out e).2
     rw [List.take_of_length_le (by omega)] at this
     exact this
    have HM2:=HM.out
    go_wp2
    go_roundw
    case rel=>exact ⟨mo,b2,rfl,S.out,HC2.out⟩
    case measure =>
     cases mo
     ·simp only [mesC];omega
     ·have:=HM2 rfl
      simp only [mesC]
      omega
   obtain ⟨bb,off,he,m0,m1,m2⟩:=(HL.out _ S.out.gr) q hlt
   subst he
   have HT:Hid (l.take (q + 1)=l.take q ++ [l[q]]):=List.take_succ_eq_append_getElem hlt
   have HXL:Hid (l[q] ∈ l):=List.getElem_mem hlt
   generalize l[q]=x at *
   have hne:Nonempty (WB wr):=⟨⟨wr,Below.refl _ _⟩⟩
   have c0:=S.out.b1.cell 0 (by simp)
   have c1:=S.out.b1.cell 1 (by simp)
   have c2:=S.out.b1.cell 2 (by simp)
   simp only [List.getElem_toArray,List.getElem_cons_zero,List.getElem_cons_succ] at c0 c1 c2
   have k0:∀ o:WB wr,o.u.cell? ⟨w.heap.size,0,none⟩=some (.slice ha u.h.length hc):=fun o=>cell_below o.h c0
   have k1:∀ o:WB wr,o.u.cell? ⟨w.heap.size,1,none⟩=some (.slice fa u.fs.length fc):=fun o=>cell_below o.h c1
   have k2:∀ o:WB wr,o.u.cell? ⟨w.heap.size,2,none⟩=some (.int .i64 u.main):=fun o=>cell_below o.h c2
   have k3:∀ o:WB wr,o.u.cell? ⟨bb,off + q * 3,none⟩=some (.int .i64 x.f):=fun o=>cell_below o.h m0
   have k4:∀ o:WB wr,o.u.cell? ⟨bb,off + q * 3 + 1,none⟩=some (.int .i64 x.i):=fun o=>cell_below o.h m1
   have k5:∀ o:WB wr,o.u.cell? ⟨bb,off + q * 3 + 2,none⟩=some (.int .i64 x.c):=fun o=>cell_below o.h m2
   have HRX:=Lib.hid (HR.out x)
   have HBL:Hid (b2.length=u.fs.length):=by show _=_;rw [S.out.ci.len,hn]
   have HRC:Hid (rightC u.fs.length x=true ↔ 0≤x.f∧x.f < u.fs.length∧0≤x.c∧x.c < u.fs.length):=rightC_iff
   have HSN:Hid ((rightC u.fs.length x=true→At b2 x.f→At b2 x.c)→mo=false→b2=b1∧ClosedB u.fs.length (l.take (q + 1)) b2):=fun k e=>⟨(HC.out e).1,by rw [HT.out];exact (HC.out e).2.snoc k⟩
   have HST:=Lib.hid (@CI.step u.fs.length l bs b2 x S.out.ci HXL.out)
   clear c0 c1 c2 m0 m1 m2
   cases hr:rightC u.fs.length x
   case false =>
    rw [hr] at HRX
    have HC3:=Lib.hid (HSN.out (fun e=>by rw [hr] at e;cases e))
    clear hr HRC HSN HST
    go_upto_region 7 with (fail)
    refine wp_region_WB wr (by kernel_rfl) ?_
    repeat (go_big_quiet_step ((rename_i o;with_reducible exact (HRX.out _ (HH.out.below (S.out.below o.h).hb) (HF.out.below (S.out.below o.h).hb)).mono (fun _ _ h=>Ret.inB h))))
    refine wpQuiet_nil ?_
    intro _ hw'
    obtain ⟨o,rfl⟩:=hw'
    have S3:=Lib.hid (S.out.below o.h)
    clear k0 k1 k2 k3 k4 k5
    go_wp2
    go_roundw
    case rel=>exact ⟨q + 1,mo,b2,by omega,rfl,by go_num,S3.out,HC3.out,HM.out,HLE.out⟩
    case measure=>simp [intOf];omega
   obtain ⟨g1,g2,g3,g4⟩:=HRC.out.1 hr
   obtain ⟨xf,hxf⟩:∃ n:Nat,x.f=n:=⟨x.f.toNat,by omega⟩
   obtain ⟨xc,hxc⟩:∃ n:Nat,x.c=n:=⟨x.c.toNat,by omega⟩
   have hfl:xf < b2.length:=by have:=HBL.out;omega
   have hcl:xc < b2.length:=by have:=HBL.out;omega
   have hfu:xf < u.fs.length:=by omega
   have hcu:xc < u.fs.length:=by omega
   have a1:=S.out.bk.cell xf (by simpa using hfl)
   have a2:=S.out.bk.cell xc (by simpa using hcl)
   simp only [List.getElem_toArray,List.getElem_map] at a1 a2
   have HAF:Hid (At b2 x.f ↔ b2[xf]=true):=by show _ ↔ _;rw [hxf];exact at_dec hfl
   have HAC:Hid (At b2 x.c ↔ b2[xc]=true):=by show _ ↔ _;rw [hxc];exact at_dec hcl
   have HXC:Hid (x.c.toNat=xc):=by show _=_;omega
   have HBC:Hid (b2[xc]=false→cntF (b2.set xc true) + 1=cntF b2):=fun e=>cntF_set (by rw [List.getElem?_eq_getElem hcl,e])
   rw [hxf] at k3 HRX
   rw [hxc] at k5 HRX
   rw [hr] at HRX
   have HRT:=Lib.hid hr
   clear hr g1 g2 g3 g4
   cases hbf:b2[xf]
   case false =>
    have k6:∀ o:WB wr,o.u.cell? ⟨g,xf,none⟩=some (.bool false):=fun o=>by have:=cell_below o.h a1;rw [hbf] at this;exact this
    have HC3:=Lib.hid (HSN.out (fun _ e=>by rw [HAF.out,hbf] at e;cases e))
    clear hbf a1 a2 HRC HSN HST HBC
    go_upto_region 7 with (fail)
    refine wp_region_WB wr (by kernel_rfl) ?_
    repeat (go_big_quiet_step ((rename_i o;with_reducible exact (HRX.out _ (HH.out.below (S.out.below o.h).hb) (HF.out.below (S.out.below o.h).hb)).mono (fun _ _ h=>Ret.inB h))))
    refine wpQuiet_nil ?_
    intro _ hw'
    obtain ⟨o,rfl⟩:=hw'
    have S3:=Lib.hid (S.out.below o.h)
    clear k0 k1 k2 k3 k4 k5 k6
    go_wp2
    go_roundw
    case rel=>exact ⟨q + 1,mo,b2,by omega,rfl,by go_num,S3.out,HC3.out,HM.out,HLE.out⟩
    case measure=>simp [intOf];omega
   have k6:∀ o:WB wr,o.u.cell? ⟨g,xf,none⟩=some (.bool true):=fun o=>by have:=cell_below o.h a1;rw [hbf] at this;exact this
   have HAFT:=Lib.hid (HAF.out.2 hbf)
   clear hbf a1
   cases hbc:b2[xc]
   case true =>
    have k7:∀ o:WB wr,o.u.cell? ⟨g,xc,none⟩=some (.bool true):=fun o=>by have:=cell_below o.h a2;rw [hbc] at this;exact this
    have HC3:=Lib.hid (HSN.out (fun _ _=>HAC.out.2 hbc))
    clear hbc a2 HRC HSN HST HBC
    go_upto_region 7 with (fail)
    refine wp_region_WB wr (by kernel_rfl) ?_
    repeat (go_big_quiet_step ((rename_i o;with_reducible exact (HRX.out _ (HH.out.below (S.out.below o.h).hb) (HF.out.below (S.out.below o.h).hb)).mono (fun _ _ h=>Ret.inB h))))
    refine wpQuiet_nil ?_
    intro _ hw'
    obtain ⟨o,rfl⟩:=hw'
    have S3:=Lib.hid (S.out.below o.h)
    clear k0 k1 k2 k3 k4 k5 k6 k7
    go_wp2
    go_roundw
    case rel=>exact ⟨q + 1,mo,b2,by omega,rfl,by go_num,S3.out,HC3.out,HM.out,HLE.out⟩
    case measure=>simp [intOf];omega
   have k7:∀ o:WB wr,o.u.cell? ⟨g,xc,none⟩=some (.bool false):=fun o=>by have:=cell_below o.h a2;rw [hbc] at this;exact this
   have HCN:=Lib.hid (HBC.out hbc)
   have HST2:=HST.out HRT.out hn HAFT.out
   rw [HXC.out] at HST2
   have HST3:=Lib.hid HST2
   clear hbc a2 HRC HSN HST HBC HST2
   go_upto_region 7 with (fail)
   refine wp_region_WB wr (by kernel_rfl) ?_
   repeat (go_big_quiet_step ((rename_i o;with_reducible exact (HRX.out _ (HH.out.below (S.out.below o.h).hb) (HF.out.below (S.out.below o.h).hb)).mono (fun _ _ h=>Ret.inB h))))
   refine wpQuiet_nil ?_
   intro _ hw'
   obtain ⟨o,rfl⟩:=hw'
   have S3:=Lib.hid (S.out.below o.h)
   have j5:=k5 o
   have j7:=k7 o
   have f7:=S3.out.bk.free xc
   clear k0 k1 k2 k3 k4 k5 k6 k7
   go_upto_region 9 with (fail)
   have S4:Hid (ClW u ha hc fa fc w0 w (o.u.setCell ⟨g,xc,none⟩ (.bool true)) g l bs (b2.set xc true)) :=
    ⟨S3.out.hb.setCell hg _,grown_grown S3.out.gr (grown_set _ g xc _) (fun q hq=>.inr hq),S3.out.b1.other (by omega) _ _,by have:=S3.out.bk.set xc (.bool true);rw [bls_set] at this;exact this,HST3.out⟩
   clear j5 j7 f7 S3
   go_wp2
   go_roundw
   case rel=>exact ⟨q + 1,true,b2.set xc true,by omega,rfl,by go_num,S4.out,(fun e=>by cases e),(fun _=>by have:=HCN.out;have:=HLE.out;omega),(by show _≤_;have:=HCN.out;have:=HLE.out;omega)⟩
   case measure=>simp [intOf];omega
end Go.Proofs.YtkbmnfijeknenaaGreatDoor
