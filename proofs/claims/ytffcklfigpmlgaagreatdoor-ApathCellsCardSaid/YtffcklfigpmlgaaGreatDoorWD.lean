/-
  The reference's ints: it returns.
  The reference's types: it returns.
  The reference's instr: it returns.
-/
import Derived.Test.YtffcklfigpmlgaaGreatDoorWC
import Derived.Test.YtffcklfigpmlgaaGreatDoorWB
namespace Go.Proofs.YtffcklfigpmlgaaGreatDoor
open Go.RowKit Go.Unit0

set_option maxRecDepth 100000 in
set_option maxHeartbeats 4000000 in
theorem ints340 (h:List Cls) (a:Option Addr) (c:Nat) (f:Fnc) (va:Option Addr) (vc:Nat) (ca:Option Addr) (cc:Nat) (x:Ins) (ga:Option Addr) (gc:Nat) (w:World)
 (m:TM h a f va ca x ga w) (hb:Bnd h) (_hnv:f.vars.length≤100000) (hR:RangeOk f.vars.length f.code.length x) (h9:x.op ≠ 9) (h10:x.op ≠ 10) :
 Calls Tryz.prog 301 #[.agg #[.slice a h.length c],fnV f va vc ca cc,inV x ga gc] w (BPost (fun _=>True) w):=by
 have S0:=Lib.hid (TX.start (c:=c) (vc:=vc) (cc:=cc) (gc:=gc) m.hc m.hv m.hi m.hg)
 have HBN:=Lib.hid hb
 have HD:Hid (hasP x.op 100=true→∃ q:Nat,x.dst=q∧q < f.vars.length):=fun e=>by
  rcases hR.d e with ⟨h1,h2⟩ | ⟨e2,-⟩
  ·exact ⟨x.dst.toNat,by omega,by omega⟩
  ·omega
 have HA:Hid (hasP x.op 97=true→0≤x.a→∃ q:Nat,x.a=q∧q < f.vars.length):=fun e e0=>by
  rcases hR.a e with ⟨h1,h2⟩ | ⟨-,e2⟩
  ·exact ⟨x.a.toNat,by omega,by omega⟩
  ·omega
 have HB:Hid (hasP x.op 98=true→∃ q:Nat,x.b=q∧q < f.vars.length):=fun e=>by
  have:=hR.b e
  exact ⟨x.b.toNat,by omega,by omega⟩
 clear m hb hR h9 h10
 unfold fnV inV
 have H0:=Lib.hid (fun w1=>has250 x.op 100 w1)
 generalize hasP x.op 100=d0 at *
 have H1:=Lib.hid (fun w1=>has250 x.op 97 w1)
 generalize hasP x.op 97=d1 at *
 have H2:=Lib.hid (fun w1=>has250 x.op 98 w1)
 generalize hasP x.op 98=d2 at *
 go_enter Tryz.func301,Tryz.ntmps301
 go_upto_region 2 with (fail)
 generalize hW:((w.alloc _).alloc _).alloc _=W at *
 clear hW
 have x0:=S0.out.x.b1.cell 0 (by simp)
 go_wp2_with fail
 refine (H0.out _).mono ?_
 rintro e w' ⟨rfl,hb'⟩
 have S1:=Lib.hid (S0.out.below hb')
 clear S0 hb' x0 H0
 go_upto_if 12 with (fail)
 go_cut [7] (fun v wx=>∃ s,v = .string s∧w' = wx)
 case first =>
  cases d0
  case false =>
   go_wp2
   go_meet
   exact ⟨_,rfl,rfl⟩
  obtain ⟨q,hq,hqn⟩:=HD.out rfl
  have x1:=S1.out.x.b1.cell 1 (by simp)
  have y4:=S1.out.f.b1.cell 4 (by simp)
  rw [hq] at x1
  obtain ⟨b3,o3,rfl,m2⟩:=S1.out.f.typ hqn
  generalize typOf f q=tq at *
  clear hq
  go_wp2
  go_meet
  exact ⟨_,rfl,rfl⟩
 case rest =>
  obtain ⟨sd,rfl,rfl⟩:=hcut
  clear HD
  have x0:=S1.out.x.b1.cell 0 (by simp)
  go_upto_region 4 with (fail)
  go_cut [27] (fun v wx=>∃ b,v = .bool b∧Hid (TX h a c f va vc ca cc x ga gc w wx)∧Hid (b=true→∃ q:Nat,x.a=q∧q < f.vars.length))
  case first =>
   go_wp2_with fail
   refine (H1.out _).mono ?_
   rintro e w2 ⟨rfl,hb'⟩
   have S2:=Lib.hid (S1.out.below hb')
   clear S1 hb' x0
   have x2:=S2.out.x.b1.cell 2 (by simp)
   cases d1
   case false =>
    go_wp2
    go_meet
    exact ⟨_,rfl,S2.out,fun e=>by cases e⟩
   by_cases h0:0≤x.a
   ·have HQ:=Lib.hid (HA.out rfl h0)
    go_wp2
    go_meet
    exact ⟨_,rfl,S2.out,fun e=>HQ.out⟩
   ·have t1:decide (0≤x.a)=false:=by simp;omega
    clear h0
    go_wp2
    go_meet
    exact ⟨_,rfl,S2.out,fun e=>by cases e⟩
  case rest =>
   obtain ⟨b,rfl,S2,HQ⟩:=hcut
   clear S1 x0 HA H1
   go_upto_if 27 with (fail)
   go_cut [8] (fun v wx=>∃ s,v = .string s∧wx=wc)
   case first =>
    cases b
    case false =>
     go_wp2
     go_meet
     exact ⟨_,rfl,rfl⟩
    obtain ⟨q,hq,hqn⟩:=HQ.out rfl
    have x2:=S2.out.x.b1.cell 2 (by simp)
    have y4:=S2.out.f.b1.cell 4 (by simp)
    rw [hq] at x2
    obtain ⟨b3,o3,rfl,m2⟩:=S2.out.f.typ hqn
    generalize typOf f q=tq at *
    clear hq
    go_wp2
    go_meet
    exact ⟨_,rfl,rfl⟩
   case rest =>
    obtain ⟨sa,rfl,rfl⟩:=hcut
    clear HQ
    have x0:=S2.out.x.b1.cell 0 (by simp)
    go_wp2_with fail
    refine (H2.out _).mono ?_
    rintro e w3 ⟨rfl,hb'⟩
    have S3:=Lib.hid (S2.out.below hb')
    clear S2 hb' x0 H2
    go_upto_if 37 with (fail)
    go_cut [9] (fun v wx=>∃ s,v = .string s∧w3=wx)
    case first =>
     cases d2
     case false =>
      go_wp2
      go_meet
      exact ⟨_,rfl,rfl⟩
     obtain ⟨q,hq,hqn⟩:=HB.out rfl
     have x2:=S3.out.x.b1.cell 3 (by simp)
     have y4:=S3.out.f.b1.cell 4 (by simp)
     rw [hq] at x2
     obtain ⟨b3,o3,rfl,m2⟩:=S3.out.f.typ hqn
     generalize typOf f q=tq at *
     clear hq
     go_wp2
     go_meet
     exact ⟨_,rfl,rfl⟩
    case rest =>
     obtain ⟨sb,rfl,rfl⟩:=hcut
     clear HB
     have x0:=S3.out.x.b1.cell 0 (by simp)
     have HFT:=Lib.hid (fun s t=>fits253 h s t a c _ S3.out.hc HBN.out.l)
     generalize x.op=o at x0 ⊢
     by_cases h1:o=1
     ·subst h1
      go_wp2
      go_ret
      exact ⟨S3.out.f.hb,_,rfl,trivial⟩
     by_cases h5:o=5
     ·subst h5
      clear h1
      go_wp2
      go_ret
      exact ⟨S3.out.f.hb,_,rfl,trivial⟩
     by_cases h2:o=2
     ·subst h2
      clear h1
      clear h5
      go_wp2
      go_ret
      exact ⟨S3.out.f.hb,_,rfl,trivial⟩
     by_cases h3:o=3
     ·subst h3
      clear h1
      clear h5
      clear h2
      have z0:=S3.out.bh.cell 0 (by simp)
      go_wp2_with fail
      refine (HFT.out _ _).mono ?_
      rintro e w4 ⟨rfl,hb'⟩
      have S4:=Lib.hid (S3.out.below hb')
      go_wp2
      go_ret
      exact ⟨S4.out.f.hb,_,rfl,trivial⟩
     by_cases h16:o=16
     ·subst h16
      clear h1
      clear h5
      clear h2
      clear h3
      cases e1:(sa.toList == ([105,110,116]:List UInt8))
      all_goals
       go_wp2
       go_ret
       exact ⟨S3.out.f.hb,_,rfl,trivial⟩
     by_cases h11:o=11
     ·subst h11
      clear h1
      clear h5
      clear h2
      clear h3
      clear h16
      go_wp2
      go_ret
      exact ⟨S3.out.f.hb,_,rfl,trivial⟩
     by_cases h14:o=14
     ·subst h14
      clear h1
      clear h5
      clear h2
      clear h3
      clear h16
      clear h11
      go_wp2
      go_ret
      exact ⟨S3.out.f.hb,_,rfl,trivial⟩
     by_cases h4:o=4
     ·subst h4
      clear h1
      clear h5
      clear h2
      clear h3
      clear h16
      clear h11
      clear h14
      have x4:=S3.out.x.b1.cell 4 (by simp)
      generalize x.n=n at x4
      cases e1:(sd.toList == ([105,110,116]:List UInt8)) <;> cases e2:(sa.toList == ([105,110,116]:List UInt8)) <;> cases e3:(sb.toList == ([105,110,116]:List UInt8)) <;> cases e4:(n == 5)
      all_goals
       go_wp2
       go_ret
       exact ⟨S3.out.f.hb,_,rfl,trivial⟩
     by_cases h13:o=13
     ·subst h13
      clear h1
      clear h5
      clear h2
      clear h3
      clear h16
      clear h11
      clear h14
      clear h4
      have x2:=S3.out.x.b1.cell 2 (by simp)
      have z0:=S3.out.bh.cell 0 (by simp)
      have y5:=S3.out.f.b1.cell 5 (by simp)
      generalize x.a=xa at x2
      cases e1:(xa == -1)
      case true =>
       go_wp2
       go_ret
       exact ⟨S3.out.f.hb,_,rfl,trivial⟩
      go_wp2_with fail
      refine (HFT.out _ _).mono ?_
      rintro e w4 ⟨rfl,hb'⟩
      have S4:=Lib.hid (S3.out.below hb')
      go_wp2
      go_ret
      exact ⟨S4.out.f.hb,_,rfl,trivial⟩
     have n1:(o == 1)=false:=by simp;omega
     have n5:(o == 5)=false:=by simp;omega
     have n2:(o == 2)=false:=by simp;omega
     have n3:(o == 3)=false:=by simp;omega
     have n16:(o == 16)=false:=by simp;omega
     have n11:(o == 11)=false:=by simp;omega
     have n14:(o == 14)=false:=by simp;omega
     have n4:(o == 4)=false:=by simp;omega
     have n13:(o == 13)=false:=by simp;omega
     clear h1 h5 h2 h3 h16 h11 h14 h4 h13
     go_wp2
     go_ret
     exact ⟨S3.out.f.hb,_,rfl,trivial⟩
end Go.Proofs.YtffcklfigpmlgaaGreatDoor
namespace Go.Proofs.YtffcklfigpmlgaaGreatDoor
open Go.RowKit Go.Unit0

set_option maxRecDepth 100000 in
set_option maxHeartbeats 4000000 in
theorem types291 (h:List Cls) (a:Option Addr) (c:Nat) (f:Fnc) (va:Option Addr) (vc:Nat) (ca:Option Addr) (cc:Nat) (x:Ins) (ga:Option Addr) (gc:Nat) (w:World)
 (m:TM h a f va ca x ga w) (hb:Bnd h) (hnv:f.vars.length≤100000) (hl:x.args.length≤100000) (hR:RangeOk f.vars.length f.code.length x) :
 Calls Tryz.prog 210 #[.agg #[.slice a h.length c],fnV f va vc ca cc,inV x ga gc] w (IPost (fun n=>n=0→CallOk h x) w):=by
 have S0:=Lib.hid (TX.start (c:=c) (vc:=vc) (cc:=cc) (gc:=gc) m.hc m.hv m.hi m.hg)
 have HBN:=Lib.hid hb
 have HD:Hid (x.op=6 ∨ x.op=15→∃ q:Nat,x.dst=q∧q < f.vars.length):=fun e=>by
  rcases hR.d (by rcases e with e | e <;> rw [e,hasP_data] <;> decide) with ⟨h1,h2⟩ | ⟨e2,-⟩
  ·exact ⟨x.dst.toNat,by omega,by omega⟩
  ·omega
 have HAC:Hid (x.op=7 ∨ x.op=8→∀ w1:World,TM h a f va ca x ga w1→Calls Tryz.prog 299 #[.agg #[.slice a h.length c],fnV f va vc ca cc,inV x ga gc] w1 (IPost (fun _=>True) w1)):=fun e w1 m1=>access338 h a c f va vc ca cc x ga gc w1 m1.hc m1.hv m1.hi m1.hg hb hnv hR e
 have HCC:Hid (x.op=9 ∨ x.op=10→∀ w1:World,TM h a f va ca x ga w1→Calls Tryz.prog 300 #[.agg #[.slice a h.length c],fnV f va vc ca cc,inV x ga gc] w1 (IPost (fun n=>n=0→CallOk h x) w1)):=fun e w1 m1=>checkCall339 h a c f va vc ca cc x ga gc w1 m1 hb hnv hl hR e
 have HIN:Hid (x.op ≠ 9→x.op ≠ 10→∀ w1:World,TM h a f va ca x ga w1→Calls Tryz.prog 301 #[.agg #[.slice a h.length c],fnV f va vc ca cc,inV x ga gc] w1 (BPost (fun _=>True) w1)):=fun e1 e2 w1 m1=>ints340 h a c f va vc ca cc x ga gc w1 m1 hb hnv hR e1 e2
 clear m hb hR
 unfold fnV inV at *
 go_enter Tryz.func210,Tryz.ntmps210
 go_upto_region 1 with (fail)
 generalize hW:((w.alloc _).alloc _).alloc _=W at *
 clear hW
 obtain ⟨x0,x1,x2,x3,x4,x5,x6,x7,x8,x9⟩:=S0.out.x.cells
 obtain ⟨y0,y1,y2,y3,y4,y5,y6⟩:=S0.out.f.cells
 have z0:=S0.out.bh.cell 0 (by simp)
 have M0:Hid (TM h a f va ca x ga W):=⟨S0.out.hc,S0.out.f.hv,S0.out.f.hc,S0.out.x.ga⟩
 by_cases h6:x.op=6
 ·have e0:(x.op == 6)=true:=by simp [h6]
  have HOK:Hid (CallOk h x):=CallOk.other (by omega) (by omega)
  obtain ⟨q,hq,hqn⟩:=HD.out (by omega)
  clear h6
  clear HD HAC HCC HIN M0
  go_wp2_with fail
  refine (isCls252 h x.cls a c _ S0.out.hc HBN.out.l).mono ?_
  rintro e w' ⟨rfl,hb'⟩
  have S1:=Lib.hid (S0.out.below hb')
  clear S0 hb' e0  x0 x1 x2 x3 x4 x5 x6 x7 x8 x9 y0 y1 y2 y3 y4 y5 y6 z0
  generalize isCls h x.cls=d at *
  cases d
  case false =>
   go_wp2
   go_ret
   exact ⟨S1.out.f.hb,_,rfl,fun _=>HOK.out⟩
  have x5:=S1.out.x.b1.cell 5 (by simp)
  have x1:=S1.out.x.b1.cell 1 (by simp)
  have y4:=S1.out.f.b1.cell 4 (by simp)
  have z0:=S1.out.bh.cell 0 (by simp)
  rw [hq] at x1
  obtain ⟨b3,o3,rfl,m2⟩:=S1.out.f.typ hqn
  have HFT:Hid (∀ o:WB w',Calls Tryz.prog 298 #[.agg #[.slice a h.length c],.string x.cls,.string (typOf f q)] o.u (Ret o.u (.bool (fitsP h x.cls (typOf f q))))):=fun o=>fits253 h _ _ a c o.u (S1.out.hc.below o.h) HBN.out.l
  generalize fitsP h x.cls (typOf f q)=d at *
  generalize typOf f q=tq at *
  have hne:Nonempty (WB w'):=⟨⟨w',Below.refl _ _⟩⟩
  have k0:∀ o:WB w',o.u.cell? ⟨w.heap.size + 2,5,none⟩=some (.string x.cls):=fun o=>cell_below o.h x5
  have k1:∀ o:WB w',o.u.cell? ⟨w.heap.size + 2,1,none⟩=some (.int .i64 q):=fun o=>cell_below o.h x1
  have k2:∀ o:WB w',o.u.cell? ⟨w.heap.size + 1,4,none⟩=some (.slice (some ⟨b3,o3,none⟩) f.vars.length vc):=fun o=>cell_below o.h y4
  have k3:∀ o:WB w',o.u.cell? ⟨b3,o3 + q * 2 + 1,none⟩=some (.string tq):=fun o=>cell_below o.h m2
  have k4:∀ o:WB w',o.u.cell? ⟨w.heap.size,0,none⟩=some (.slice a h.length c):=fun o=>cell_below o.h z0
  clear x5 x1 y4 m2 z0 hq
  go_upto_region 6 with (fail)
  refine wp_region_WB w' (by kernel_rfl) ?_
  cases d
  all_goals
   repeat (go_big_quiet_step ((rename_i o;exact (HFT.out o).mono (fun _ _ h=>Ret.inB h))))
   refine wpQuiet_nil ?_
   intro _ hw'
   obtain ⟨o,rfl⟩:=hw'
   have S3:=Lib.hid (S1.out.below o.h)
   clear k0 k1 k2 k3 k4
   go_wp2
   go_ret
   exact ⟨S3.out.f.hb,_,rfl,fun _=>HOK.out⟩
 by_cases h15:x.op=15
 ·have e0:(x.op == 15)=true:=by simp [h15]
  have HOK:Hid (CallOk h x):=CallOk.other (by omega) (by omega)
  have n6:(x.op == 6)=false:=by simp;omega
  obtain ⟨q,hq,hqn⟩:=HD.out (by omega)
  clear h6 h15
  clear HD HAC HCC HIN M0
  go_wp2_with fail
  refine (isCls252 h x.cls a c _ S0.out.hc HBN.out.l).mono ?_
  rintro e w' ⟨rfl,hb'⟩
  have S1:=Lib.hid (S0.out.below hb')
  clear S0 hb' e0 n6 x0 x1 x2 x3 x4 x5 x6 x7 x8 x9 y0 y1 y2 y3 y4 y5 y6 z0
  generalize isCls h x.cls=d at *
  cases d
  case false =>
   go_wp2
   go_ret
   exact ⟨S1.out.f.hb,_,rfl,fun _=>HOK.out⟩
  have x5:=S1.out.x.b1.cell 5 (by simp)
  have x1:=S1.out.x.b1.cell 1 (by simp)
  have y4:=S1.out.f.b1.cell 4 (by simp)
  have z0:=S1.out.bh.cell 0 (by simp)
  rw [hq] at x1
  obtain ⟨b3,o3,rfl,m2⟩:=S1.out.f.typ hqn
  have HFT:Hid (∀ o:WB w',Calls Tryz.prog 298 #[.agg #[.slice a h.length c],.string x.cls,.string (typOf f q)] o.u (Ret o.u (.bool (fitsP h x.cls (typOf f q))))):=fun o=>fits253 h _ _ a c o.u (S1.out.hc.below o.h) HBN.out.l
  generalize fitsP h x.cls (typOf f q)=d at *
  generalize typOf f q=tq at *
  have hne:Nonempty (WB w'):=⟨⟨w',Below.refl _ _⟩⟩
  have k0:∀ o:WB w',o.u.cell? ⟨w.heap.size + 2,5,none⟩=some (.string x.cls):=fun o=>cell_below o.h x5
  have k1:∀ o:WB w',o.u.cell? ⟨w.heap.size + 2,1,none⟩=some (.int .i64 q):=fun o=>cell_below o.h x1
  have k2:∀ o:WB w',o.u.cell? ⟨w.heap.size + 1,4,none⟩=some (.slice (some ⟨b3,o3,none⟩) f.vars.length vc):=fun o=>cell_below o.h y4
  have k3:∀ o:WB w',o.u.cell? ⟨b3,o3 + q * 2 + 1,none⟩=some (.string tq):=fun o=>cell_below o.h m2
  have k4:∀ o:WB w',o.u.cell? ⟨w.heap.size,0,none⟩=some (.slice a h.length c):=fun o=>cell_below o.h z0
  clear x5 x1 y4 m2 z0 hq
  go_upto_region 6 with (fail)
  refine wp_region_WB w' (by kernel_rfl) ?_
  cases d
  all_goals
   repeat (go_big_quiet_step ((rename_i o;exact (HFT.out o).mono (fun _ _ h=>Ret.inB h))))
   refine wpQuiet_nil ?_
   intro _ hw'
   obtain ⟨o,rfl⟩:=hw'
   have S3:=Lib.hid (S1.out.below o.h)
   clear k0 k1 k2 k3 k4
   go_wp2
   go_ret
   exact ⟨S3.out.f.hb,_,rfl,fun _=>HOK.out⟩
 by_cases h7:x.op=7
 ·have e0:(x.op == 7)=true:=by simp [h7]
  have HOK:Hid (CallOk h x):=CallOk.other (by omega) (by omega)
  have n6:(x.op == 6)=false:=by simp;omega
  have n15:(x.op == 15)=false:=by simp;omega
  have HX:=Lib.hid (HAC.out (by omega) _ M0.out)
  clear h6 h15 h7
  clear HD HAC HCC HIN M0
  go_wp2_with fail
  refine HX.out.mono ?_
  rintro e w' ⟨hb',n,rfl,-⟩
  have S1:=Lib.hid (S0.out.below hb')
  clear S0 hb' e0 n6 n15 x0 x1 x2 x3 x4 x5 x6 x7 x8 x9 y0 y1 y2 y3 y4 y5 y6 z0
  go_wp2
  go_ret
  exact ⟨S1.out.f.hb,_,rfl,fun _=>HOK.out⟩
 by_cases h8:x.op=8
 ·have e0:(x.op == 8)=true:=by simp [h8]
  have HOK:Hid (CallOk h x):=CallOk.other (by omega) (by omega)
  have n6:(x.op == 6)=false:=by simp;omega
  have n15:(x.op == 15)=false:=by simp;omega
  have n7:(x.op == 7)=false:=by simp;omega
  have HX:=Lib.hid (HAC.out (by omega) _ M0.out)
  clear h6 h15 h7 h8
  clear HD HAC HCC HIN M0
  go_wp2_with fail
  refine HX.out.mono ?_
  rintro e w' ⟨hb',n,rfl,-⟩
  have S1:=Lib.hid (S0.out.below hb')
  clear S0 hb' e0 n6 n15 n7 x0 x1 x2 x3 x4 x5 x6 x7 x8 x9 y0 y1 y2 y3 y4 y5 y6 z0
  go_wp2
  go_ret
  exact ⟨S1.out.f.hb,_,rfl,fun _=>HOK.out⟩
 by_cases h9:x.op=9
 ·have e0:(x.op == 9)=true:=by simp [h9]
  have n6:(x.op == 6)=false:=by simp;omega
  have n15:(x.op == 15)=false:=by simp;omega
  have n7:(x.op == 7)=false:=by simp;omega
  have n8:(x.op == 8)=false:=by simp;omega
  have HX:=Lib.hid (HCC.out (by omega) _ M0.out)
  clear h6 h15 h7 h8 h9
  clear HD HAC HCC HIN M0
  go_wp2_with fail
  refine HX.out.mono ?_
  rintro e w' ⟨hb',n,rfl,hco⟩
  have HCO:=Lib.hid hco
  have S1:=Lib.hid (S0.out.below hb')
  clear S0 hb' hco e0 n6 n15 n7 n8 x0 x1 x2 x3 x4 x5 x6 x7 x8 x9 y0 y1 y2 y3 y4 y5 y6 z0
  go_wp2
  go_ret
  exact ⟨S1.out.f.hb,_,rfl,HCO.out⟩
 by_cases h10:x.op=10
 ·have e0:(x.op == 10)=true:=by simp [h10]
  have n6:(x.op == 6)=false:=by simp;omega
  have n15:(x.op == 15)=false:=by simp;omega
  have n7:(x.op == 7)=false:=by simp;omega
  have n8:(x.op == 8)=false:=by simp;omega
  have n9:(x.op == 9)=false:=by simp;omega
  have HX:=Lib.hid (HCC.out (by omega) _ M0.out)
  clear h6 h15 h7 h8 h9 h10
  clear HD HAC HCC HIN M0
  go_wp2_with fail
  refine HX.out.mono ?_
  rintro e w' ⟨hb',n,rfl,hco⟩
  have HCO:=Lib.hid hco
  have S1:=Lib.hid (S0.out.below hb')
  clear S0 hb' hco e0 n6 n15 n7 n8 n9 x0 x1 x2 x3 x4 x5 x6 x7 x8 x9 y0 y1 y2 y3 y4 y5 y6 z0
  go_wp2
  go_ret
  exact ⟨S1.out.f.hb,_,rfl,HCO.out⟩
 by_cases h13:x.op=13
 ·have e0:(x.op == 13)=true:=by simp [h13]
  have HOK:Hid (CallOk h x):=CallOk.other (by omega) (by omega)
  have n6:(x.op == 6)=false:=by simp;omega
  have n15:(x.op == 15)=false:=by simp;omega
  have n7:(x.op == 7)=false:=by simp;omega
  have n8:(x.op == 8)=false:=by simp;omega
  have n9:(x.op == 9)=false:=by simp;omega
  have n10:(x.op == 10)=false:=by simp;omega
  have HX:=Lib.hid (HIN.out (by omega) (by omega) _ M0.out)
  clear h6 h15 h7 h8 h9 h10 h13
  clear HD HAC HCC HIN M0
  cases e1:(x.a == -1) <;> cases e2:(f.result.toList == ([]:List UInt8))
  all_goals
   first
   | (go_wp2_with fail
      go_ret
      exact ⟨S0.out.f.hb,_,rfl,fun _=>HOK.out⟩)
   | (go_wp2_with fail
      refine HX.out.mono ?_
      rintro e w' ⟨hb',n,rfl,-⟩
      have S1:=Lib.hid (S0.out.below hb')
      clear S0 hb' e0 n6 n15 n7 n8 n9 n10 x0 x1 x2 x3 x4 x5 x6 x7 x8 x9 y0 y1 y2 y3 y4 y5 y6 z0
      cases n
      all_goals
       (go_wp2;go_ret;exact ⟨S1.out.f.hb,_,rfl,fun _=>HOK.out⟩))
 have HOK:Hid (CallOk h x):=CallOk.other (by omega) (by omega)
 have n6:(x.op == 6)=false:=by simp;omega
 have n15:(x.op == 15)=false:=by simp;omega
 have n7:(x.op == 7)=false:=by simp;omega
 have n8:(x.op == 8)=false:=by simp;omega
 have n9:(x.op == 9)=false:=by simp;omega
 have n10:(x.op == 10)=false:=by simp;omega
 have n13:(x.op == 13)=false:=by simp;omega
 have HX:=Lib.hid (HIN.out (by omega) (by omega) _ M0.out)
 clear h6 h15 h7 h8 h9 h10 h13
 clear HD HAC HCC HIN M0
 go_wp2_with fail
 refine HX.out.mono ?_
 rintro e w' ⟨hb',n,rfl,-⟩
 have S1:=Lib.hid (S0.out.below hb')
 clear S0 hb' n6 n15 n7 n8 n9 n10 n13 x0 x1 x2 x3 x4 x5 x6 x7 x8 x9 y0 y1 y2 y3 y4 y5 y6 z0
 cases n
 all_goals
  (go_wp2;go_ret;exact ⟨S1.out.f.hb,_,rfl,fun _=>HOK.out⟩)
end Go.Proofs.YtffcklfigpmlgaaGreatDoor
namespace Go.Proofs.YtffcklfigpmlgaaGreatDoor
open Go.RowKit Go.Unit0

structure BndF (f:Fnc):Prop where
 v:f.vars.length≤100000
 c:f.code.length≤100000
 a:∀ x ∈ f.code,x.args.length≤100000
set_option maxRecDepth 100000 in
set_option maxHeartbeats 4000000 in
theorem instr210 (h:List Cls) (a:Option Addr) (c:Nat) (f:Fnc) (va:Option Addr) (vc:Nat) (ca:Option Addr) (cc:Nat) (i:Nat) (hil:i < f.code.length) (w:World)
 (hc:ClssAt w a h) (hv:FldsAt w va f.vars) (hi:InssAt w ca f.code) (hb:Bnd h) (hf:BndF f) :
 Calls Tryz.prog 127 #[.agg #[.slice a h.length c],fnV f va vc ca cc,.int .i64 i] w (IPost (fun n=>n=0→CallOk h f.code[i]) w):=by
 obtain ⟨b,off,ga,gc,he,m0,m1,m2,m3,m4,m5,m6,m7,m8,m9,hgi⟩:=hi i hil
 have hxl:=hf.a _ (List.getElem_mem hil)
 have HUN:Hid (∀ w1,IntsAt w1 ga f.code[i].args→Calls Tryz.prog 207 #[inV f.code[i] ga gc] w1 (BPost (fun _=>True) w1)):=fun w1 h1=>unused288 _ ga gc w1 h1
 have HRA:Hid (∀ w1,FldsAt w1 va f.vars→InssAt w1 ca f.code→IntsAt w1 ga f.code[i].args→Calls Tryz.prog 208 #[fnV f va vc ca cc,inV f.code[i] ga gc] w1 (BPost (fun b=>b=true→RangeOk f.vars.length f.code.length f.code[i]) w1)):=fun w1 h1 h2 h3=>ranges289 f va vc ca cc _ ga gc w1 h1 h2 h3 hxl hf.v hf.c
 have HLE:Hid (RangeOk f.vars.length f.code.length f.code[i]→∀ w1,FldsAt w1 va f.vars→InssAt w1 ca f.code→Calls Tryz.prog 209 #[fnV f va vc ca cc,.int .i64 i] w1 (BPost (fun _=>True) w1)):=fun hr w1 h1 h2=>leaves290 f va vc ca cc i hil w1 h1 h2 hf.c hr.g
 have HTY:Hid (RangeOk f.vars.length f.code.length f.code[i]→∀ w1,TM h a f va ca f.code[i] ga w1→Calls Tryz.prog 210 #[.agg #[.slice a h.length c],fnV f va vc ca cc,inV f.code[i] ga gc] w1 (IPost (fun n=>n=0→CallOk h f.code[i]) w1)):=fun hr w1 h1=>types291 h a c f va vc ca cc _ ga gc w1 h1 hb hf.v hxl hr
 have hbb:=two_below w (hiC h a c) (fnC f va vc ca cc)
 have b0:Blk (w.alloc (hiC h a c)) w.heap.size #[.slice a h.length c] 24:=blk_new ..
 have B0:=Lib.hid (b0.below (one_below _ (fnC f va vc ca cc)))
 have B1:Hid (Blk ((w.alloc (hiC h a c)).alloc (fnC f va vc ca cc)) (w.heap.size + 1) #[.string f.cls,.string f.name,.bool f.stat,.int .i64 f.params,.slice va f.vars.length vc,.string f.result,.slice ca f.code.length cc] 90):=blk_new2 ..
 have HM:Hid (∀ w1,Below w.heap.size w w1→ClssAt w1 a h∧FldsAt w1 va f.vars∧InssAt w1 ca f.code∧IntsAt w1 ga f.code[i].args):=fun w1 h1=>⟨hc.below h1,hv.below h1,hi.below h1,hgi.below h1⟩
 replace m0:=cell_below hbb m0
 replace m1:=cell_below hbb m1
 replace m2:=cell_below hbb m2
 replace m3:=cell_below hbb m3
 replace m4:=cell_below hbb m4
 replace m5:=cell_below hbb m5
 replace m6:=cell_below hbb m6
 replace m7:=cell_below hbb m7
 replace m8:=cell_below hbb m8
 replace m9:=cell_below hbb m9
 have hcc:=hf.c
 subst he
 clear hc hv hi hgi hf hb b0
 generalize f.code[i]=x at *
 have HBB:=Lib.hid hbb
 clear hbb
 have BZ:Hid (Blk (((w.alloc (hiC h a c)).alloc (fnC f va vc (some ⟨b,off,none⟩) cc)).alloc zInC) (w.heap.size + 2) _ 92):=blk_new3 ..
 unfold fnV inV at *
 go_enter Tryz.func127,Tryz.ntmps127
 go_upto_region 2 with (refine storeInstr rfl rfl _ _ rfl (w.heap.size + 2) x ga gc rfl rfl _ BZ.out rfl ?_)
 have S0:Hid (TX h a c f va vc (some ⟨b,off,none⟩) cc x ga gc w ((((w.alloc (hiC h a c)).alloc (fnC f va vc (some ⟨b,off,none⟩) cc)).alloc zInC).setRow (w.heap.size + 2) #[.int .i64 x.op,.int .i64 x.dst,.int .i64 x.a,.int .i64 x.b,.int .i64 x.n,.string x.cls,.string x.name,.slice ga x.args.length gc,.int .i64 x.goto,.int .i64 x.catch_])):=by
  have hb3:=HBB.out.trans ((one_below ((w.alloc (hiC h a c)).alloc (fnC f va vc (some ⟨b,off,none⟩) cc)) zInC).mono HBB.out.size)
  have hb:=below_row hb3 (g:=w.heap.size + 2) (by omega) #[.int .i64 x.op,.int .i64 x.dst,.int .i64 x.a,.int .i64 x.b,.int .i64 x.n,.string x.cls,.string x.name,.slice ga x.args.length gc,.int .i64 x.goto,.int .i64 x.catch_]
  obtain ⟨q1,q2,q3,q4⟩:=HM.out _ hb
  exact ⟨(B0.out.below (one_below _ zInC)).setRow_ne (by omega) _,q1,⟨hb,(B1.out.below (one_below _ zInC)).setRow_ne (by omega) _,q2,q3⟩,⟨hb,BZ.out.setRow _,q4⟩⟩
 clear B0 B1 BZ HBB m0 m1 m2 m3 m4 m5 m6 m7 m8 m9
 generalize (((w.alloc (hiC h a c)).alloc (fnC f va vc (some ⟨b,off,none⟩) cc)).alloc zInC).setRow (w.heap.size + 2) _=W at *
 obtain ⟨x0,-,-,-,x4,-⟩:=S0.out.x.cells
 go_cut [31] (fun v wx=>∃ q,v = .bool q∧Hid (TX h a c f va vc (some ⟨b,off,none⟩) cc x ga gc w wx))
 case first =>
  go_wp2_with fail
  refine (name204 x.op _).mono ?_
  rintro e w' ⟨rfl,hb'⟩
  have S1:=Lib.hid (S0.out.below hb')
  clear S0 hb' x0 x4
  generalize nameP x.op=s at *
  obtain ⟨x0,-,-,-,x4,-⟩:=S1.out.x.cells
  go_wp2
  all_goals
   go_meet
   exact ⟨_,rfl,S1.out⟩
 case rest =>
  obtain ⟨q,rfl,S1⟩:=hcut
  clear S0 x0 x4
  cases q
  case true =>
   go_wp2
   go_ret
   exact ⟨S1.out.f.hb,_,rfl,fun e=>by cases e⟩
  obtain ⟨x0,x1,x2,x3,x4,x5,x6,x7,x8,x9⟩:=S1.out.x.cells
  go_wp2_with fail
  refine (HUN.out _ S1.out.x.ga).mono ?_
  rintro e w' ⟨hb',d,rfl,-⟩
  have S2:=Lib.hid (S1.out.below hb')
  clear S1 hb' x0 x1 x2 x3 x4 x5 x6 x7 x8 x9 HUN
  cases d
  case false =>
   go_wp2
   go_ret
   exact ⟨S2.out.f.hb,_,rfl,fun e=>by cases e⟩
  obtain ⟨x0,x1,x2,x3,x4,x5,x6,x7,x8,x9⟩:=S2.out.x.cells
  obtain ⟨y0,y1,y2,y3,y4,y5,y6⟩:=S2.out.f.cells
  go_wp2_with fail
  refine (HRA.out _ S2.out.f.hv S2.out.f.hc S2.out.x.ga).mono ?_
  rintro e w' ⟨hb',d,rfl,hr⟩
  have S3:=Lib.hid (S2.out.below hb')
  clear S2 hb' x0 x1 x2 x3 x4 x5 x6 x7 x8 x9 y0 y1 y2 y3 y4 y5 y6 HRA
  cases d
  case false =>
   clear hr
   go_wp2
   go_ret
   exact ⟨S3.out.f.hb,_,rfl,fun e=>by cases e⟩
  have HR:=Lib.hid (hr rfl)
  clear hr
  obtain ⟨y0,y1,y2,y3,y4,y5,y6⟩:=S3.out.f.cells
  go_wp2_with fail
  refine (HLE.out HR.out _ S3.out.f.hv S3.out.f.hc).mono ?_
  rintro e w' ⟨hb',d,rfl,-⟩
  have S4:=Lib.hid (S3.out.below hb')
  clear S3 hb' y0 y1 y2 y3 y4 y5 y6 HLE
  cases d
  case true =>
   go_wp2
   go_ret
   exact ⟨S4.out.f.hb,_,rfl,fun e=>by cases e⟩
  obtain ⟨x0,x1,x2,x3,x4,x5,x6,x7,x8,x9⟩:=S4.out.x.cells
  obtain ⟨y0,y1,y2,y3,y4,y5,y6⟩:=S4.out.f.cells
  have z0:=S4.out.bh.cell 0 (by simp)
  go_wp2_with fail
  refine (HTY.out HR.out _ ⟨S4.out.hc,S4.out.f.hv,S4.out.f.hc,S4.out.x.ga⟩).mono ?_
  rintro e w' ⟨hb',n,rfl,hco⟩
  have HCO:=Lib.hid hco
  have S5:=Lib.hid (S4.out.below hb')
  clear S4 hb' hco x0 x1 x2 x3 x4 x5 x6 x7 x8 x9 y0 y1 y2 y3 y4 y5 y6 z0
  go_wp2
  go_ret
  exact ⟨S5.out.f.hb,_,rfl,HCO.out⟩
end Go.Proofs.YtffcklfigpmlgaaGreatDoor
