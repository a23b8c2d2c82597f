/-
  A typer's instr, by operations. (Printed by gi9.py.)
-/
import Derived.Test.YtjnbddedmbhiaaaGreatDoorPk17
namespace Go.Proofs.YtjnbddedmbhiaaaGreatDoor
open Go.RowKit Go.ak

set_option maxRecDepth 100000 in
set_option maxHeartbeats 16000000 in
theorem RA(h:List ae)(ha:Option Addr)(hc:Nat)(f:aA)(va:Option Addr)(vc:Nat)(ca:Option Addr)(cc:Nat)(x:Ins)(ga:Option Addr)(gc:Nat)(w:World)(h0:ay w ha h)(hv:aK w va f.vars)(hg:aM w ga x.args)(ho:x.op=1)(r:0<=x.dst/\x.dst<f.vars.length) :
 Calls Tryz.prog 71 #[aR h ha hc f va vc ca cc,bN x ga gc] w (aj w (.int .i64 (tE (aD (vt f x.dst) aY)))):=by
 have S:Hid (TI h ha hc f va vc ca cc x ga gc w _):=TI.start (hc:=hc) (vc:=vc) (ca:=ca) (cc:=cc) (gc:=gc) h0 hv hg
 have HTY:Hid (∀(b:Bool) w1,Calls Tryz.prog 125 #[.bool b] w1 (Same w1 (.int .i64 (tE b)))):=fun b w1=>kP b w1
 have HI:Hid (∀w1,ay w1 ha h->aK w1 va f.vars->Calls Tryz.prog 126 #[aR h ha hc f va vc ca cc,.int .i64 x.dst] w1 (aj w1 (.bool (aD (vt f x.dst) aY)))):=fun w1 h1 h2=>oL h ha hc f va vc ca cc x.dst r.1 r.2 w1 h1 h2
 have o1:(x.op==1)=true:=by rw[ho];rfl
 clear h0 hv hg ho r
 generalize aD (vt f x.dst) aY=q at *
 unfold aR bN at *
 go_enter Tryz.func71,Tryz.ntmps71
 go_upto_region 1 with (fail)
 generalize (w.alloc _).alloc _=W at *
 obtain⟨⟨z0,z1,z2,z3,z4,z5,z6,z7⟩,⟨c0,c1,c2,c3,c4,c5,c6,c7,c8,c9⟩⟩:=S.out.now (Below.refl _ _)
 go_wp2_with (first | (go_at_call 126;(with_reducible refine(HI.out _ S.out.ty.ch S.out.ty.hv).mono ?_);rintro e w1 ⟨rfl,hb1⟩;have S:=Lib.hid (S.out.below hb1);clear hb1;obtain⟨⟨z0,z1,z2,z3,z4,z5,z6,z7⟩,⟨c0,c1,c2,c3,c4,c5,c6,c7,c8,c9⟩⟩:=S.out.now (Below.refl _ _)) | (go_at_call 125;(with_reducible refine(HTY.out _ _).mono ?_);rintro e w1 ⟨rfl,rfl⟩))
 go_ret
 exact⟨rfl,S.out.ty.hb⟩
set_option maxRecDepth 100000 in
set_option maxHeartbeats 16000000 in
theorem Rp(h:List ae)(ha:Option Addr)(hc:Nat)(f:aA)(va:Option Addr)(vc:Nat)(ca:Option Addr)(cc:Nat)(x:Ins)(ga:Option Addr)(gc:Nat)(w:World)(h0:ay w ha h)(hv:aK w va f.vars)(hg:aM w ga x.args)(ho:x.op=5)(r:0<=x.dst/\x.dst<f.vars.length) :
 Calls Tryz.prog 71 #[aR h ha hc f va vc ca cc,bN x ga gc] w (aj w (.int .i64 (tE (aD (vt f x.dst) aY)))):=by
 have S:Hid (TI h ha hc f va vc ca cc x ga gc w _):=TI.start (hc:=hc) (vc:=vc) (ca:=ca) (cc:=cc) (gc:=gc) h0 hv hg
 have HTY:Hid (∀(b:Bool) w1,Calls Tryz.prog 125 #[.bool b] w1 (Same w1 (.int .i64 (tE b)))):=fun b w1=>kP b w1
 have HI:Hid (∀w1,ay w1 ha h->aK w1 va f.vars->Calls Tryz.prog 126 #[aR h ha hc f va vc ca cc,.int .i64 x.dst] w1 (aj w1 (.bool (aD (vt f x.dst) aY)))):=fun w1 h1 h2=>oL h ha hc f va vc ca cc x.dst r.1 r.2 w1 h1 h2
 have o1:(x.op==1)=false:=by rw[ho];rfl
 have o5:(x.op==5)=true:=by rw[ho];rfl
 clear h0 hv hg ho r
 generalize aD (vt f x.dst) aY=q at *
 unfold aR bN at *
 go_enter Tryz.func71,Tryz.ntmps71
 go_upto_region 1 with (fail)
 generalize (w.alloc _).alloc _=W at *
 obtain⟨⟨z0,z1,z2,z3,z4,z5,z6,z7⟩,⟨c0,c1,c2,c3,c4,c5,c6,c7,c8,c9⟩⟩:=S.out.now (Below.refl _ _)
 go_wp2_with (first | (go_at_call 126;(with_reducible refine(HI.out _ S.out.ty.ch S.out.ty.hv).mono ?_);rintro e w1 ⟨rfl,hb1⟩;have S:=Lib.hid (S.out.below hb1);clear hb1;obtain⟨⟨z0,z1,z2,z3,z4,z5,z6,z7⟩,⟨c0,c1,c2,c3,c4,c5,c6,c7,c8,c9⟩⟩:=S.out.now (Below.refl _ _)) | (go_at_call 125;(with_reducible refine(HTY.out _ _).mono ?_);rintro e w1 ⟨rfl,rfl⟩))
 go_ret
 exact⟨rfl,S.out.ty.hb⟩
set_option maxRecDepth 100000 in
set_option maxHeartbeats 16000000 in
theorem Rt(h:List ae)(ha:Option Addr)(hc:Nat)(f:aA)(va:Option Addr)(vc:Nat)(ca:Option Addr)(cc:Nat)(x:Ins)(ga:Option Addr)(gc:Nat)(w:World)(h0:ay w ha h)(hv:aK w va f.vars)(hg:aM w ga x.args)(ho:x.op=2)(r:0<=x.dst/\x.dst<f.vars.length) :
 Calls Tryz.prog 71 #[aR h ha hc f va vc ca cc,bN x ga gc] w (aj w (.int .i64 (tE (!aD (vt f x.dst) aY)))):=by
 have S:Hid (TI h ha hc f va vc ca cc x ga gc w _):=TI.start (hc:=hc) (vc:=vc) (ca:=ca) (cc:=cc) (gc:=gc) h0 hv hg
 have HTY:Hid (∀(b:Bool) w1,Calls Tryz.prog 125 #[.bool b] w1 (Same w1 (.int .i64 (tE b)))):=fun b w1=>kP b w1
 have HI:Hid (∀w1,ay w1 ha h->aK w1 va f.vars->Calls Tryz.prog 126 #[aR h ha hc f va vc ca cc,.int .i64 x.dst] w1 (aj w1 (.bool (aD (vt f x.dst) aY)))):=fun w1 h1 h2=>oL h ha hc f va vc ca cc x.dst r.1 r.2 w1 h1 h2
 have o1:(x.op==1)=false:=by rw[ho];rfl
 have o5:(x.op==5)=false:=by rw[ho];rfl
 have o2:(x.op==2)=true:=by rw[ho];rfl
 clear h0 hv hg ho r
 generalize aD (vt f x.dst) aY=q at *
 unfold aR bN at *
 go_enter Tryz.func71,Tryz.ntmps71
 go_upto_region 1 with (fail)
 generalize (w.alloc _).alloc _=W at *
 obtain⟨⟨z0,z1,z2,z3,z4,z5,z6,z7⟩,⟨c0,c1,c2,c3,c4,c5,c6,c7,c8,c9⟩⟩:=S.out.now (Below.refl _ _)
 go_wp2_with (first | (go_at_call 126;(with_reducible refine(HI.out _ S.out.ty.ch S.out.ty.hv).mono ?_);rintro e w1 ⟨rfl,hb1⟩;have S:=Lib.hid (S.out.below hb1);clear hb1;obtain⟨⟨z0,z1,z2,z3,z4,z5,z6,z7⟩,⟨c0,c1,c2,c3,c4,c5,c6,c7,c8,c9⟩⟩:=S.out.now (Below.refl _ _)) | (go_at_call 125;(with_reducible refine(HTY.out _ _).mono ?_);rintro e w1 ⟨rfl,rfl⟩))
 go_ret
 exact⟨rfl,S.out.ty.hb⟩
set_option maxRecDepth 100000 in
set_option maxHeartbeats 16000000 in
theorem Ry(h:List ae)(ha:Option Addr)(hc:Nat)(f:aA)(va:Option Addr)(vc:Nat)(ca:Option Addr)(cc:Nat)(x:Ins)(ga:Option Addr)(gc:Nat)(w:World)(h0:ay w ha h)(hv:aK w va f.vars)(hg:aM w ga x.args)(ho:x.op=11)(r:0<=x.a/\x.a<f.vars.length) :
 Calls Tryz.prog 71 #[aR h ha hc f va vc ca cc,bN x ga gc] w (aj w (.int .i64 (tE (aD (vt f x.a) aY)))):=by
 have S:Hid (TI h ha hc f va vc ca cc x ga gc w _):=TI.start (hc:=hc) (vc:=vc) (ca:=ca) (cc:=cc) (gc:=gc) h0 hv hg
 have HTY:Hid (∀(b:Bool) w1,Calls Tryz.prog 125 #[.bool b] w1 (Same w1 (.int .i64 (tE b)))):=fun b w1=>kP b w1
 have HI:Hid (∀w1,ay w1 ha h->aK w1 va f.vars->Calls Tryz.prog 126 #[aR h ha hc f va vc ca cc,.int .i64 x.a] w1 (aj w1 (.bool (aD (vt f x.a) aY)))):=fun w1 h1 h2=>oL h ha hc f va vc ca cc x.a r.1 r.2 w1 h1 h2
 have o1:(x.op==1)=false:=by rw[ho];rfl
 have o5:(x.op==5)=false:=by rw[ho];rfl
 have o2:(x.op==2)=false:=by rw[ho];rfl
 have o3:(x.op==3)=false:=by rw[ho];rfl
 have o16:(x.op==16)=false:=by rw[ho];rfl
 have o11:(x.op==11)=true:=by rw[ho];rfl
 clear h0 hv hg ho r
 generalize aD (vt f x.a) aY=q at *
 unfold aR bN at *
 go_enter Tryz.func71,Tryz.ntmps71
 go_upto_region 1 with (fail)
 generalize (w.alloc _).alloc _=W at *
 obtain⟨⟨z0,z1,z2,z3,z4,z5,z6,z7⟩,⟨c0,c1,c2,c3,c4,c5,c6,c7,c8,c9⟩⟩:=S.out.now (Below.refl _ _)
 go_wp2_with (first | (go_at_call 126;(with_reducible refine(HI.out _ S.out.ty.ch S.out.ty.hv).mono ?_);rintro e w1 ⟨rfl,hb1⟩;have S:=Lib.hid (S.out.below hb1);clear hb1;obtain⟨⟨z0,z1,z2,z3,z4,z5,z6,z7⟩,⟨c0,c1,c2,c3,c4,c5,c6,c7,c8,c9⟩⟩:=S.out.now (Below.refl _ _)) | (go_at_call 125;(with_reducible refine(HTY.out _ _).mono ?_);rintro e w1 ⟨rfl,rfl⟩))
 go_ret
 exact⟨rfl,S.out.ty.hb⟩
set_option maxRecDepth 100000 in
set_option maxHeartbeats 16000000 in
theorem Rw(h:List ae)(ha:Option Addr)(hc:Nat)(f:aA)(va:Option Addr)(vc:Nat)(ca:Option Addr)(cc:Nat)(x:Ins)(ga:Option Addr)(gc:Nat)(w:World)(h0:ay w ha h)(hv:aK w va f.vars)(hg:aM w ga x.args)(ho:x.op=14)(r:0<=x.a/\x.a<f.vars.length) :
 Calls Tryz.prog 71 #[aR h ha hc f va vc ca cc,bN x ga gc] w (aj w (.int .i64 (tE (!aD (vt f x.a) aY)))):=by
 have S:Hid (TI h ha hc f va vc ca cc x ga gc w _):=TI.start (hc:=hc) (vc:=vc) (ca:=ca) (cc:=cc) (gc:=gc) h0 hv hg
 have HTY:Hid (∀(b:Bool) w1,Calls Tryz.prog 125 #[.bool b] w1 (Same w1 (.int .i64 (tE b)))):=fun b w1=>kP b w1
 have HI:Hid (∀w1,ay w1 ha h->aK w1 va f.vars->Calls Tryz.prog 126 #[aR h ha hc f va vc ca cc,.int .i64 x.a] w1 (aj w1 (.bool (aD (vt f x.a) aY)))):=fun w1 h1 h2=>oL h ha hc f va vc ca cc x.a r.1 r.2 w1 h1 h2
 have o1:(x.op==1)=false:=by rw[ho];rfl
 have o5:(x.op==5)=false:=by rw[ho];rfl
 have o2:(x.op==2)=false:=by rw[ho];rfl
 have o3:(x.op==3)=false:=by rw[ho];rfl
 have o16:(x.op==16)=false:=by rw[ho];rfl
 have o11:(x.op==11)=false:=by rw[ho];rfl
 have o14:(x.op==14)=true:=by rw[ho];rfl
 clear h0 hv hg ho r
 generalize aD (vt f x.a) aY=q at *
 unfold aR bN at *
 go_enter Tryz.func71,Tryz.ntmps71
 go_upto_region 1 with (fail)
 generalize (w.alloc _).alloc _=W at *
 obtain⟨⟨z0,z1,z2,z3,z4,z5,z6,z7⟩,⟨c0,c1,c2,c3,c4,c5,c6,c7,c8,c9⟩⟩:=S.out.now (Below.refl _ _)
 go_wp2_with (first | (go_at_call 126;(with_reducible refine(HI.out _ S.out.ty.ch S.out.ty.hv).mono ?_);rintro e w1 ⟨rfl,hb1⟩;have S:=Lib.hid (S.out.below hb1);clear hb1;obtain⟨⟨z0,z1,z2,z3,z4,z5,z6,z7⟩,⟨c0,c1,c2,c3,c4,c5,c6,c7,c8,c9⟩⟩:=S.out.now (Below.refl _ _)) | (go_at_call 125;(with_reducible refine(HTY.out _ _).mono ?_);rintro e w1 ⟨rfl,rfl⟩))
 go_ret
 exact⟨rfl,S.out.ty.hb⟩

set_option maxRecDepth 100000 in
set_option maxHeartbeats 16000000 in
theorem Rn(h:List ae)(ha:Option Addr)(hc:Nat)(f:aA)(va:Option Addr)(vc:Nat)(ca:Option Addr)(cc:Nat)(x:Ins)(ga:Option Addr)(gc:Nat)(w:World)(h0:ay w ha h)(hv:aK w va f.vars)(hg:aM w ga x.args)(ho:x.op=7)(hl:h.length<=100000)(hm:∀c∈h,c.fields.length<=100000)(ra:0<=x.a/\x.a<f.vars.length)(rdst:0<=x.dst/\x.dst<f.vars.length) :
 Calls Tryz.prog 71 #[aR h ha hc f va vc ca cc,bN x ga gc] w (aj w (.int .i64 (nY h f x))):=by
 have S:Hid (TI h ha hc f va vc ca cc x ga gc w _):=TI.start (hc:=hc) (vc:=vc) (ca:=ca) (cc:=cc) (gc:=gc) h0 hv hg
 have o1:(x.op==1)=false:=by rw[ho];rfl
 have o5:(x.op==5)=false:=by rw[ho];rfl
 have o2:(x.op==2)=false:=by rw[ho];rfl
 have o3:(x.op==3)=false:=by rw[ho];rfl
 have o16:(x.op==16)=false:=by rw[ho];rfl
 have o11:(x.op==11)=false:=by rw[ho];rfl
 have o14:(x.op==14)=false:=by rw[ho];rfl
 have o4:(x.op==4)=false:=by rw[ho];rfl
 have o6:(x.op==6)=false:=by rw[ho];rfl
 have o15:(x.op==15)=false:=by rw[ho];rfl
 have o7:(x.op==7)=true:=by rw[ho];rfl
 have HFF:Hid (∀w1,ay w1 ha h->aK w1 va f.vars->aM w1 ga x.args->Calls Tryz.prog 129 #[aR h ha hc f va vc ca cc,bN x ga gc] w1 (aj w1 (.int .i64 (nY h f x)))):=fun w1 h1 h2 h3=>Jv h ha hc f va vc ca cc x ga gc w1 h1 h2 h3 hl hm ra (fun _=>rdst) (fun e=>absurd ho e)
 clear h0 hv hg ho ra rdst hl hm
 unfold aR bN at *
 go_enter Tryz.func71,Tryz.ntmps71
 go_upto_region 1 with (fail)
 generalize (w.alloc _).alloc _=W at *
 obtain⟨⟨z0,z1,z2,z3,z4,z5,z6,z7⟩,⟨c0,c1,c2,c3,c4,c5,c6,c7,c8,c9⟩⟩:=S.out.now (Below.refl _ _)
 go_wp2_with (go_at_call 129;(with_reducible refine(HFF.out _ S.out.ty.ch S.out.ty.hv S.out.ix.ga).mono ?_);rintro e w1 ⟨rfl,hb1⟩;have S:=Lib.hid (S.out.below hb1);clear hb1)
 go_ret
 exact⟨rfl,S.out.ty.hb⟩
set_option maxRecDepth 100000 in
set_option maxHeartbeats 16000000 in
theorem Rm(h:List ae)(ha:Option Addr)(hc:Nat)(f:aA)(va:Option Addr)(vc:Nat)(ca:Option Addr)(cc:Nat)(x:Ins)(ga:Option Addr)(gc:Nat)(w:World)(h0:ay w ha h)(hv:aK w va f.vars)(hg:aM w ga x.args)(ho:x.op=8)(hl:h.length<=100000)(hm:∀c∈h,c.fields.length<=100000)(ra:0<=x.a/\x.a<f.vars.length)(rb:0<=x.b/\x.b<f.vars.length) :
 Calls Tryz.prog 71 #[aR h ha hc f va vc ca cc,bN x ga gc] w (aj w (.int .i64 (nY h f x))):=by
 have S:Hid (TI h ha hc f va vc ca cc x ga gc w _):=TI.start (hc:=hc) (vc:=vc) (ca:=ca) (cc:=cc) (gc:=gc) h0 hv hg
 have o1:(x.op==1)=false:=by rw[ho];rfl
 have o5:(x.op==5)=false:=by rw[ho];rfl
 have o2:(x.op==2)=false:=by rw[ho];rfl
 have o3:(x.op==3)=false:=by rw[ho];rfl
 have o16:(x.op==16)=false:=by rw[ho];rfl
 have o11:(x.op==11)=false:=by rw[ho];rfl
 have o14:(x.op==14)=false:=by rw[ho];rfl
 have o4:(x.op==4)=false:=by rw[ho];rfl
 have o6:(x.op==6)=false:=by rw[ho];rfl
 have o15:(x.op==15)=false:=by rw[ho];rfl
 have o7:(x.op==7)=false:=by rw[ho];rfl
 have o8:(x.op==8)=true:=by rw[ho];rfl
 have HFF:Hid (∀w1,ay w1 ha h->aK w1 va f.vars->aM w1 ga x.args->Calls Tryz.prog 129 #[aR h ha hc f va vc ca cc,bN x ga gc] w1 (aj w1 (.int .i64 (nY h f x)))):=fun w1 h1 h2 h3=>Jv h ha hc f va vc ca cc x ga gc w1 h1 h2 h3 hl hm ra (fun e=>by omega) (fun _=>rb)
 clear h0 hv hg ho ra rb hl hm
 unfold aR bN at *
 go_enter Tryz.func71,Tryz.ntmps71
 go_upto_region 1 with (fail)
 generalize (w.alloc _).alloc _=W at *
 obtain⟨⟨z0,z1,z2,z3,z4,z5,z6,z7⟩,⟨c0,c1,c2,c3,c4,c5,c6,c7,c8,c9⟩⟩:=S.out.now (Below.refl _ _)
 go_wp2_with (go_at_call 129;(with_reducible refine(HFF.out _ S.out.ty.ch S.out.ty.hv S.out.ix.ga).mono ?_);rintro e w1 ⟨rfl,hb1⟩;have S:=Lib.hid (S.out.below hb1);clear hb1)
 go_ret
 exact⟨rfl,S.out.ty.hb⟩

set_option maxRecDepth 100000 in
set_option maxHeartbeats 16000000 in
theorem Ru(h:List ae)(ha:Option Addr)(hc:Nat)(f:aA)(va:Option Addr)(vc:Nat)(ca:Option Addr)(cc:Nat)(x:Ins)(ga:Option Addr)(gc:Nat)(w:World)(h0:ay w ha h)(hv:aK w va f.vars)(hg:aM w ga x.args)(ho:x.op=16)(ra:0<=x.a/\x.a<f.vars.length)(rdst:0<=x.dst/\x.dst<f.vars.length) :
 Calls Tryz.prog 71 #[aR h ha hc f va vc ca cc,bN x ga gc] w (aj w (.int .i64 (tE (aD (vt f x.a) aY&&aD (vt f x.dst) aY)))):=by
 have S:Hid (TI h ha hc f va vc ca cc x ga gc w _):=TI.start (hc:=hc) (vc:=vc) (ca:=ca) (cc:=cc) (gc:=gc) h0 hv hg
 have HTY:Hid (∀(b:Bool) w1,Calls Tryz.prog 125 #[.bool b] w1 (Same w1 (.int .i64 (tE b)))):=fun b w1=>kP b w1
 have HI:Hid (∀w1,ay w1 ha h->aK w1 va f.vars->Calls Tryz.prog 126 #[aR h ha hc f va vc ca cc,.int .i64 x.a] w1 (aj w1 (.bool (aD (vt f x.a) aY)))):=fun w1 h1 h2=>oL h ha hc f va vc ca cc x.a ra.1 ra.2 w1 h1 h2
 have HJ:Hid (∀w1,ay w1 ha h->aK w1 va f.vars->Calls Tryz.prog 126 #[aR h ha hc f va vc ca cc,.int .i64 x.dst] w1 (aj w1 (.bool (aD (vt f x.dst) aY)))):=fun w1 h1 h2=>oL h ha hc f va vc ca cc x.dst rdst.1 rdst.2 w1 h1 h2
 have o1:(x.op==1)=false:=by rw[ho];rfl
 have o5:(x.op==5)=false:=by rw[ho];rfl
 have o2:(x.op==2)=false:=by rw[ho];rfl
 have o3:(x.op==3)=false:=by rw[ho];rfl
 have o16:(x.op==16)=true:=by rw[ho];rfl
 clear h0 hv hg ho ra rdst
 generalize aD (vt f x.a) aY=qa at *
 generalize aD (vt f x.dst) aY=qd at *
 unfold aR bN at *
 cases qa
 all_goals
  go_enter Tryz.func71,Tryz.ntmps71
  go_upto_region 1 with (fail)
  generalize (w.alloc _).alloc _=W at *
  obtain⟨⟨z0,z1,z2,z3,z4,z5,z6,z7⟩,⟨c0,c1,c2,c3,c4,c5,c6,c7,c8,c9⟩⟩:=S.out.now (Below.refl _ _)
  go_wp2_with (first | (go_at_call 126;(with_reducible refine(HI.out _ S.out.ty.ch S.out.ty.hv).mono ?_);rintro e w1 ⟨rfl,hb1⟩;have S:=Lib.hid (S.out.below hb1);clear hb1;obtain⟨⟨z0,z1,z2,z3,z4,z5,z6,z7⟩,⟨c0,c1,c2,c3,c4,c5,c6,c7,c8,c9⟩⟩:=S.out.now (Below.refl _ _)) | (go_at_call 126;(with_reducible refine(HJ.out _ S.out.ty.ch S.out.ty.hv).mono ?_);rintro e w1 ⟨rfl,hb1⟩;have S:=Lib.hid (S.out.below hb1);clear hb1;obtain⟨⟨z0,z1,z2,z3,z4,z5,z6,z7⟩,⟨c0,c1,c2,c3,c4,c5,c6,c7,c8,c9⟩⟩:=S.out.now (Below.refl _ _)) | (go_at_call 125;(with_reducible refine(HTY.out _ _).mono ?_);rintro e w1 ⟨rfl,rfl⟩))
  go_ret
  exact⟨rfl,S.out.ty.hb⟩

set_option maxRecDepth 100000 in
set_option maxHeartbeats 16000000 in
theorem Ro(h:List ae)(ha:Option Addr)(hc:Nat)(f:aA)(va:Option Addr)(vc:Nat)(ca:Option Addr)(cc:Nat)(x:Ins)(ga:Option Addr)(gc:Nat)(w:World)(h0:ay w ha h)(hv:aK w va f.vars)(hg:aM w ga x.args)(ho:x.op=6)(hl:h.length<=100000)(rdst:0<=x.dst/\x.dst<f.vars.length) :
 Calls Tryz.prog 71 #[aR h ha hc f va vc ca cc,bN x ga gc] w (aj w (.int .i64 (if aI h x.cls<0 then 6 else tE (dm h x.cls (vt f x.dst))))):=by
 have S:Hid (TI h ha hc f va vc ca cc x ga gc w _):=TI.start (hc:=hc) (vc:=vc) (ca:=ca) (cc:=cc) (gc:=gc) h0 hv hg
 have HTY:Hid (∀(b:Bool) w1,Calls Tryz.prog 125 #[.bool b] w1 (Same w1 (.int .i64 (tE b)))):=fun b w1=>kP b w1
 have HFT:Hid (∀(s t:Str) w1,ay w1 ha h->aK w1 va f.vars->Calls Tryz.prog 127 #[aR h ha hc f va vc ca cc,.string s,.string t] w1 (aj w1 (.bool (dm h s t)))):=fun s t w1 h1 h2=>uT h ha hc f va vc ca cc s t w1 h1 h2 hl
 have HOD:Hid (∀w1,ay w1 ha h->aK w1 va f.vars->Calls Tryz.prog 128 #[aR h ha hc f va vc ca cc,.int .i64 x.dst] w1 (aj w1 (.string (vt f x.dst)))):=fun w1 h1 h2=>nD h ha hc f va vc ca cc x.dst rdst.1 rdst.2 w1 h1 h2
 have o1:(x.op==1)=false:=by rw[ho];rfl
 have o5:(x.op==5)=false:=by rw[ho];rfl
 have o2:(x.op==2)=false:=by rw[ho];rfl
 have o3:(x.op==3)=false:=by rw[ho];rfl
 have o16:(x.op==16)=false:=by rw[ho];rfl
 have o11:(x.op==11)=false:=by rw[ho];rfl
 have o14:(x.op==14)=false:=by rw[ho];rfl
 have o4:(x.op==4)=false:=by rw[ho];rfl
 have o6:(x.op==6)=true:=by rw[ho];rfl
 have HFI:Hid (∀w1,ay w1 ha h->Calls Tryz.prog 66 #[.agg #[.slice ha h.length hc],.string x.cls] w1 (aj w1 (.int .i64 (aI h x.cls)))):=fun w1 h1=>yL h ha hc x.cls w1 h1 (by omega)
 clear h0 hv hg ho rdst hl
 generalize aI h x.cls=n at *
 unfold aR bN at *
 by_cases hn:n<0
 case pos =>
  rw[if_pos hn]
  have t1:decide (n<0)=true:=decide_eq_true hn
  clear hn HOD HFT HTY
  go_enter Tryz.func71,Tryz.ntmps71
  go_upto_region 1 with (fail)
  generalize (w.alloc _).alloc _=W at *
  obtain⟨⟨z0,z1,z2,z3,z4,z5,z6,z7⟩,⟨c0,c1,c2,c3,c4,c5,c6,c7,c8,c9⟩⟩:=S.out.now (Below.refl _ _)
  go_wp2_with (go_at_call 66;(with_reducible refine(HFI.out _ S.out.ty.ch).mono ?_);rintro e w1 ⟨rfl,hb1⟩;have S:=Lib.hid (S.out.below hb1);clear hb1)
  go_ret
  exact⟨rfl,S.out.ty.hb⟩
 case neg =>
  rw[if_neg hn]
  have t1:decide (n<0)=false:=decide_eq_false hn
  clear hn
  go_enter Tryz.func71,Tryz.ntmps71
  go_upto_region 1 with (fail)
  generalize (w.alloc _).alloc _=W at *
  obtain⟨⟨z0,z1,z2,z3,z4,z5,z6,z7⟩,⟨c0,c1,c2,c3,c4,c5,c6,c7,c8,c9⟩⟩:=S.out.now (Below.refl _ _)
  go_wp2_with fail
  (with_reducible refine(HFI.out _ S.out.ty.ch).mono ?_)
  rintro e w1 ⟨rfl,hb1⟩
  replace S:=Lib.hid (S.out.below hb1)
  clear hb1 z0 z1 z2 z3 z4 z5 z6 z7 c0 c1 c2 c3 c4 c5 c6 c7 c8 c9 HFI
  go_upto_region 22 with (fail)
  have y0:∀o:WB w1,o.u.cell? ⟨w.heap.size,0,none⟩=some (.slice ha h.length hc):=fun o=>(S.out.now o.h).1.1
  have y1:∀o:WB w1,o.u.cell? ⟨w.heap.size,1,none⟩=some (.string f.cls):=fun o=>(S.out.now o.h).1.2.1
  have y2:∀o:WB w1,o.u.cell? ⟨w.heap.size,2,none⟩=some (.string f.name):=fun o=>(S.out.now o.h).1.2.2.1
  have y3:∀o:WB w1,o.u.cell? ⟨w.heap.size,3,none⟩=some (.bool f.stat):=fun o=>(S.out.now o.h).1.2.2.2.1
  have y4:∀o:WB w1,o.u.cell? ⟨w.heap.size,4,none⟩=some (.int .i64 f.params):=fun o=>(S.out.now o.h).1.2.2.2.2.1
  have y5:∀o:WB w1,o.u.cell? ⟨w.heap.size,5,none⟩=some (.slice va f.vars.length vc):=fun o=>(S.out.now o.h).1.2.2.2.2.2.1
  have y6:∀o:WB w1,o.u.cell? ⟨w.heap.size,6,none⟩=some (.string f.result):=fun o=>(S.out.now o.h).1.2.2.2.2.2.2.1
  have y7:∀o:WB w1,o.u.cell? ⟨w.heap.size,7,none⟩=some (.slice ca f.code.length cc):=fun o=>(S.out.now o.h).1.2.2.2.2.2.2.2
  have x1:∀o:WB w1,o.u.cell? ⟨w.heap.size+1,1,none⟩=some (.int .i64 x.dst):=fun o=>(S.out.now o.h).2.2.1
  have x5:∀o:WB w1,o.u.cell? ⟨w.heap.size+1,5,none⟩=some (.string x.cls):=fun o=>(S.out.now o.h).2.2.2.2.2.2.1
  have hne:Nonempty (WB w1):=⟨⟨w1,Below.refl _ _⟩⟩
  refine bJ w1 (by kernel_rfl) ?_
  repeat (go_big_quiet_step (first | (go_at_call 128;rename_i o;with_reducible exact(HOD.out _ (S.out.below o.h).ty.ch (S.out.below o.h).ty.hv).mono (fun _ _ h=>aj.bu h)) | (go_at_call 127;rename_i o;with_reducible exact(HFT.out _ _ _ (S.out.below o.h).ty.ch (S.out.below o.h).ty.hv).mono (fun _ _ h=>aj.bu h)) | (go_at_call 125;rename_i o;exact(HTY.out _ _).mono (fun _ _ h=>Same.bu h))))
  refine wpQuiet_nil ?_
  intro _ hw'
  obtain⟨o,rfl⟩:=hw'
  replace S:=Lib.hid (S.out.below o.h)
  clear hne y0 y1 y2 y3 y4 y5 y6 y7 x1 x5
  generalize o.u=W2 at *
  go_wp2
  go_ret
  exact⟨rfl,S.out.ty.hb⟩
set_option maxRecDepth 100000 in
set_option maxHeartbeats 16000000 in
theorem Rv(h:List ae)(ha:Option Addr)(hc:Nat)(f:aA)(va:Option Addr)(vc:Nat)(ca:Option Addr)(cc:Nat)(x:Ins)(ga:Option Addr)(gc:Nat)(w:World)(h0:ay w ha h)(hv:aK w va f.vars)(hg:aM w ga x.args)(ho:x.op=15)(hl:h.length<=100000)(rdst:0<=x.dst/\x.dst<f.vars.length) :
 Calls Tryz.prog 71 #[aR h ha hc f va vc ca cc,bN x ga gc] w (aj w (.int .i64 (if aI h x.cls<0 then 6 else tE (dm h x.cls (vt f x.dst))))):=by
 have S:Hid (TI h ha hc f va vc ca cc x ga gc w _):=TI.start (hc:=hc) (vc:=vc) (ca:=ca) (cc:=cc) (gc:=gc) h0 hv hg
 have HTY:Hid (∀(b:Bool) w1,Calls Tryz.prog 125 #[.bool b] w1 (Same w1 (.int .i64 (tE b)))):=fun b w1=>kP b w1
 have HFT:Hid (∀(s t:Str) w1,ay w1 ha h->aK w1 va f.vars->Calls Tryz.prog 127 #[aR h ha hc f va vc ca cc,.string s,.string t] w1 (aj w1 (.bool (dm h s t)))):=fun s t w1 h1 h2=>uT h ha hc f va vc ca cc s t w1 h1 h2 hl
 have HOD:Hid (∀w1,ay w1 ha h->aK w1 va f.vars->Calls Tryz.prog 128 #[aR h ha hc f va vc ca cc,.int .i64 x.dst] w1 (aj w1 (.string (vt f x.dst)))):=fun w1 h1 h2=>nD h ha hc f va vc ca cc x.dst rdst.1 rdst.2 w1 h1 h2
 have o1:(x.op==1)=false:=by rw[ho];rfl
 have o5:(x.op==5)=false:=by rw[ho];rfl
 have o2:(x.op==2)=false:=by rw[ho];rfl
 have o3:(x.op==3)=false:=by rw[ho];rfl
 have o16:(x.op==16)=false:=by rw[ho];rfl
 have o11:(x.op==11)=false:=by rw[ho];rfl
 have o14:(x.op==14)=false:=by rw[ho];rfl
 have o4:(x.op==4)=false:=by rw[ho];rfl
 have o6:(x.op==6)=false:=by rw[ho];rfl
 have o15:(x.op==15)=true:=by rw[ho];rfl
 have HFI:Hid (∀w1,ay w1 ha h->Calls Tryz.prog 66 #[.agg #[.slice ha h.length hc],.string x.cls] w1 (aj w1 (.int .i64 (aI h x.cls)))):=fun w1 h1=>yL h ha hc x.cls w1 h1 (by omega)
 clear h0 hv hg ho rdst hl
 generalize aI h x.cls=n at *
 unfold aR bN at *
 by_cases hn:n<0
 case pos =>
  rw[if_pos hn]
  have t1:decide (n<0)=true:=decide_eq_true hn
  clear hn HOD HFT HTY
  go_enter Tryz.func71,Tryz.ntmps71
  go_upto_region 1 with (fail)
  generalize (w.alloc _).alloc _=W at *
  obtain⟨⟨z0,z1,z2,z3,z4,z5,z6,z7⟩,⟨c0,c1,c2,c3,c4,c5,c6,c7,c8,c9⟩⟩:=S.out.now (Below.refl _ _)
  go_wp2_with (go_at_call 66;(with_reducible refine(HFI.out _ S.out.ty.ch).mono ?_);rintro e w1 ⟨rfl,hb1⟩;have S:=Lib.hid (S.out.below hb1);clear hb1)
  go_ret
  exact⟨rfl,S.out.ty.hb⟩
 case neg =>
  rw[if_neg hn]
  have t1:decide (n<0)=false:=decide_eq_false hn
  clear hn
  go_enter Tryz.func71,Tryz.ntmps71
  go_upto_region 1 with (fail)
  generalize (w.alloc _).alloc _=W at *
  obtain⟨⟨z0,z1,z2,z3,z4,z5,z6,z7⟩,⟨c0,c1,c2,c3,c4,c5,c6,c7,c8,c9⟩⟩:=S.out.now (Below.refl _ _)
  go_wp2_with fail
  (with_reducible refine(HFI.out _ S.out.ty.ch).mono ?_)
  rintro e w1 ⟨rfl,hb1⟩
  replace S:=Lib.hid (S.out.below hb1)
  clear hb1 z0 z1 z2 z3 z4 z5 z6 z7 c0 c1 c2 c3 c4 c5 c6 c7 c8 c9 HFI
  go_upto_region 22 with (fail)
  have y0:∀o:WB w1,o.u.cell? ⟨w.heap.size,0,none⟩=some (.slice ha h.length hc):=fun o=>(S.out.now o.h).1.1
  have y1:∀o:WB w1,o.u.cell? ⟨w.heap.size,1,none⟩=some (.string f.cls):=fun o=>(S.out.now o.h).1.2.1
  have y2:∀o:WB w1,o.u.cell? ⟨w.heap.size,2,none⟩=some (.string f.name):=fun o=>(S.out.now o.h).1.2.2.1
  have y3:∀o:WB w1,o.u.cell? ⟨w.heap.size,3,none⟩=some (.bool f.stat):=fun o=>(S.out.now o.h).1.2.2.2.1
  have y4:∀o:WB w1,o.u.cell? ⟨w.heap.size,4,none⟩=some (.int .i64 f.params):=fun o=>(S.out.now o.h).1.2.2.2.2.1
  have y5:∀o:WB w1,o.u.cell? ⟨w.heap.size,5,none⟩=some (.slice va f.vars.length vc):=fun o=>(S.out.now o.h).1.2.2.2.2.2.1
  have y6:∀o:WB w1,o.u.cell? ⟨w.heap.size,6,none⟩=some (.string f.result):=fun o=>(S.out.now o.h).1.2.2.2.2.2.2.1
  have y7:∀o:WB w1,o.u.cell? ⟨w.heap.size,7,none⟩=some (.slice ca f.code.length cc):=fun o=>(S.out.now o.h).1.2.2.2.2.2.2.2
  have x1:∀o:WB w1,o.u.cell? ⟨w.heap.size+1,1,none⟩=some (.int .i64 x.dst):=fun o=>(S.out.now o.h).2.2.1
  have x5:∀o:WB w1,o.u.cell? ⟨w.heap.size+1,5,none⟩=some (.string x.cls):=fun o=>(S.out.now o.h).2.2.2.2.2.2.1
  have hne:Nonempty (WB w1):=⟨⟨w1,Below.refl _ _⟩⟩
  refine bJ w1 (by kernel_rfl) ?_
  repeat (go_big_quiet_step (first | (go_at_call 128;rename_i o;with_reducible exact(HOD.out _ (S.out.below o.h).ty.ch (S.out.below o.h).ty.hv).mono (fun _ _ h=>aj.bu h)) | (go_at_call 127;rename_i o;with_reducible exact(HFT.out _ _ _ (S.out.below o.h).ty.ch (S.out.below o.h).ty.hv).mono (fun _ _ h=>aj.bu h)) | (go_at_call 125;rename_i o;exact(HTY.out _ _).mono (fun _ _ h=>Same.bu h))))
  refine wpQuiet_nil ?_
  intro _ hw'
  obtain⟨o,rfl⟩:=hw'
  replace S:=Lib.hid (S.out.below o.h)
  clear hne y0 y1 y2 y3 y4 y5 y6 y7 x1 x5
  generalize o.u=W2 at *
  go_wp2
  go_ret
  exact⟨rfl,S.out.ty.hb⟩

set_option maxRecDepth 100000 in
set_option maxHeartbeats 16000000 in
theorem Rq(h:List ae)(ha:Option Addr)(hc:Nat)(f:aA)(va:Option Addr)(vc:Nat)(ca:Option Addr)(cc:Nat)(x:Ins)(ga:Option Addr)(gc:Nat)(w:World)(h0:ay w ha h)(hv:aK w va f.vars)(hg:aM w ga x.args)(ho:x.op=4)(ra:0<=x.a/\x.a<f.vars.length)(rb:0<=x.b/\x.b<f.vars.length)(rdst:0<=x.dst/\x.dst<f.vars.length) :
 Calls Tryz.prog 71 #[aR h ha hc f va vc ca cc,bN x ga gc] w (aj w (.int .i64 (tE (aD (vt f x.dst) aY&&(aD (vt f x.a) aY&&aD (vt f x.b) aY||x.n==5 && !aD (vt f x.a) aY && !aD (vt f x.b) aY))))):=by
 have S:Hid (TI h ha hc f va vc ca cc x ga gc w _):=TI.start (hc:=hc) (vc:=vc) (ca:=ca) (cc:=cc) (gc:=gc) h0 hv hg
 have HTY:Hid (∀(b:Bool) w1,Calls Tryz.prog 125 #[.bool b] w1 (Same w1 (.int .i64 (tE b)))):=fun b w1=>kP b w1
 have HI:Hid (∀w1,ay w1 ha h->aK w1 va f.vars->Calls Tryz.prog 126 #[aR h ha hc f va vc ca cc,.int .i64 x.a] w1 (aj w1 (.bool (aD (vt f x.a) aY)))):=fun w1 h1 h2=>oL h ha hc f va vc ca cc x.a ra.1 ra.2 w1 h1 h2
 have HK:Hid (∀w1,ay w1 ha h->aK w1 va f.vars->Calls Tryz.prog 126 #[aR h ha hc f va vc ca cc,.int .i64 x.b] w1 (aj w1 (.bool (aD (vt f x.b) aY)))):=fun w1 h1 h2=>oL h ha hc f va vc ca cc x.b rb.1 rb.2 w1 h1 h2
 have HJ:Hid (∀w1,ay w1 ha h->aK w1 va f.vars->Calls Tryz.prog 126 #[aR h ha hc f va vc ca cc,.int .i64 x.dst] w1 (aj w1 (.bool (aD (vt f x.dst) aY)))):=fun w1 h1 h2=>oL h ha hc f va vc ca cc x.dst rdst.1 rdst.2 w1 h1 h2
 have o1:(x.op==1)=false:=by rw[ho];rfl
 have o5:(x.op==5)=false:=by rw[ho];rfl
 have o2:(x.op==2)=false:=by rw[ho];rfl
 have o3:(x.op==3)=false:=by rw[ho];rfl
 have o16:(x.op==16)=false:=by rw[ho];rfl
 have o11:(x.op==11)=false:=by rw[ho];rfl
 have o14:(x.op==14)=false:=by rw[ho];rfl
 have o4:(x.op==4)=true:=by rw[ho];rfl
 clear h0 hv hg ho ra rb rdst
 generalize aD (vt f x.a) aY=qa at *
 generalize aD (vt f x.b) aY=qb at *
 generalize aD (vt f x.dst) aY=qd at *
 generalize hn:(x.n==5)=qn at *
 unfold aR bN at *
 go_enter Tryz.func71,Tryz.ntmps71
 go_upto_region 1 with (fail)
 generalize (w.alloc _).alloc _=W at *
 obtain⟨⟨z0,z1,z2,z3,z4,z5,z6,z7⟩,⟨c0,c1,c2,c3,c4,c5,c6,c7,c8,c9⟩⟩:=S.out.now (Below.refl _ _)
 go_upto_region 16 with (fail)
 clear z0 z1 z2 z3 z4 z5 z6 z7 c0 c1 c2 c3 c4 c5 c6 c7 c8 c9
 have y0:∀o:WB W,o.u.cell? ⟨w.heap.size,0,none⟩=some (.slice ha h.length hc):=fun o=>(S.out.now o.h).1.1
 have y1:∀o:WB W,o.u.cell? ⟨w.heap.size,1,none⟩=some (.string f.cls):=fun o=>(S.out.now o.h).1.2.1
 have y2:∀o:WB W,o.u.cell? ⟨w.heap.size,2,none⟩=some (.string f.name):=fun o=>(S.out.now o.h).1.2.2.1
 have y3:∀o:WB W,o.u.cell? ⟨w.heap.size,3,none⟩=some (.bool f.stat):=fun o=>(S.out.now o.h).1.2.2.2.1
 have y4:∀o:WB W,o.u.cell? ⟨w.heap.size,4,none⟩=some (.int .i64 f.params):=fun o=>(S.out.now o.h).1.2.2.2.2.1
 have y5:∀o:WB W,o.u.cell? ⟨w.heap.size,5,none⟩=some (.slice va f.vars.length vc):=fun o=>(S.out.now o.h).1.2.2.2.2.2.1
 have y6:∀o:WB W,o.u.cell? ⟨w.heap.size,6,none⟩=some (.string f.result):=fun o=>(S.out.now o.h).1.2.2.2.2.2.2.1
 have y7:∀o:WB W,o.u.cell? ⟨w.heap.size,7,none⟩=some (.slice ca f.code.length cc):=fun o=>(S.out.now o.h).1.2.2.2.2.2.2.2
 have x2:∀o:WB W,o.u.cell? ⟨w.heap.size+1,2,none⟩=some (.int .i64 x.a):=fun o=>(S.out.now o.h).2.2.2.1
 have x3:∀o:WB W,o.u.cell? ⟨w.heap.size+1,3,none⟩=some (.int .i64 x.b):=fun o=>(S.out.now o.h).2.2.2.2.1
 have hne:Nonempty (WB W):=⟨⟨W,Below.refl _ _⟩⟩
 refine bJ W (by kernel_rfl) ?_
 repeat (go_big_quiet_step (first | (go_at_call 126;rename_i o;with_reducible exact(HI.out _ (S.out.below o.h).ty.ch (S.out.below o.h).ty.hv).mono (fun _ _ h=>aj.bu h)) | (go_at_call 126;rename_i o;with_reducible exact(HK.out _ (S.out.below o.h).ty.ch (S.out.below o.h).ty.hv).mono (fun _ _ h=>aj.bu h))))
 refine wpQuiet_nil ?_
 intro _ hw'
 obtain⟨o,rfl⟩:=hw'
 replace S:=Lib.hid (S.out.below o.h)
 clear hne y0 y1 y2 y3 y4 y5 y6 y7 x2 x3
 generalize o.u=W2 at *
 obtain⟨⟨z0,z1,z2,z3,z4,z5,z6,z7⟩,⟨c0,c1,c2,c3,c4,c5,c6,c7,c8,c9⟩⟩:=S.out.now (Below.refl _ _)
 cases qd<;>cases qa<;>cases qb<;>cases qn
 all_goals
  go_wp2_with (first | (go_at_call 126;(with_reducible refine(HJ.out _ S.out.ty.ch S.out.ty.hv).mono ?_);rintro e w1 ⟨rfl,hb1⟩;have S:=Lib.hid (S.out.below hb1);clear hb1;obtain⟨⟨z0,z1,z2,z3,z4,z5,z6,z7⟩,⟨c0,c1,c2,c3,c4,c5,c6,c7,c8,c9⟩⟩:=S.out.now (Below.refl _ _)) | (go_at_call 125;(with_reducible refine(HTY.out _ _).mono ?_);rintro e w1 ⟨rfl,rfl⟩))
  go_ret
  exact⟨rfl,S.out.ty.hb⟩

set_option maxRecDepth 100000 in
set_option maxHeartbeats 16000000 in
theorem Rs(h:List ae)(ha:Option Addr)(hc:Nat)(f:aA)(va:Option Addr)(vc:Nat)(ca:Option Addr)(cc:Nat)(x:Ins)(ga:Option Addr)(gc:Nat)(w:World)(h0:ay w ha h)(hv:aK w va f.vars)(hg:aM w ga x.args)(ho:x.op=3)(hl:h.length<=100000)(ra:0<=x.a/\x.a<f.vars.length)(rdst:0<=x.dst/\x.dst<f.vars.length) :
 Calls Tryz.prog 71 #[aR h ha hc f va vc ca cc,bN x ga gc] w (aj w (.int .i64 (tE (dm h (vt f x.a) (vt f x.dst))))):=by
 have S:Hid (TI h ha hc f va vc ca cc x ga gc w _):=TI.start (hc:=hc) (vc:=vc) (ca:=ca) (cc:=cc) (gc:=gc) h0 hv hg
 have HTY:Hid (∀(b:Bool) w1,Calls Tryz.prog 125 #[.bool b] w1 (Same w1 (.int .i64 (tE b)))):=fun b w1=>kP b w1
 have HFT:Hid (∀(s t:Str) w1,ay w1 ha h->aK w1 va f.vars->Calls Tryz.prog 127 #[aR h ha hc f va vc ca cc,.string s,.string t] w1 (aj w1 (.bool (dm h s t)))):=fun s t w1 h1 h2=>uT h ha hc f va vc ca cc s t w1 h1 h2 hl
 have HOA:Hid (∀w1,ay w1 ha h->aK w1 va f.vars->Calls Tryz.prog 128 #[aR h ha hc f va vc ca cc,.int .i64 x.a] w1 (aj w1 (.string (vt f x.a)))):=fun w1 h1 h2=>nD h ha hc f va vc ca cc x.a ra.1 ra.2 w1 h1 h2
 have HOD:Hid (∀w1,ay w1 ha h->aK w1 va f.vars->Calls Tryz.prog 128 #[aR h ha hc f va vc ca cc,.int .i64 x.dst] w1 (aj w1 (.string (vt f x.dst)))):=fun w1 h1 h2=>nD h ha hc f va vc ca cc x.dst rdst.1 rdst.2 w1 h1 h2
 have o1:(x.op==1)=false:=by rw[ho];rfl
 have o5:(x.op==5)=false:=by rw[ho];rfl
 have o2:(x.op==2)=false:=by rw[ho];rfl
 have o3:(x.op==3)=true:=by rw[ho];rfl
 clear h0 hv hg ho ra rdst hl
 unfold aR bN at *
 go_enter Tryz.func71,Tryz.ntmps71
 go_upto_region 1 with (fail)
 generalize (w.alloc _).alloc _=W at *
 obtain⟨⟨z0,z1,z2,z3,z4,z5,z6,z7⟩,⟨c0,c1,c2,c3,c4,c5,c6,c7,c8,c9⟩⟩:=S.out.now (Below.refl _ _)
 go_upto_region 8 with (fail)
 clear z0 z1 z2 z3 z4 z5 z6 z7 c0 c1 c2 c3 c4 c5 c6 c7 c8 c9
 have y0:∀o:WB W,o.u.cell? ⟨w.heap.size,0,none⟩=some (.slice ha h.length hc):=fun o=>(S.out.now o.h).1.1
 have y1:∀o:WB W,o.u.cell? ⟨w.heap.size,1,none⟩=some (.string f.cls):=fun o=>(S.out.now o.h).1.2.1
 have y2:∀o:WB W,o.u.cell? ⟨w.heap.size,2,none⟩=some (.string f.name):=fun o=>(S.out.now o.h).1.2.2.1
 have y3:∀o:WB W,o.u.cell? ⟨w.heap.size,3,none⟩=some (.bool f.stat):=fun o=>(S.out.now o.h).1.2.2.2.1
 have y4:∀o:WB W,o.u.cell? ⟨w.heap.size,4,none⟩=some (.int .i64 f.params):=fun o=>(S.out.now o.h).1.2.2.2.2.1
 have y5:∀o:WB W,o.u.cell? ⟨w.heap.size,5,none⟩=some (.slice va f.vars.length vc):=fun o=>(S.out.now o.h).1.2.2.2.2.2.1
 have y6:∀o:WB W,o.u.cell? ⟨w.heap.size,6,none⟩=some (.string f.result):=fun o=>(S.out.now o.h).1.2.2.2.2.2.2.1
 have y7:∀o:WB W,o.u.cell? ⟨w.heap.size,7,none⟩=some (.slice ca f.code.length cc):=fun o=>(S.out.now o.h).1.2.2.2.2.2.2.2
 have x1:∀o:WB W,o.u.cell? ⟨w.heap.size+1,1,none⟩=some (.int .i64 x.dst):=fun o=>(S.out.now o.h).2.2.1
 have x2:∀o:WB W,o.u.cell? ⟨w.heap.size+1,2,none⟩=some (.int .i64 x.a):=fun o=>(S.out.now o.h).2.2.2.1
 have hne:Nonempty (WB W):=⟨⟨W,Below.refl _ _⟩⟩
 refine bJ W (by kernel_rfl) ?_
 repeat (go_big_quiet_step (first | (go_at_call 128;rename_i o;with_reducible exact(HOA.out _ (S.out.below o.h).ty.ch (S.out.below o.h).ty.hv).mono (fun _ _ h=>aj.bu h)) | (go_at_call 128;rename_i o;with_reducible exact(HOD.out _ (S.out.below o.h).ty.ch (S.out.below o.h).ty.hv).mono (fun _ _ h=>aj.bu h)) | (go_at_call 127;rename_i o;with_reducible exact(HFT.out _ _ _ (S.out.below o.h).ty.ch (S.out.below o.h).ty.hv).mono (fun _ _ h=>aj.bu h)) | (go_at_call 125;rename_i o;exact(HTY.out _ _).mono (fun _ _ h=>Same.bu h))))
 refine wpQuiet_nil ?_
 intro _ hw'
 obtain⟨o,rfl⟩:=hw'
 replace S:=Lib.hid (S.out.below o.h)
 clear hne y0 y1 y2 y3 y4 y5 y6 y7 x1 x2
 generalize o.u=W2 at *
 go_wp2
 go_ret
 exact⟨rfl,S.out.ty.hb⟩

def sK(h:List ae)(f:aA)(x:Ins):Int:=match qP h x with
 |none=>6
 |some g=>lI h f x g
set_option maxRecDepth 100000 in
set_option maxHeartbeats 16000000 in
theorem RD(h:List ae)(ha:Option Addr)(hc:Nat)(f:aA)(va:Option Addr)(vc:Nat)(ca:Option Addr)(cc:Nat)(x:Ins)(ga:Option Addr)(gc:Nat)(w:World)(h0:ay w ha h)(hv:aK w va f.vars)(hg:aM w ga x.args)(ho:x.op∉[1,5,2,3,16,11,14,4,6,15,7,8,9,10,13]) :
 Calls Tryz.prog 71 #[aR h ha hc f va vc ca cc,bN x ga gc] w (aj w (.int .i64 0)):=by
 have S:Hid (TI h ha hc f va vc ca cc x ga gc w _):=TI.start (hc:=hc) (vc:=vc) (ca:=ca) (cc:=cc) (gc:=gc) h0 hv hg
 simp only[List.mem_cons,List.not_mem_nil,or_false,not_or]at ho
 obtain⟨n1,n5,n2,n3,n16,n11,n14,n4,n6,n15,n7,n8,n9,n10,n13⟩:=ho
 have o1:=beq_eq_false_iff_ne.2 n1
 have o5:=beq_eq_false_iff_ne.2 n5
 have o2:=beq_eq_false_iff_ne.2 n2
 have o3:=beq_eq_false_iff_ne.2 n3
 have o16:=beq_eq_false_iff_ne.2 n16
 have o11:=beq_eq_false_iff_ne.2 n11
 have o14:=beq_eq_false_iff_ne.2 n14
 have o4:=beq_eq_false_iff_ne.2 n4
 have o6:=beq_eq_false_iff_ne.2 n6
 have o15:=beq_eq_false_iff_ne.2 n15
 have o7:=beq_eq_false_iff_ne.2 n7
 have o8:=beq_eq_false_iff_ne.2 n8
 have o9:=beq_eq_false_iff_ne.2 n9
 have o10:=beq_eq_false_iff_ne.2 n10
 have o13:=beq_eq_false_iff_ne.2 n13
 clear h0 hv hg n1 n5 n2 n3 n16 n11 n14 n4 n6 n15 n7 n8 n9 n10 n13
 unfold aR bN at *
 go_enter Tryz.func71,Tryz.ntmps71
 go_upto_region 1 with (fail)
 generalize (w.alloc _).alloc _=W at *
 obtain⟨⟨z0,z1,z2,z3,z4,z5,z6,z7⟩,⟨c0,c1,c2,c3,c4,c5,c6,c7,c8,c9⟩⟩:=S.out.now (Below.refl _ _)
 go_wp2
 go_ret
 exact⟨rfl,S.out.ty.hb⟩
set_option maxRecDepth 100000 in
set_option maxHeartbeats 16000000 in
theorem Rz(h:List ae)(ha:Option Addr)(hc:Nat)(f:aA)(va:Option Addr)(vc:Nat)(ca:Option Addr)(cc:Nat)(x:Ins)(ga:Option Addr)(gc:Nat)(w:World)(h0:ay w ha h)(hv:aK w va f.vars)(hg:aM w ga x.args)(ho:x.op=10)(hl:h.length<=100000)(hm:∀c∈h,c.methods.length<=100000)(hal:x.args.length<=1000000)
 (ra:∀v∈x.args,0<=v/\v<f.vars.length) (rd:¬ x.dst = -1->0<=x.dst/\x.dst<f.vars.length) :
 Calls Tryz.prog 71 #[aR h ha hc f va vc ca cc,bN x ga gc] w (aj w (.int .i64 (sK h f x))):=by
 have S:Hid (TI h ha hc f va vc ca cc x ga gc w _):=TI.start (hc:=hc) (vc:=vc) (ca:=ca) (cc:=cc) (gc:=gc) h0 hv hg
 have HST:Hid (∀w1,ay w1 ha h->aK w1 va f.vars->aM w1 ga x.args->Calls Tryz.prog 132 #[aR h ha hc f va vc ca cc,bN x ga gc] w1 (Qz (qP h x) w1)):=fun w1 h1 h2 h3=>Ri h ha hc f va vc ca cc x ga gc w1 h1 h2 h3 hl hm
 have HCL:Hid (∀g pa pc w1,ay w1 ha h->aK w1 va f.vars->aM w1 ga x.args->bF w1 pa g.params->Calls Tryz.prog 131 #[aR h ha hc f va vc ca cc,bN x ga gc,fF g pa pc] w1 (aj w1 (.int .i64 (lI h f x g)))):=fun g pa pc w1 h1 h2 h3 h4=>Jw h ha hc f va vc ca cc x ga gc g pa pc w1 h1 h2 h3 h4 hl hal ra rd
 have HQ:Hid (sK h f x=match qP h x with | none=>6 | some g=>lI h f x g):=rfl
 have o1:(x.op==1)=false:=by rw[ho];rfl
 have o5:(x.op==5)=false:=by rw[ho];rfl
 have o2:(x.op==2)=false:=by rw[ho];rfl
 have o3:(x.op==3)=false:=by rw[ho];rfl
 have o16:(x.op==16)=false:=by rw[ho];rfl
 have o11:(x.op==11)=false:=by rw[ho];rfl
 have o14:(x.op==14)=false:=by rw[ho];rfl
 have o4:(x.op==4)=false:=by rw[ho];rfl
 have o6:(x.op==6)=false:=by rw[ho];rfl
 have o15:(x.op==15)=false:=by rw[ho];rfl
 have o7:(x.op==7)=false:=by rw[ho];rfl
 have o8:(x.op==8)=false:=by rw[ho];rfl
 have o9:(x.op==9)=false:=by rw[ho];rfl
 have o10:(x.op==10)=true:=by rw[ho];rfl
 clear h0 hv hg ho hl hm hal ra rd
 unfold aR bN at *
 generalize sK h f x=R at *
 go_enter Tryz.func71,Tryz.ntmps71
 go_upto_region 1 with (fail)
 generalize (w.alloc _).alloc _=W at *
 obtain⟨⟨z0,z1,z2,z3,z4,z5,z6,z7⟩,⟨c0,c1,c2,c3,c4,c5,c6,c7,c8,c9⟩⟩:=S.out.now (Below.refl _ _)
 go_wp2_with fail
 (with_reducible refine(HST.out _ S.out.ty.ch S.out.ty.hv S.out.ix.ga).mono ?_)
 rintro e w1 ⟨hb1,⟨hn,rfl⟩ | ⟨g,pa,pc,hs,rfl,hp⟩⟩
 case inl =>
  have e:R=6:=by rw[HQ.out,hn]
  subst e
  have S1:=Lib.hid (S.out.below hb1)
  have B1:Hid (ah (w1.alloc jk) w1.heap.size #[.string ⟨#[]⟩,.bool false,.slice none 0 0,.string ⟨#[]⟩] 48):=aL ..
  have hF:=Lib.hid (S1.out.below (bP (av w1 jk) (Nat.le_refl _) #[.string ⟨#[]⟩,.bool false,.slice none 0 0,.string ⟨#[]⟩]))
  clear S S1 hb1 z0 z1 z2 z3 z4 z5 z6 z7 c0 c1 c2 c3 c4 c5 c6 c7 c8 c9 HST HCL HQ hn
  go_wp2_with (refine l5 rfl rfl _ _ rfl w1.heap.size sG none 0 rfl rfl _ B1.out rfl ?_)
  go_ret
  exact⟨rfl,hF.out.ty.hb⟩
 case inr =>
  have e:R=lI h f x g:=by rw[HQ.out,hs]
  subst e
  have S1:=Lib.hid (S.out.below hb1)
  have B1:Hid (ah (w1.alloc jk) w1.heap.size #[.string ⟨#[]⟩,.bool false,.slice none 0 0,.string ⟨#[]⟩] 48):=aL ..
  have hY:=bP (av w1 jk) (Nat.le_refl _) #[.string g.name,.bool g.stat,.slice pa g.params.length pc,.string g.result]
  have S3:=Lib.hid (S1.out.below hY)
  have B3:=Lib.hid (B1.out.setRow #[.string g.name,.bool g.stat,.slice pa g.params.length pc,.string g.result])
  have P3:=Lib.hid ((hp.below hb1).below hY)
  clear S S1 hb1 z0 z1 z2 z3 z4 z5 z6 z7 c0 c1 c2 c3 c4 c5 c6 c7 c8 c9 HST HQ hs hp hY
  go_upto_region 35 with (refine l5 rfl rfl _ _ rfl w1.heap.size g pa pc rfl rfl _ B1.out rfl ?_)
  clear B1
  generalize (w1.alloc jk).setRow w1.heap.size #[.string g.name,.bool g.stat,.slice pa g.params.length pc,.string g.result]=W3 at *
  generalize w1.heap.size=n3 at *
  obtain⟨⟨z0,z1,z2,z3,z4,z5,z6,z7⟩,⟨c0,c1,c2,c3,c4,c5,c6,c7,c8,c9⟩⟩:=S3.out.now (Below.refl _ _)
  have b0:=B3.out.cell 0 (by simp)
  have b1:=B3.out.cell 1 (by simp)
  have b2:=B3.out.cell 2 (by simp)
  have b3:=B3.out.cell 3 (by simp)
  go_wp2_with fail
  refine(HCL.out g pa pc _ S3.out.ty.ch S3.out.ty.hv S3.out.ix.ga P3.out).mono ?_
  rintro e w4 ⟨rfl,hb4⟩
  have S4:=Lib.hid (S3.out.below hb4)
  clear S3 B3 P3 hb4 z0 z1 z2 z3 z4 z5 z6 z7 c0 c1 c2 c3 c4 c5 c6 c7 c8 c9 HCL
  go_wp2
  go_ret
  exact⟨rfl,S4.out.ty.hb⟩

def xN(h:List ae)(f:aA)(x:Ins):Int :=
 if (x.a == -1)=true then(if aD f.result mI=true then tE true else 9)else(if aD f.result mI=true then 9 else tE (dm h (vt f x.a) f.result))
set_option maxRecDepth 100000 in
set_option maxHeartbeats 16000000 in
theorem Rx(h:List ae)(ha:Option Addr)(hc:Nat)(f:aA)(va:Option Addr)(vc:Nat)(ca:Option Addr)(cc:Nat)(x:Ins)(ga:Option Addr)(gc:Nat)(w:World)(h0:ay w ha h)(hv:aK w va f.vars)(hg:aM w ga x.args)(ho:x.op=13)(hl:h.length<=100000)
 (ra:¬ x.a = -1->0<=x.a/\x.a<f.vars.length) :
 Calls Tryz.prog 71 #[aR h ha hc f va vc ca cc,bN x ga gc] w (aj w (.int .i64 (xN h f x))):=by
 have S:Hid (TI h ha hc f va vc ca cc x ga gc w _):=TI.start (hc:=hc) (vc:=vc) (ca:=ca) (cc:=cc) (gc:=gc) h0 hv hg
 have HTY:Hid (∀(b:Bool) w1,Calls Tryz.prog 125 #[.bool b] w1 (Same w1 (.int .i64 (tE b)))):=fun b w1=>kP b w1
 have HFT:Hid (∀(s t:Str) w1,ay w1 ha h->aK w1 va f.vars->Calls Tryz.prog 127 #[aR h ha hc f va vc ca cc,.string s,.string t] w1 (aj w1 (.bool (dm h s t)))):=fun s t w1 h1 h2=>uT h ha hc f va vc ca cc s t w1 h1 h2 hl
 have HOA:Hid (¬ x.a = -1->∀w1,ay w1 ha h->aK w1 va f.vars->Calls Tryz.prog 128 #[aR h ha hc f va vc ca cc,.int .i64 x.a] w1 (aj w1 (.string (vt f x.a)))):=fun e w1 h1 h2=>nD h ha hc f va vc ca cc x.a (ra e).1 (ra e).2 w1 h1 h2
 have HR:Hid (xN h f x=if (x.a == -1)=true then(if aD f.result mI=true then tE true else 9)else(if aD f.result mI=true then 9 else tE (dm h (vt f x.a) f.result))):=rfl
 have o1:(x.op==1)=false:=by rw[ho];rfl
 have o5:(x.op==5)=false:=by rw[ho];rfl
 have o2:(x.op==2)=false:=by rw[ho];rfl
 have o3:(x.op==3)=false:=by rw[ho];rfl
 have o16:(x.op==16)=false:=by rw[ho];rfl
 have o11:(x.op==11)=false:=by rw[ho];rfl
 have o14:(x.op==14)=false:=by rw[ho];rfl
 have o4:(x.op==4)=false:=by rw[ho];rfl
 have o6:(x.op==6)=false:=by rw[ho];rfl
 have o15:(x.op==15)=false:=by rw[ho];rfl
 have o7:(x.op==7)=false:=by rw[ho];rfl
 have o8:(x.op==8)=false:=by rw[ho];rfl
 have o9:(x.op==9)=false:=by rw[ho];rfl
 have o10:(x.op==10)=false:=by rw[ho];rfl
 have o13:(x.op==13)=true:=by rw[ho];rfl
 have t2:(f.result.toList==[])=aD f.result mI:=eq_empty _
 have HA:Hid ((x.a == -1)=false->¬ x.a = -1):=fun e e2=>by rw[e2]at e;cases e
 clear h0 hv hg ho hl ra
 unfold aR bN at *
 generalize xN h f x=R at *
 generalize hqa:(x.a == -1)=qa at *
 generalize aD f.result mI=qr at *
 cases qa<;>cases qr
 case false.false =>
  have e:R=tE (dm h (vt f x.a) f.result):=by rw[HR.out];rfl
  subst e
  have HO:=Lib.hid (HOA.out (HA.out rfl))
  clear HR HA HOA
  go_enter Tryz.func71,Tryz.ntmps71
  go_upto_region 1 with (fail)
  generalize (w.alloc _).alloc _=W at *
  obtain⟨⟨z0,z1,z2,z3,z4,z5,z6,z7⟩,⟨c0,c1,c2,c3,c4,c5,c6,c7,c8,c9⟩⟩:=S.out.now (Below.refl _ _)
  go_upto_region 41 with (fail)
  clear z0 z1 z2 z3 z4 z5 z6 z7 c0 c1 c2 c3 c4 c5 c6 c7 c8 c9
  have y0:∀o:WB W,o.u.cell? ⟨w.heap.size,0,none⟩=some (.slice ha h.length hc):=fun o=>(S.out.now o.h).1.1
  have y1:∀o:WB W,o.u.cell? ⟨w.heap.size,1,none⟩=some (.string f.cls):=fun o=>(S.out.now o.h).1.2.1
  have y2:∀o:WB W,o.u.cell? ⟨w.heap.size,2,none⟩=some (.string f.name):=fun o=>(S.out.now o.h).1.2.2.1
  have y3:∀o:WB W,o.u.cell? ⟨w.heap.size,3,none⟩=some (.bool f.stat):=fun o=>(S.out.now o.h).1.2.2.2.1
  have y4:∀o:WB W,o.u.cell? ⟨w.heap.size,4,none⟩=some (.int .i64 f.params):=fun o=>(S.out.now o.h).1.2.2.2.2.1
  have y5:∀o:WB W,o.u.cell? ⟨w.heap.size,5,none⟩=some (.slice va f.vars.length vc):=fun o=>(S.out.now o.h).1.2.2.2.2.2.1
  have y6:∀o:WB W,o.u.cell? ⟨w.heap.size,6,none⟩=some (.string f.result):=fun o=>(S.out.now o.h).1.2.2.2.2.2.2.1
  have y7:∀o:WB W,o.u.cell? ⟨w.heap.size,7,none⟩=some (.slice ca f.code.length cc):=fun o=>(S.out.now o.h).1.2.2.2.2.2.2.2
  have x2:∀o:WB W,o.u.cell? ⟨w.heap.size+1,2,none⟩=some (.int .i64 x.a):=fun o=>(S.out.now o.h).2.2.2.1
  have hne:Nonempty (WB W):=⟨⟨W,Below.refl _ _⟩⟩
  refine bJ W (by kernel_rfl) ?_
  repeat (go_big_quiet_step (first | (go_at_call 128;rename_i o;with_reducible exact(HO.out _ (S.out.below o.h).ty.ch (S.out.below o.h).ty.hv).mono (fun _ _ h=>aj.bu h)) | (go_at_call 127;rename_i o;with_reducible exact(HFT.out _ _ _ (S.out.below o.h).ty.ch (S.out.below o.h).ty.hv).mono (fun _ _ h=>aj.bu h)) | (go_at_call 125;rename_i o;exact(HTY.out _ _).mono (fun _ _ h=>Same.bu h))))
  refine wpQuiet_nil ?_
  intro _ hw'
  obtain⟨o,rfl⟩:=hw'
  have S1:=Lib.hid (S.out.below o.h)
  clear hne y0 y1 y2 y3 y4 y5 y6 y7 x2
  go_wp2
  go_ret
  exact⟨rfl,S1.out.ty.hb⟩
 case false.true =>
  have e:R=9:=by rw[HR.out];rfl
  subst e
  clear HR HA HOA HFT HTY
  go_enter Tryz.func71,Tryz.ntmps71
  go_upto_region 1 with (fail)
  generalize (w.alloc _).alloc _=W at *
  obtain⟨⟨z0,z1,z2,z3,z4,z5,z6,z7⟩,⟨c0,c1,c2,c3,c4,c5,c6,c7,c8,c9⟩⟩:=S.out.now (Below.refl _ _)
  go_wp2
  go_ret
  exact⟨rfl,S.out.ty.hb⟩
 case true.false =>
  have e:R=9:=by rw[HR.out];rfl
  subst e
  clear HR HA HOA HFT HTY
  go_enter Tryz.func71,Tryz.ntmps71
  go_upto_region 1 with (fail)
  generalize (w.alloc _).alloc _=W at *
  obtain⟨⟨z0,z1,z2,z3,z4,z5,z6,z7⟩,⟨c0,c1,c2,c3,c4,c5,c6,c7,c8,c9⟩⟩:=S.out.now (Below.refl _ _)
  go_wp2
  go_ret
  exact⟨rfl,S.out.ty.hb⟩
 case true.true =>
  have e:R=tE true:=by rw[HR.out];rfl
  subst e
  clear HR HA HOA HFT
  go_enter Tryz.func71,Tryz.ntmps71
  go_upto_region 1 with (fail)
  generalize (w.alloc _).alloc _=W at *
  obtain⟨⟨z0,z1,z2,z3,z4,z5,z6,z7⟩,⟨c0,c1,c2,c3,c4,c5,c6,c7,c8,c9⟩⟩:=S.out.now (Below.refl _ _)
  go_upto_region 41 with (fail)
  clear z0 z1 z2 z3 z4 z5 z6 z7 c0 c1 c2 c3 c4 c5 c6 c7 c8 c9
  have x2:∀o:WB W,o.u.cell? ⟨w.heap.size+1,2,none⟩=some (.int .i64 x.a):=fun o=>(S.out.now o.h).2.2.2.1
  have hne:Nonempty (WB W):=⟨⟨W,Below.refl _ _⟩⟩
  refine bJ W (by kernel_rfl) ?_
  repeat (go_big_quiet_step (first | (go_at_call 125;rename_i o;exact(HTY.out _ _).mono (fun _ _ h=>Same.bu h))))
  refine wpQuiet_nil ?_
  intro _ hw'
  obtain⟨o,rfl⟩:=hw'
  have S1:=Lib.hid (S.out.below o.h)
  clear hne x2
  go_wp2
  go_ret
  exact⟨rfl,S1.out.ty.hb⟩

def xy(h:List ae)(f:aA)(x:Ins):Int:=match dN h x.cls x.name with
 |none=>6
 |some (_,g)=>if g.stat=true then 6 else lI h f x g
def uB(h:List ae)(f:aA)(x:Ins):Int:=if jy h (vt f x.a)=true then(if aD (vt f x.a) x.cls=true then xy h f x else 8)else 8
set_option maxRecDepth 100000 in
set_option maxHeartbeats 16000000 in
theorem Rl(h:List ae)(ha:Option Addr)(hc:Nat)(f:aA)(va:Option Addr)(vc:Nat)(ca:Option Addr)(cc:Nat)(x:Ins)(ga:Option Addr)(gc:Nat)(w:World)(h0:ay w ha h)(hv:aK w va f.vars)(hg:aM w ga x.args)(ho:x.op=9)(hl:h.length<=100000)(hm:∀c∈h,c.methods.length<=100000)(hp:∀c∈h,∀y∈c.methods,y.params.length<=100000)(hal:x.args.length<=1000000)
 (ra:0<=x.a/\x.a<f.vars.length) (rg:∀v∈x.args,0<=v/\v<f.vars.length) (rd:¬ x.dst = -1->0<=x.dst/\x.dst<f.vars.length) :
 Calls Tryz.prog 71 #[aR h ha hc f va vc ca cc,bN x ga gc] w (aj w (.int .i64 (uB h f x))):=by
 have S:Hid (TI h ha hc f va vc ca cc x ga gc w _):=TI.start (hc:=hc) (vc:=vc) (ca:=ca) (cc:=cc) (gc:=gc) h0 hv hg
 have HOA:Hid (∀w1,ay w1 ha h->aK w1 va f.vars->Calls Tryz.prog 128 #[aR h ha hc f va vc ca cc,.int .i64 x.a] w1 (aj w1 (.string (vt f x.a)))):=fun w1 h1 h2=>nD h ha hc f va vc ca cc x.a ra.1 ra.2 w1 h1 h2
 have HC:Hid (∀w1,ay w1 ha h->aK w1 va f.vars->Calls Tryz.prog 130 #[aR h ha hc f va vc ca cc,.string (vt f x.a)] w1 (aj w1 (.bool (jy h (vt f x.a))))):=fun w1 h1 h2=>Dk h ha hc f va vc ca cc _ w1 h1 h2 (by omega)
 have HLK:Hid (∀w1,ay w1 ha h->Calls Tryz.prog 62 #[.agg #[.slice ha h.length hc],.string x.cls,.string x.name] w1 (Ii (dN h x.cls x.name) w1)):=fun w1 h1=>MG h x.cls x.name ha hc w1 h1 hl hm hp
 have HCL:Hid (∀g pa pc w1,ay w1 ha h->aK w1 va f.vars->aM w1 ga x.args->bF w1 pa g.params->Calls Tryz.prog 131 #[aR h ha hc f va vc ca cc,bN x ga gc,fF g pa pc] w1 (aj w1 (.int .i64 (lI h f x g)))):=fun g pa pc w1 h1 h2 h3 h4=>Jw h ha hc f va vc ca cc x ga gc g pa pc w1 h1 h2 h3 h4 hl hal rg rd
 have HQ:Hid (uB h f x=if jy h (vt f x.a)=true then(if aD (vt f x.a) x.cls=true then xy h f x else 8)else 8):=rfl
 have HV:Hid (xy h f x=match dN h x.cls x.name with
  |none=>6
  |some (_,g)=>if g.stat=true then 6 else lI h f x g):=rfl
 have HEQ:Hid ((ByteArray.toList (vt f x.a)==ByteArray.toList x.cls)=aD (vt f x.a) x.cls):=rfl
 have o1:(x.op==1)=false:=by rw[ho];rfl
 have o5:(x.op==5)=false:=by rw[ho];rfl
 have o2:(x.op==2)=false:=by rw[ho];rfl
 have o3:(x.op==3)=false:=by rw[ho];rfl
 have o16:(x.op==16)=false:=by rw[ho];rfl
 have o11:(x.op==11)=false:=by rw[ho];rfl
 have o14:(x.op==14)=false:=by rw[ho];rfl
 have o4:(x.op==4)=false:=by rw[ho];rfl
 have o6:(x.op==6)=false:=by rw[ho];rfl
 have o15:(x.op==15)=false:=by rw[ho];rfl
 have o7:(x.op==7)=false:=by rw[ho];rfl
 have o8:(x.op==8)=false:=by rw[ho];rfl
 have o9:(x.op==9)=true:=by rw[ho];rfl
 clear h0 hv hg ho hl hm hp hal ra rg rd
 unfold aR bN at *
 generalize uB h f x=R at *
 generalize xy h f x=V at *
 generalize vt f x.a=A at *
 generalize jy h A=q1 at *
 generalize aD A x.cls=q2 at *
 cases q1<;>cases q2
 case false.false =>
  have e:R=8:=by rw[HQ.out];rfl
  subst e
  clear HQ HV HLK HCL HEQ
  go_enter Tryz.func71,Tryz.ntmps71
  go_upto_region 1 with (fail)
  generalize (w.alloc _).alloc _=W at *
  obtain⟨⟨z0,z1,z2,z3,z4,z5,z6,z7⟩,⟨c0,c1,c2,c3,c4,c5,c6,c7,c8,c9⟩⟩:=S.out.now (Below.refl _ _)
  go_upto_region 27 with (fail)
  clear z0 z1 z2 z3 z4 z5 z6 z7 c0 c1 c2 c3 c4 c5 c6 c7 c8 c9
  have y0:∀o:WB W,o.u.cell? ⟨w.heap.size,0,none⟩=some (.slice ha h.length hc):=fun o=>(S.out.now o.h).1.1
  have y1:∀o:WB W,o.u.cell? ⟨w.heap.size,1,none⟩=some (.string f.cls):=fun o=>(S.out.now o.h).1.2.1
  have y2:∀o:WB W,o.u.cell? ⟨w.heap.size,2,none⟩=some (.string f.name):=fun o=>(S.out.now o.h).1.2.2.1
  have y3:∀o:WB W,o.u.cell? ⟨w.heap.size,3,none⟩=some (.bool f.stat):=fun o=>(S.out.now o.h).1.2.2.2.1
  have y4:∀o:WB W,o.u.cell? ⟨w.heap.size,4,none⟩=some (.int .i64 f.params):=fun o=>(S.out.now o.h).1.2.2.2.2.1
  have y5:∀o:WB W,o.u.cell? ⟨w.heap.size,5,none⟩=some (.slice va f.vars.length vc):=fun o=>(S.out.now o.h).1.2.2.2.2.2.1
  have y6:∀o:WB W,o.u.cell? ⟨w.heap.size,6,none⟩=some (.string f.result):=fun o=>(S.out.now o.h).1.2.2.2.2.2.2.1
  have y7:∀o:WB W,o.u.cell? ⟨w.heap.size,7,none⟩=some (.slice ca f.code.length cc):=fun o=>(S.out.now o.h).1.2.2.2.2.2.2.2
  have x2:∀o:WB W,o.u.cell? ⟨w.heap.size+1,2,none⟩=some (.int .i64 x.a):=fun o=>(S.out.now o.h).2.2.2.1
  have x5:∀o:WB W,o.u.cell? ⟨w.heap.size+1,5,none⟩=some (.string x.cls):=fun o=>(S.out.now o.h).2.2.2.2.2.2.1
  have hne:Nonempty (WB W):=⟨⟨W,Below.refl _ _⟩⟩
  refine bJ W (by kernel_rfl) ?_
  repeat (go_big_quiet_step (first | (go_at_call 128;rename_i o;with_reducible exact(HOA.out _ (S.out.below o.h).ty.ch (S.out.below o.h).ty.hv).mono (fun _ _ h=>aj.bu h)) | (go_at_call 130;rename_i o;with_reducible exact(HC.out _ (S.out.below o.h).ty.ch (S.out.below o.h).ty.hv).mono (fun _ _ h=>aj.bu h))))
  refine wpQuiet_nil ?_
  intro _ hw'
  obtain⟨o,rfl⟩:=hw'
  have S1:=Lib.hid (S.out.below o.h)
  clear hne y0 y1 y2 y3 y4 y5 y6 y7 x2 x5
  generalize o.u=W1 at *
  go_wp2
  go_ret
  exact⟨rfl,S1.out.ty.hb⟩
 case false.true =>
  have e:R=8:=by rw[HQ.out];rfl
  subst e
  clear HQ HV HLK HCL HEQ
  go_enter Tryz.func71,Tryz.ntmps71
  go_upto_region 1 with (fail)
  generalize (w.alloc _).alloc _=W at *
  obtain⟨⟨z0,z1,z2,z3,z4,z5,z6,z7⟩,⟨c0,c1,c2,c3,c4,c5,c6,c7,c8,c9⟩⟩:=S.out.now (Below.refl _ _)
  go_upto_region 27 with (fail)
  clear z0 z1 z2 z3 z4 z5 z6 z7 c0 c1 c2 c3 c4 c5 c6 c7 c8 c9
  have y0:∀o:WB W,o.u.cell? ⟨w.heap.size,0,none⟩=some (.slice ha h.length hc):=fun o=>(S.out.now o.h).1.1
  have y1:∀o:WB W,o.u.cell? ⟨w.heap.size,1,none⟩=some (.string f.cls):=fun o=>(S.out.now o.h).1.2.1
  have y2:∀o:WB W,o.u.cell? ⟨w.heap.size,2,none⟩=some (.string f.name):=fun o=>(S.out.now o.h).1.2.2.1
  have y3:∀o:WB W,o.u.cell? ⟨w.heap.size,3,none⟩=some (.bool f.stat):=fun o=>(S.out.now o.h).1.2.2.2.1
  have y4:∀o:WB W,o.u.cell? ⟨w.heap.size,4,none⟩=some (.int .i64 f.params):=fun o=>(S.out.now o.h).1.2.2.2.2.1
  have y5:∀o:WB W,o.u.cell? ⟨w.heap.size,5,none⟩=some (.slice va f.vars.length vc):=fun o=>(S.out.now o.h).1.2.2.2.2.2.1
  have y6:∀o:WB W,o.u.cell? ⟨w.heap.size,6,none⟩=some (.string f.result):=fun o=>(S.out.now o.h).1.2.2.2.2.2.2.1
  have y7:∀o:WB W,o.u.cell? ⟨w.heap.size,7,none⟩=some (.slice ca f.code.length cc):=fun o=>(S.out.now o.h).1.2.2.2.2.2.2.2
  have x2:∀o:WB W,o.u.cell? ⟨w.heap.size+1,2,none⟩=some (.int .i64 x.a):=fun o=>(S.out.now o.h).2.2.2.1
  have x5:∀o:WB W,o.u.cell? ⟨w.heap.size+1,5,none⟩=some (.string x.cls):=fun o=>(S.out.now o.h).2.2.2.2.2.2.1
  have hne:Nonempty (WB W):=⟨⟨W,Below.refl _ _⟩⟩
  refine bJ W (by kernel_rfl) ?_
  repeat (go_big_quiet_step (first | (go_at_call 128;rename_i o;with_reducible exact(HOA.out _ (S.out.below o.h).ty.ch (S.out.below o.h).ty.hv).mono (fun _ _ h=>aj.bu h)) | (go_at_call 130;rename_i o;with_reducible exact(HC.out _ (S.out.below o.h).ty.ch (S.out.below o.h).ty.hv).mono (fun _ _ h=>aj.bu h))))
  refine wpQuiet_nil ?_
  intro _ hw'
  obtain⟨o,rfl⟩:=hw'
  have S1:=Lib.hid (S.out.below o.h)
  clear hne y0 y1 y2 y3 y4 y5 y6 y7 x2 x5
  generalize o.u=W1 at *
  go_wp2
  go_ret
  exact⟨rfl,S1.out.ty.hb⟩
 case true.false =>
  have e:R=8:=by rw[HQ.out];rfl
  subst e
  have e1:=HEQ.out
  clear HQ HV HLK HCL HEQ
  go_enter Tryz.func71,Tryz.ntmps71
  go_upto_region 1 with (fail)
  generalize (w.alloc _).alloc _=W at *
  obtain⟨⟨z0,z1,z2,z3,z4,z5,z6,z7⟩,⟨c0,c1,c2,c3,c4,c5,c6,c7,c8,c9⟩⟩:=S.out.now (Below.refl _ _)
  go_upto_region 27 with (fail)
  clear z0 z1 z2 z3 z4 z5 z6 z7 c0 c1 c2 c3 c4 c5 c6 c7 c8 c9
  have y0:∀o:WB W,o.u.cell? ⟨w.heap.size,0,none⟩=some (.slice ha h.length hc):=fun o=>(S.out.now o.h).1.1
  have y1:∀o:WB W,o.u.cell? ⟨w.heap.size,1,none⟩=some (.string f.cls):=fun o=>(S.out.now o.h).1.2.1
  have y2:∀o:WB W,o.u.cell? ⟨w.heap.size,2,none⟩=some (.string f.name):=fun o=>(S.out.now o.h).1.2.2.1
  have y3:∀o:WB W,o.u.cell? ⟨w.heap.size,3,none⟩=some (.bool f.stat):=fun o=>(S.out.now o.h).1.2.2.2.1
  have y4:∀o:WB W,o.u.cell? ⟨w.heap.size,4,none⟩=some (.int .i64 f.params):=fun o=>(S.out.now o.h).1.2.2.2.2.1
  have y5:∀o:WB W,o.u.cell? ⟨w.heap.size,5,none⟩=some (.slice va f.vars.length vc):=fun o=>(S.out.now o.h).1.2.2.2.2.2.1
  have y6:∀o:WB W,o.u.cell? ⟨w.heap.size,6,none⟩=some (.string f.result):=fun o=>(S.out.now o.h).1.2.2.2.2.2.2.1
  have y7:∀o:WB W,o.u.cell? ⟨w.heap.size,7,none⟩=some (.slice ca f.code.length cc):=fun o=>(S.out.now o.h).1.2.2.2.2.2.2.2
  have x2:∀o:WB W,o.u.cell? ⟨w.heap.size+1,2,none⟩=some (.int .i64 x.a):=fun o=>(S.out.now o.h).2.2.2.1
  have x5:∀o:WB W,o.u.cell? ⟨w.heap.size+1,5,none⟩=some (.string x.cls):=fun o=>(S.out.now o.h).2.2.2.2.2.2.1
  have hne:Nonempty (WB W):=⟨⟨W,Below.refl _ _⟩⟩
  refine bJ W (by kernel_rfl) ?_
  repeat (go_big_quiet_step (first | (go_at_call 128;rename_i o;with_reducible exact(HOA.out _ (S.out.below o.h).ty.ch (S.out.below o.h).ty.hv).mono (fun _ _ h=>aj.bu h)) | (go_at_call 130;rename_i o;with_reducible exact(HC.out _ (S.out.below o.h).ty.ch (S.out.below o.h).ty.hv).mono (fun _ _ h=>aj.bu h))))
  refine wpQuiet_nil ?_
  intro _ hw'
  obtain⟨o,rfl⟩:=hw'
  have S1:=Lib.hid (S.out.below o.h)
  clear hne y0 y1 y2 y3 y4 y5 y6 y7 x2 x5
  generalize o.u=W1 at *
  go_wp2
  go_ret
  exact⟨rfl,S1.out.ty.hb⟩
 case true.true =>
  have e:R=V:=by rw[HQ.out];rfl
  subst e
  have e1:=HEQ.out
  clear HQ HEQ
  go_enter Tryz.func71,Tryz.ntmps71
  go_upto_region 1 with (fail)
  generalize (w.alloc _).alloc _=W at *
  obtain⟨⟨z0,z1,z2,z3,z4,z5,z6,z7⟩,⟨c0,c1,c2,c3,c4,c5,c6,c7,c8,c9⟩⟩:=S.out.now (Below.refl _ _)
  go_upto_region 27 with (fail)
  clear z0 z1 z2 z3 z4 z5 z6 z7 c0 c1 c2 c3 c4 c5 c6 c7 c8 c9
  have y0:∀o:WB W,o.u.cell? ⟨w.heap.size,0,none⟩=some (.slice ha h.length hc):=fun o=>(S.out.now o.h).1.1
  have y1:∀o:WB W,o.u.cell? ⟨w.heap.size,1,none⟩=some (.string f.cls):=fun o=>(S.out.now o.h).1.2.1
  have y2:∀o:WB W,o.u.cell? ⟨w.heap.size,2,none⟩=some (.string f.name):=fun o=>(S.out.now o.h).1.2.2.1
  have y3:∀o:WB W,o.u.cell? ⟨w.heap.size,3,none⟩=some (.bool f.stat):=fun o=>(S.out.now o.h).1.2.2.2.1
  have y4:∀o:WB W,o.u.cell? ⟨w.heap.size,4,none⟩=some (.int .i64 f.params):=fun o=>(S.out.now o.h).1.2.2.2.2.1
  have y5:∀o:WB W,o.u.cell? ⟨w.heap.size,5,none⟩=some (.slice va f.vars.length vc):=fun o=>(S.out.now o.h).1.2.2.2.2.2.1
  have y6:∀o:WB W,o.u.cell? ⟨w.heap.size,6,none⟩=some (.string f.result):=fun o=>(S.out.now o.h).1.2.2.2.2.2.2.1
  have y7:∀o:WB W,o.u.cell? ⟨w.heap.size,7,none⟩=some (.slice ca f.code.length cc):=fun o=>(S.out.now o.h).1.2.2.2.2.2.2.2
  have x2:∀o:WB W,o.u.cell? ⟨w.heap.size+1,2,none⟩=some (.int .i64 x.a):=fun o=>(S.out.now o.h).2.2.2.1
  have x5:∀o:WB W,o.u.cell? ⟨w.heap.size+1,5,none⟩=some (.string x.cls):=fun o=>(S.out.now o.h).2.2.2.2.2.2.1
  have hne:Nonempty (WB W):=⟨⟨W,Below.refl _ _⟩⟩
  refine bJ W (by kernel_rfl) ?_
  repeat (go_big_quiet_step (first | (go_at_call 128;rename_i o;with_reducible exact(HOA.out _ (S.out.below o.h).ty.ch (S.out.below o.h).ty.hv).mono (fun _ _ h=>aj.bu h)) | (go_at_call 130;rename_i o;with_reducible exact(HC.out _ (S.out.below o.h).ty.ch (S.out.below o.h).ty.hv).mono (fun _ _ h=>aj.bu h))))
  refine wpQuiet_nil ?_
  intro _ hw'
  obtain⟨o,rfl⟩:=hw'
  have S1:=Lib.hid (S.out.below o.h)
  clear hne y0 y1 y2 y3 y4 y5 y6 y7 x2 x5
  generalize o.u=W1 at *
  clear S HOA HC
  obtain⟨⟨z0,z1,z2,z3,z4,z5,z6,z7⟩,⟨c0,c1,c2,c3,c4,c5,c6,c7,c8,c9⟩⟩:=S1.out.now (Below.refl _ _)
  go_wp2_with fail
  (with_reducible refine(HLK.out _ S1.out.ty.ch).mono ?_)
  rintro e w1 ⟨hb1,⟨hn,rfl⟩ | ⟨y,g,pa,pc,hs,rfl,hp⟩⟩
  case inl =>
   have e2:=HV.out
   rw[hn]at e2
   change _=6 at e2
   subst e2
   have S2:=Lib.hid (S1.out.below hb1)
   have B1:Hid (ah (w1.alloc jk) w1.heap.size #[.string ⟨#[]⟩,.bool false,.slice none 0 0,.string ⟨#[]⟩] 48):=aL ..
   have hF:=Lib.hid (S2.out.below (bP (av w1 jk) (Nat.le_refl _) #[.string ⟨#[]⟩,.bool false,.slice none 0 0,.string ⟨#[]⟩]))
   clear S1 S2 hb1 z0 z1 z2 z3 z4 z5 z6 z7 c0 c1 c2 c3 c4 c5 c6 c7 c8 c9 HLK HCL HV hn
   go_wp2_with (refine l5 rfl rfl _ _ rfl w1.heap.size sG none 0 rfl rfl _ B1.out rfl ?_)
   go_ret
   exact⟨rfl,hF.out.ty.hb⟩
  case inr =>
   obtain⟨gn,gs,gp,gr⟩:=g
   have S2:=Lib.hid (S1.out.below hb1)
   cases gs
   case true =>
    have e2:=HV.out
    rw[hs]at e2
    change _=6 at e2
    subst e2
    have B1:Hid (ah (w1.alloc jk) w1.heap.size #[.string ⟨#[]⟩,.bool false,.slice none 0 0,.string ⟨#[]⟩] 48):=aL ..
    have hY:=bP (av w1 jk) (Nat.le_refl _) #[.string gn,.bool true,.slice pa gp.length pc,.string gr]
    have S3:=Lib.hid (S2.out.below hY)
    have B3:=Lib.hid (B1.out.setRow #[.string gn,.bool true,.slice pa gp.length pc,.string gr])
    have P3:Hid (bF _ pa gp):=hp.below hY
    clear S1 S2 hb1 z0 z1 z2 z3 z4 z5 z6 z7 c0 c1 c2 c3 c4 c5 c6 c7 c8 c9 hs hp hY HV HLK
    go_upto_region 30 with (refine l5 rfl rfl _ _ rfl w1.heap.size ⟨gn,true,gp,gr⟩ pa pc rfl rfl _ B1.out rfl ?_)
    clear B1
    generalize (w1.alloc jk).setRow w1.heap.size #[.string gn,.bool true,.slice pa gp.length pc,.string gr]=W3 at *
    generalize w1.heap.size=n3 at *
    obtain⟨⟨z0,z1,z2,z3,z4,z5,z6,z7⟩,⟨c0,c1,c2,c3,c4,c5,c6,c7,c8,c9⟩⟩:=S3.out.now (Below.refl _ _)
    have b0:=B3.out.cell 0 (by simp)
    have b1:=B3.out.cell 1 (by simp)
    have b2:=B3.out.cell 2 (by simp)
    have b3:=B3.out.cell 3 (by simp)
    go_wp2
    go_ret
    exact⟨rfl,S3.out.ty.hb⟩
   case false =>
    have e2:=HV.out
    rw[hs]at e2
    change _=lI h f x ⟨gn,false,gp,gr⟩at e2
    subst e2
    have B1:Hid (ah (w1.alloc jk) w1.heap.size #[.string ⟨#[]⟩,.bool false,.slice none 0 0,.string ⟨#[]⟩] 48):=aL ..
    have hY:=bP (av w1 jk) (Nat.le_refl _) #[.string gn,.bool false,.slice pa gp.length pc,.string gr]
    have S3:=Lib.hid (S2.out.below hY)
    have B3:=Lib.hid (B1.out.setRow #[.string gn,.bool false,.slice pa gp.length pc,.string gr])
    have P3:Hid (bF _ pa gp):=hp.below hY
    clear S1 S2 hb1 z0 z1 z2 z3 z4 z5 z6 z7 c0 c1 c2 c3 c4 c5 c6 c7 c8 c9 hs hp hY HV HLK
    go_upto_region 30 with (refine l5 rfl rfl _ _ rfl w1.heap.size ⟨gn,false,gp,gr⟩ pa pc rfl rfl _ B1.out rfl ?_)
    clear B1
    generalize (w1.alloc jk).setRow w1.heap.size #[.string gn,.bool false,.slice pa gp.length pc,.string gr]=W3 at *
    generalize w1.heap.size=n3 at *
    obtain⟨⟨z0,z1,z2,z3,z4,z5,z6,z7⟩,⟨c0,c1,c2,c3,c4,c5,c6,c7,c8,c9⟩⟩:=S3.out.now (Below.refl _ _)
    have b0:=B3.out.cell 0 (by simp)
    have b1:=B3.out.cell 1 (by simp)
    have b2:=B3.out.cell 2 (by simp)
    have b3:=B3.out.cell 3 (by simp)
    go_wp2_with fail
    refine(HCL.out ⟨gn,false,gp,gr⟩ pa pc _ S3.out.ty.ch S3.out.ty.hv S3.out.ix.ga P3.out).mono ?_
    rintro e w4 ⟨rfl,hb4⟩
    have S4:=Lib.hid (S3.out.below hb4)
    clear S3 B3 P3 hb4 b0 b1 b2 b3 z0 z1 z2 z3 z4 z5 z6 z7 c0 c1 c2 c3 c4 c5 c6 c7 c8 c9 HCL
    go_wp2
    go_ret
    exact⟨rfl,S4.out.ty.hb⟩
end Go.Proofs.YtjnbddedmbhiaaaGreatDoor
