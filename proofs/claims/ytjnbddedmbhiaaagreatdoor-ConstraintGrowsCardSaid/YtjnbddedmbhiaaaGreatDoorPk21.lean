/-
  The program's inRange.
-/
import Derived.Test.YtjnbddedmbhiaaaGreatDoorPk20
namespace Go.ak
def wQ(f:aA)(x:Ins):Bool:=if aW x.op 100=true then(if dZ f x.dst=true then false else if aW x.op 42=true then(x.dst != -1)else true)else false
def wP(f:aA)(x:Ins):Bool:=if aW x.op 97=true then(if dZ f x.a=true then false else if (x.op != 13)=true then true else(x.a != -1))else false
def wO(f:aA)(x:Ins):Bool:=if aW x.op 98=true then !dZ f x.b else false
def Cw(f:aA)(x:Ins):Bool:=if aW x.op 103=true then(if decide (x.goto<0)=true then true else decide ((f.code.length:Int)<=x.goto))else false
def vF(f:aA)(x:Ins):Bool:=if (x.aZ == -1)=true then true else gG f.code x.aZ
def jI(f:aA)(x:Ins):Bool:=if wQ f x=true then false else if wP f x=true then false else if wO f x=true then false else if (x.args.all (dZ f))=true then(if Cw f x=true then false else vF f x)else false
end Go.ak
namespace Go.Proofs.YtjnbddedmbhiaaaGreatDoor
open Go.RowKit Go.ak

set_option maxRecDepth 100000 in
set_option maxHeartbeats 16000000 in
theorem Yc(f:aA)(va:Option Addr)(vc:Nat)(ca:Option Addr)(cc:Nat)(x:Ins)(ga:Option Addr)(gc:Nat)(w:World)(hv:aK w va f.vars)(hc:dw w ca f.code)(hi:aM w ga x.args)(hl:x.args.length<=1000000)(hF:FM w) :
 Calls Tryz.prog 69 #[eQ f va vc ca cc,bN x ga gc] w (aj w (.bool (jI f x))):=by
 have S0:=Lib.hid (FX.start (vc:=vc) (cc:=cc) (gc:=gc) hv hc hi)
 have F0:Hid (FM _):=hF.below S0.out.f.hb
 have HR:Hid (jI f x=if wQ f x=true then false else if wP f x=true then false else if wO f x=true then false else if (x.args.all (dZ f))=true then(if Cw f x=true then false else vF f x)else false):=rfl
 have HB2:Hid (wQ f x=if aW x.op 100=true then(if dZ f x.dst=true then false else if aW x.op 42=true then(x.dst != -1)else true)else false):=rfl
 have HB4:Hid (wP f x=if aW x.op 97=true then(if dZ f x.a=true then false else if (x.op != 13)=true then true else(x.a != -1))else false):=rfl
 have HB6:Hid (wO f x=if aW x.op 98=true then !dZ f x.b else false):=rfl
 have HB14:Hid (Cw f x=if aW x.op 103=true then(if decide (x.goto<0)=true then true else decide ((f.code.length:Int)<=x.goto))else false):=rfl
 have HOK:Hid (vF f x=if (x.aZ == -1)=true then true else gG f.code x.aZ):=rfl
 clear hv hc hi hF
 unfold eQ bN at *
 generalize jI f x=R at *
 generalize wQ f x=B2 at *
 generalize wP f x=B4 at *
 generalize wO f x=B6 at *
 generalize Cw f x=B14 at *
 generalize vF f x=OC at *
 go_enter Tryz.func69,Tryz.ntmps69
 go_upto_region 2 with (fail)
 generalize (w.alloc _).alloc _=W at *
 have H0:Hid (Calls Tryz.prog 122 #[.int .i64 x.op,.int .u8 100] W (Same W (.bool (aW x.op 100)))):=fJ x.op 100 W F0.out
 have H1:Hid (Calls Tryz.prog 122 #[.int .i64 x.op,.int .u8 42] W (Same W (.bool (aW x.op 42)))):=fJ x.op 42 W F0.out
 have H2:Hid (Calls Tryz.prog 122 #[.int .i64 x.op,.int .u8 97] W (Same W (.bool (aW x.op 97)))):=fJ x.op 97 W F0.out
 have H3:Hid (Calls Tryz.prog 122 #[.int .i64 x.op,.int .u8 98] W (Same W (.bool (aW x.op 98)))):=fJ x.op 98 W F0.out
 have H4:Hid (Calls Tryz.prog 122 #[.int .i64 x.op,.int .u8 103] W (Same W (.bool (aW x.op 103)))):=fJ x.op 103 W F0.out
 have HIC:Hid (Calls Tryz.prog 124 #[.agg #[.string f.cls,.string f.name,.bool f.stat,.int .i64 f.params,.slice va f.vars.length vc,.string f.result,.slice ca f.code.length cc],.int .i64 x.aZ] W (aj W (.bool (gG f.code x.aZ)))):=FN f va vc ca cc x.aZ W S0.out.f.hc
 obtain⟨w0,w1,w2,w3,w4,w5,w6⟩:=S0.out.f.cells
 have HV:Hid (∀v,Calls Tryz.prog 123 #[.int .i64 v,.pointer (some ⟨w.heap.size,0,none⟩)] W (Same W (.bool (dZ f v)))):=fun v=>Ug f v va vc _ W S0.out.f.cells.2.2.2.2.1
 obtain⟨x0,x1,x2,x3,x4,x5,x6,x7,x8,x9⟩:=S0.out.x.cells
 go_cut[29] (fun v wx=>v = .bool B2/\W=wx)
 case first =>
  have HV1:=Lib.hid (HV.out x.dst)
  clear HR HB4 HB6 HB14 HOK H2 H3 H4 HIC HV
  generalize dZ f x.dst=vd at *
  generalize aW x.op 100=u0 at *
  generalize aW x.op 42=u1 at *
  generalize hd:(x.dst != -1)=q at *
  all_goals
   cases u0<;>cases vd<;>cases u1<;>cases q
   all_goals
    have e:=HB2.out
    simp only[if_true,Bool.false_eq_true,if_false]at e
    subst e
    clear HB2
    go_wp2_with (first | (go_at_call 122;(with_reducible refine H0.out.mono ?_);rintro e w2 ⟨rfl,rfl⟩) | (go_at_call 122;(with_reducible refine H1.out.mono ?_);rintro e w2 ⟨rfl,rfl⟩) | (go_at_call 123;(with_reducible refine HV1.out.mono ?_);rintro e w2 ⟨rfl,rfl⟩))
    go_meet
    exact⟨rfl,rfl⟩
 case rest =>
  obtain⟨rfl,rfl⟩:=hcut
  clear H0 H1 HB2
  cases B2 with
  |true =>
   have e:R=false:=by rw[HR.out];rfl
   subst e
   clear HR HB4 HB6 HB14 HOK H2 H3 H4 HIC HV
   go_wp2
   go_ret
   exact⟨rfl,S0.out.f.hb⟩
  |false =>
   go_upto_region 4 with (fail)
   go_cut[49] (fun v wx=>v = .bool B4/\W=wx)
   case first =>
    have HV1:=Lib.hid (HV.out x.a)
    clear HR HB6 HB14 HOK H3 H4 HIC HV
    generalize dZ f x.a=vd at *
    generalize aW x.op 97=u0 at *
    generalize hd:(x.a != -1)=q at *
    generalize hp:(x.op != 13)=p at *
    cases u0<;>cases vd<;>cases p<;>cases q
    all_goals
     have e:=HB4.out
     simp only[if_true,Bool.false_eq_true,if_false]at e
     subst e
     clear HB4
     go_wp2_with (first | (go_at_call 122;(with_reducible refine H2.out.mono ?_);rintro e w2 ⟨rfl,rfl⟩) | (go_at_call 123;(with_reducible refine HV1.out.mono ?_);rintro e w2 ⟨rfl,rfl⟩))
     go_meet
     exact⟨rfl,rfl⟩
   case rest =>
    obtain⟨rfl,rfl⟩:=hcut
    clear H2 HB4
    cases B4 with
    |true =>
     have e:R=false:=by rw[HR.out];rfl
     subst e
     clear HR HB6 HB14 HOK H3 H4 HIC HV
     go_wp2
     go_ret
     exact⟨rfl,S0.out.f.hb⟩
    |false =>
     go_upto_region 6 with (fail)
     go_cut[59] (fun v wx=>v = .bool B6/\W=wx)
     case first =>
      have HV1:=Lib.hid (HV.out x.b)
      clear HR HB14 HOK H4 HIC HV
      generalize dZ f x.b=vd at *
      generalize aW x.op 98=u0 at *
      cases u0<;>cases vd
      all_goals
       have e:=HB6.out
       simp only[if_true,Bool.false_eq_true,if_false,Bool.not_true,Bool.not_false]at e
       subst e
       clear HB6
       go_wp2_with (first | (go_at_call 122;(with_reducible refine H3.out.mono ?_);rintro e w2 ⟨rfl,rfl⟩) | (go_at_call 123;(with_reducible refine HV1.out.mono ?_);rintro e w2 ⟨rfl,rfl⟩))
       go_meet
       exact⟨rfl,rfl⟩
     case rest =>
      obtain⟨rfl,rfl⟩:=hcut
      clear H3 HB6
      cases B6 with
      |true =>
       have e:R=false:=by rw[HR.out];rfl
       subst e
       clear HR HB14 HOK H4 HIC HV
       go_wp2
       go_ret
       exact⟨rfl,S0.out.f.hb⟩
      |false =>
       have HR2:Hid (R=if (x.args.all (dZ f))=true then(if B14=true then false else OC)else false):=by show _=_;rw[HR.out];rfl
       clear HR
       go_wp2
       go_loop[63] (fun i=>∃k:Nat,k<=x.args.length/\i = .int .i64 k/\Hid ((x.args.drop k).all (dZ f)=x.args.all (dZ f))) (fun i=>x.args.length-(intOf i).toNat)
       case atStart=>exact⟨0,Nat.zero_le _,rfl,rfl⟩
       case round =>
        obtain⟨k,hk,rfl,HJ⟩:=hrel
        by_cases hlt:k<x.args.length
        case neg =>
         have hA:x.args.all (dZ f)=true:=by rw[<-HJ.out,List.drop_of_length_le (by omega)];rfl
         have HR3:Hid (R=if B14=true then false else OC):=by show _=_;rw[HR2.out,hA];rfl
         clear HJ HR2 hA HV
         go_upto_region 14 with (fail)
         clear hlt
         go_cut[87] (fun v wx=>v = .bool B14/\W=wx)
         case first =>
          clear HR3 HOK HIC
          generalize aW x.op 103=u0 at *
          generalize g1:decide (x.goto<0)=q1 at *
          generalize g2:decide ((f.code.length:Int)<=x.goto)=q2 at *
          cases u0<;>cases q1<;>cases q2
          all_goals
           have e:=HB14.out
           simp only[if_true,Bool.false_eq_true,if_false]at e
           subst e
           clear HB14
           go_wp2_with (go_at_call 122;(with_reducible refine H4.out.mono ?_);rintro e w2 ⟨rfl,rfl⟩)
           go_meet
           exact⟨rfl,rfl⟩
         case rest =>
          obtain⟨rfl,rfl⟩:=hcut
          clear H4 HB14
          cases B14 with
          |true =>
           have e:R=false:=by rw[HR3.out];rfl
           subst e
           clear HR3 HOK HIC
           go_wp2
           go_ret
           exact⟨rfl,S0.out.f.hb⟩
          |false =>
           have e:=HR3.out.trans (show(if false=true then false else OC)=OC from rfl)
           have e2:Hid (R=if (x.aZ == -1)=true then true else gG f.code x.aZ):=by show _=_;rw[e,HOK.out]
           clear HR3 HOK e
           generalize gG f.code x.aZ=cb at *
           generalize hcc:(x.aZ == -1)=q at *
           cases q with
           |true =>
            have e:R=true:=e2.out
            subst e
            clear e2 HIC
            go_wp2
            go_ret
            exact⟨rfl,S0.out.f.hb⟩
           |false =>
            have e:R=cb:=e2.out
            subst e
            clear e2
            go_wp2_with (go_at_call 124;(with_reducible refine HIC.out.mono ?_);rintro e w2 ⟨rfl,hb2⟩)
            go_ret
            exact⟨rfl,(S0.out.f.below hb2).hb⟩
        case pos =>
         have HD:Hid (x.args.all (dZ f)=(dZ f x.args[k]&&(x.args.drop (k+1)).all (dZ f))):=by show _=_;rw[<-HJ.out,List.drop_eq_getElem_cons hlt];rfl
         obtain⟨b1,f1,rfl,z1⟩:=S0.out.x.ga k hlt
         have HV1:=Lib.hid (HV.out x.args[k])
         clear HV HJ HB14 HOK H4 HIC
         generalize x.args[k]=v at *
         generalize dZ f v=q at *
         cases q with
         |false =>
          have e:R=false:=by rw[HR2.out,HD.out];rfl
          subst e
          clear HR2 HD
          go_wp2_with (go_at_call 123;(with_reducible refine HV1.out.mono ?_);rintro e w2 ⟨rfl,rfl⟩)
          go_ret
          exact⟨rfl,S0.out.f.hb⟩
         |true =>
          go_wp2_with (go_at_call 123;(with_reducible refine HV1.out.mono ?_);rintro e w2 ⟨rfl,rfl⟩)
          go_round
          case rel=>exact⟨k+1,by omega,by go_num,HD.out.symm⟩
          case measure=>simp[intOf];omega
end Go.Proofs.YtjnbddedmbhiaaaGreatDoor
namespace Go.ak
def qB(f:aA)(i:Nat)(x:Ins):Bool :=
 if (if (x.op==12||x.op==13||x.op==14)=true then false else if ((i:Int)==(f.code.length:Int)-1)=true then true else gG f.code ((i:Int)+1))=true then false
 else if (if aW x.op 103=true then gG f.code x.goto else false)=true then false
 else if (x.op != 15)=true then true else decide (0<i)
end Go.ak
namespace Go.Proofs.YtjnbddedmbhiaaaGreatDoor
open Go.RowKit Go.ak

set_option maxRecDepth 100000 in
set_option maxHeartbeats 16000000 in
theorem ZX(f:aA)(va:Option Addr)(vc:Nat)(ca:Option Addr)(cc:Nat)(i:Nat)(hil:i<f.code.length)(w:World)(hv:aK w va f.vars)(hc:dw w ca f.code)(hnc:f.code.length<=1000000)(hF:FM w) :
 Calls Tryz.prog 70 #[eQ f va vc ca cc,.int .i64 i] w (aj w (.bool (qB f i f.code[i]))):=by
 have S0:=Lib.hid (FW.start (vc:=vc) (cc:=cc) hv hc)
 have hbb:=S0.out.hb
 have C0:=Lib.hid hc
 have V0:=Lib.hid hv
 have S1:=Lib.hid (S0.out.below (av _ bV))
 obtain⟨b,off,ga,gc,rfl,m0,m1,m2,m3,m4,m5,m6,m7,m8,m9,m10⟩:=C0.out i hil
 have B0:Hid (ah (((w.alloc (dP f va vc (some ⟨b,off,none⟩) cc)).alloc bV)) (w.heap.size+1) _ 53):=gH ..
 have K0:=Lib.hid (iH w (dP f va vc (some ⟨b,off,none⟩) cc) bV)
 have F0:=Lib.hid hF
 clear hv hc hF
 replace m0:=cell_below hbb m0
 replace m1:=cell_below hbb m1
 replace m2:=cell_below hbb m2
 replace m3:=cell_below hbb m3
 replace m4:=cell_below hbb m4
 replace m5:=cell_below hbb m5
 replace m6:=cell_below hbb m6
 replace m7:=cell_below hbb m7
 replace m8:=cell_below hbb m8
 replace m9:=cell_below hbb m9
 have HGA:=Lib.hid m10
 clear hbb m10
 generalize hx:f.code[i]=x at *
 clear hx
 have HR:Hid (qB f i x=if (if (x.op==12||x.op==13||x.op==14)=true then false else if ((i:Int)==(f.code.length:Int)-1)=true then true else gG f.code ((i:Int)+1))=true then false
  else if (if aW x.op 103=true then gG f.code x.goto else false)=true then false
  else if (x.op != 15)=true then true else decide (0<i)):=rfl
 unfold eQ
 generalize qB f i x=R at *
 go_enter Tryz.func70,Tryz.ntmps70
 go_upto_region 2 with (refine kR rfl rfl _ _ rfl (w.heap.size+1) x ga gc rfl rfl _ B0.out rfl ?_)
 have S2:Hid (FX f va vc (some ⟨b,off,none⟩) cc x ga gc w (((w.alloc (dP f va vc (some ⟨b,off,none⟩) cc)).alloc bV).setRow (w.heap.size+1) #[.int .i64 x.op,.int .i64 x.dst,.int .i64 x.a,.int .i64 x.b,.int .i64 x.n,.string x.cls,.string x.name,.slice ga x.args.length gc,.int .i64 x.goto,.int .i64 x.aZ])):=by
  have hb:=bP K0.out (g:=w.heap.size+1) (by omega) #[.int .i64 x.op,.int .i64 x.dst,.int .i64 x.a,.int .i64 x.b,.int .i64 x.n,.string x.cls,.string x.name,.slice ga x.args.length gc,.int .i64 x.goto,.int .i64 x.aZ]
  exact⟨⟨hb,S1.out.b1.uY (by omega) _,V0.out.below hb,C0.out.below hb⟩,⟨hb,B0.out.setRow _,HGA.out.below hb⟩⟩
 have F2:=Lib.hid (F0.out.below S2.out.f.hb)
 clear S0 S1 B0 K0 m0 m1 m2 m3 m4 m5 m6 m7 m8 m9 HGA C0 V0 F0
 generalize ((w.alloc (dP f va vc (some ⟨b,off,none⟩) cc)).alloc bV).setRow (w.heap.size+1) #[.int .i64 x.op,.int .i64 x.dst,.int .i64 x.a,.int .i64 x.b,.int .i64 x.n,.string x.cls,.string x.name,.slice ga x.args.length gc,.int .i64 x.goto,.int .i64 x.aZ]=W at *
 have US:Hid (∀w1,FM w1->Calls Tryz.prog 122 #[.int .i64 x.op,.int .u8 103] w1 (Same w1 (.bool (aW x.op 103)))):=fun w1 h1=>fJ x.op 103 w1 h1
 have IC1:Hid (∀w1,dw w1 (some ⟨b,off,none⟩) f.code->Calls Tryz.prog 124 #[.agg #[.string f.cls,.string f.name,.bool f.stat,.int .i64 f.params,.slice va f.vars.length vc,.string f.result,.slice (some ⟨b,off,none⟩) f.code.length cc],.int .i64 ((i:Int)+1)] w1 (aj w1 (.bool (gG f.code ((i:Int)+1))))):=fun w1 h1=>FN f va vc (some ⟨b,off,none⟩) cc _ w1 h1
 have IC2:Hid (∀w1,dw w1 (some ⟨b,off,none⟩) f.code->Calls Tryz.prog 124 #[.agg #[.string f.cls,.string f.name,.bool f.stat,.int .i64 f.params,.slice va f.vars.length vc,.string f.result,.slice (some ⟨b,off,none⟩) f.code.length cc],.int .i64 x.goto] w1 (aj w1 (.bool (gG f.code x.goto)))):=fun w1 h1=>FN f va vc (some ⟨b,off,none⟩) cc _ w1 h1
 generalize gG f.code ((i:Int)+1)=c1 at *
 generalize gG f.code x.goto=c2 at *
 generalize aW x.op 103=u at *
 generalize h12:(x.op==12)=e12 at *
 generalize h13:(x.op==13)=e13 at *
 generalize h14:(x.op==14)=e14 at *
 generalize h15:(x.op != 15)=n at *
 generalize hL:((i:Int)==(f.code.length:Int)-1)=l at *
 obtain⟨x0,-,-,-,-,-,-,-,x8,-⟩:=S2.out.x.cells
 obtain⟨y0,y1,y2,y3,y4,y5,y6⟩:=S2.out.f.cells
 cases e12<;>cases e13<;>cases e14
 case false.false.false =>
  cases l with
  |true =>
   have e:=HR.out
   simp only[Bool.or_false,if_true,Bool.false_eq_true,if_false]at e
   subst e
   clear HR US IC1 IC2
   go_wp2
   go_ret
   exact⟨rfl,S2.out.f.hb⟩
  |false =>
   go_wp2_with fail
   (with_reducible refine(IC1.out _ S2.out.f.hc).mono ?_)
   rintro e w2 ⟨rfl,hb2⟩
   replace S2:=Lib.hid (S2.out.below hb2)
   replace F2:=Lib.hid (F2.out.below hb2)
   clear x0 x8 y0 y1 y2 y3 y4 y5 y6
   obtain⟨x0,-,-,-,-,-,-,-,x8,-⟩:=S2.out.x.cells
   obtain⟨y0,y1,y2,y3,y4,y5,y6⟩:=S2.out.f.cells
   clear hb2 IC1
   cases c1 with
   |true =>
    have e:=HR.out
    simp only[Bool.or_false,if_true,Bool.false_eq_true,if_false]at e
    subst e
    clear HR US IC2
    go_wp2
    go_ret
    exact⟨rfl,S2.out.f.hb⟩
   |false =>
    go_upto_region 8 with (fail)
    cases u<;>cases c2<;>cases n
    all_goals
     have e:=HR.out
     simp only[Bool.or_false,if_true,Bool.false_eq_true,if_false]at e
     subst e
     clear HR
     go_wp2_with (first | (go_at_call 122;(with_reducible refine(US.out _ F2.out).mono ?_);rintro e w2 ⟨rfl,rfl⟩) | (go_at_call 124;(with_reducible refine(IC2.out _ S2.out.f.hc).mono ?_);rintro e w2 ⟨rfl,hb2⟩;replace S2:=Lib.hid (S2.out.below hb2);clear x0 x8 y0 y1 y2 y3 y4 y5 y6;obtain⟨x0,-,-,-,-,-,-,-,x8,-⟩:=S2.out.x.cells;obtain⟨y0,y1,y2,y3,y4,y5,y6⟩:=S2.out.f.cells))
     go_ret
     exact⟨rfl,S2.out.f.hb⟩
 case false.false.true =>
  go_upto_region 8 with (fail)
  cases u<;>cases c2<;>cases n
  all_goals
   have e:=HR.out
   simp only[Bool.or_true,Bool.or_false,if_true,Bool.false_eq_true,if_false]at e
   subst e
   clear HR
   go_wp2_with (first | (go_at_call 122;(with_reducible refine(US.out _ F2.out).mono ?_);rintro e w2 ⟨rfl,rfl⟩) | (go_at_call 124;(with_reducible refine(IC2.out _ S2.out.f.hc).mono ?_);rintro e w2 ⟨rfl,hb2⟩;replace S2:=Lib.hid (S2.out.below hb2);clear x0 x8 y0 y1 y2 y3 y4 y5 y6;obtain⟨x0,-,-,-,-,-,-,-,x8,-⟩:=S2.out.x.cells;obtain⟨y0,y1,y2,y3,y4,y5,y6⟩:=S2.out.f.cells))
   go_ret
   exact⟨rfl,S2.out.f.hb⟩
 case false.true.false =>
  go_upto_region 8 with (fail)
  cases u<;>cases c2<;>cases n
  all_goals
   have e:=HR.out
   simp only[Bool.or_true,Bool.or_false,if_true,Bool.false_eq_true,if_false]at e
   subst e
   clear HR
   go_wp2_with (first | (go_at_call 122;(with_reducible refine(US.out _ F2.out).mono ?_);rintro e w2 ⟨rfl,rfl⟩) | (go_at_call 124;(with_reducible refine(IC2.out _ S2.out.f.hc).mono ?_);rintro e w2 ⟨rfl,hb2⟩;replace S2:=Lib.hid (S2.out.below hb2);clear x0 x8 y0 y1 y2 y3 y4 y5 y6;obtain⟨x0,-,-,-,-,-,-,-,x8,-⟩:=S2.out.x.cells;obtain⟨y0,y1,y2,y3,y4,y5,y6⟩:=S2.out.f.cells))
   go_ret
   exact⟨rfl,S2.out.f.hb⟩
 case false.true.true =>
  go_upto_region 8 with (fail)
  cases u<;>cases c2<;>cases n
  all_goals
   have e:=HR.out
   simp only[Bool.or_true,if_true,Bool.false_eq_true,if_false]at e
   subst e
   clear HR
   go_wp2_with (first | (go_at_call 122;(with_reducible refine(US.out _ F2.out).mono ?_);rintro e w2 ⟨rfl,rfl⟩) | (go_at_call 124;(with_reducible refine(IC2.out _ S2.out.f.hc).mono ?_);rintro e w2 ⟨rfl,hb2⟩;replace S2:=Lib.hid (S2.out.below hb2);clear x0 x8 y0 y1 y2 y3 y4 y5 y6;obtain⟨x0,-,-,-,-,-,-,-,x8,-⟩:=S2.out.x.cells;obtain⟨y0,y1,y2,y3,y4,y5,y6⟩:=S2.out.f.cells))
   go_ret
   exact⟨rfl,S2.out.f.hb⟩
 case true.false.false =>
  go_upto_region 8 with (fail)
  cases u<;>cases c2<;>cases n
  all_goals
   have e:=HR.out
   simp only[Bool.or_false,if_true,Bool.false_eq_true,if_false]at e
   subst e
   clear HR
   go_wp2_with (first | (go_at_call 122;(with_reducible refine(US.out _ F2.out).mono ?_);rintro e w2 ⟨rfl,rfl⟩) | (go_at_call 124;(with_reducible refine(IC2.out _ S2.out.f.hc).mono ?_);rintro e w2 ⟨rfl,hb2⟩;replace S2:=Lib.hid (S2.out.below hb2);clear x0 x8 y0 y1 y2 y3 y4 y5 y6;obtain⟨x0,-,-,-,-,-,-,-,x8,-⟩:=S2.out.x.cells;obtain⟨y0,y1,y2,y3,y4,y5,y6⟩:=S2.out.f.cells))
   go_ret
   exact⟨rfl,S2.out.f.hb⟩
 case true.false.true =>
  go_upto_region 8 with (fail)
  cases u<;>cases c2<;>cases n
  all_goals
   have e:=HR.out
   simp only[Bool.or_true,Bool.or_false,if_true,Bool.false_eq_true,if_false]at e
   subst e
   clear HR
   go_wp2_with (first | (go_at_call 122;(with_reducible refine(US.out _ F2.out).mono ?_);rintro e w2 ⟨rfl,rfl⟩) | (go_at_call 124;(with_reducible refine(IC2.out _ S2.out.f.hc).mono ?_);rintro e w2 ⟨rfl,hb2⟩;replace S2:=Lib.hid (S2.out.below hb2);clear x0 x8 y0 y1 y2 y3 y4 y5 y6;obtain⟨x0,-,-,-,-,-,-,-,x8,-⟩:=S2.out.x.cells;obtain⟨y0,y1,y2,y3,y4,y5,y6⟩:=S2.out.f.cells))
   go_ret
   exact⟨rfl,S2.out.f.hb⟩
 case true.true.false =>
  go_upto_region 8 with (fail)
  cases u<;>cases c2<;>cases n
  all_goals
   have e:=HR.out
   simp only[Bool.or_true,Bool.or_false,if_true,Bool.false_eq_true,if_false]at e
   subst e
   clear HR
   go_wp2_with (first | (go_at_call 122;(with_reducible refine(US.out _ F2.out).mono ?_);rintro e w2 ⟨rfl,rfl⟩) | (go_at_call 124;(with_reducible refine(IC2.out _ S2.out.f.hc).mono ?_);rintro e w2 ⟨rfl,hb2⟩;replace S2:=Lib.hid (S2.out.below hb2);clear x0 x8 y0 y1 y2 y3 y4 y5 y6;obtain⟨x0,-,-,-,-,-,-,-,x8,-⟩:=S2.out.x.cells;obtain⟨y0,y1,y2,y3,y4,y5,y6⟩:=S2.out.f.cells))
   go_ret
   exact⟨rfl,S2.out.f.hb⟩
 case true.true.true =>
  go_upto_region 8 with (fail)
  cases u<;>cases c2<;>cases n
  all_goals
   have e:=HR.out
   simp only[Bool.or_true,if_true,Bool.false_eq_true,if_false]at e
   subst e
   clear HR
   go_wp2_with (first | (go_at_call 122;(with_reducible refine(US.out _ F2.out).mono ?_);rintro e w2 ⟨rfl,rfl⟩) | (go_at_call 124;(with_reducible refine(IC2.out _ S2.out.f.hc).mono ?_);rintro e w2 ⟨rfl,hb2⟩;replace S2:=Lib.hid (S2.out.below hb2);clear x0 x8 y0 y1 y2 y3 y4 y5 y6;obtain⟨x0,-,-,-,-,-,-,-,x8,-⟩:=S2.out.x.cells;obtain⟨y0,y1,y2,y3,y4,y5,y6⟩:=S2.out.f.cells))
   go_ret
   exact⟨rfl,S2.out.f.hb⟩
end Go.Proofs.YtjnbddedmbhiaaaGreatDoor
namespace Go.ak
def tT(x:Ins):Bool:=if ig x.op=true then(if (x.op==4)=true then(if decide (x.n<1)=true then true else decide (5<x.n))else false)else true
theorem Ag{f:aA}{x:Ins}(k:jI f x=true):lN f x:=by
 have u:=Jq x.op
 unfold jI at k
 cases b2:wQ f x with
 |true=>rw[b2]at k;cases k
 |false =>
 cases b4:wP f x with
 |true=>rw[b2,b4]at k;cases k
 |false =>
 cases b6:wO f x with
 |true=>rw[b2,b4,b6]at k;cases k
 |false =>
 cases ba:x.args.all (dZ f)with
 |false=>rw[b2,b4,b6,ba]at k;cases k
 |true =>
 have vr:∀{v:Int},dZ f v=true->0<=v/\v<f.vars.length:=fun {v} e=>by unfold dZ at e;simpa using e
 refine⟨fun e=>?_,fun e=>?_,fun e=>?_,fun v hv=>vr (List.all_eq_true.1 ba v hv)⟩
 ·rw[<-u.1]at e
  unfold wQ at b2
  rw[if_pos e]at b2
  cases hv:dZ f x.dst with
  |true=>exact .inl (vr hv)
  |false =>
   rw[hv]at b2
   cases h42:aW x.op 42 with
   |false=>rw[h42]at b2;cases b2
   |true =>
    rw[h42]at b2
    exact .inr ⟨by rw[<-u.2.2.2.2.2.2.1];exact h42,by simpa using b2⟩
 ·rw[<-u.2.1]at e
  unfold wP at b4
  rw[if_pos e]at b4
  cases hv:dZ f x.a with
  |true=>exact .inl (vr hv)
  |false =>
   rw[hv]at b4
   cases h13:(x.op != 13)with
   |true=>rw[h13]at b4;cases b4
   |false =>
    rw[h13]at b4
    exact .inr ⟨by simpa using h13,by simpa using b4⟩
 ·rw[<-u.2.2.1]at e
  unfold wO at b6
  rw[if_pos e]at b6
  exact vr (by simpa using b6)
end Go.ak
namespace Go.Proofs.YtjnbddedmbhiaaaGreatDoor
open Go.RowKit Go.ak

def iA(h:List ae)(f:aA)(i:Nat)(x:Ins):Int:=if tT x=true then 12 else if lX x=true then(if jI f x=true then(if qB f i x=true then bY h f x else 1)else 4)else 1
set_option maxRecDepth 100000 in
set_option maxHeartbeats 16000000 in
theorem XW(h:List ae)(a:Option Addr)(c:Nat)(f:aA)(va:Option Addr)(vc:Nat)(ca:Option Addr)(cc:Nat)(i:Nat)(hil:i<f.code.length)(w:World)
 (hc:ay w a h) (hv:aK w va f.vars) (hi:dw w ca f.code) (hl:h.length<=100000) (hff:∀c∈h,c.fields.length<=100000) (hm:∀c∈h,c.methods.length<=100000) (hp:∀c∈h,∀y∈c.methods,y.params.length<=100000) (hal:f.code[i].args.length<=1000000) (hnc:f.code.length<=1000000) (hF:FM w) :
 Calls Tryz.prog 33 #[.agg #[.slice a h.length c],eQ f va vc ca cc,.int .i64 i] w (aj w (.int .i64 (iA h f i f.code[i]))):=by
 obtain⟨b,off,ga,gc,he,m0,m1,m2,m3,m4,m5,m6,m7,m8,m9,hgi⟩:=hi i hil
 have HKN:Hid (∀w1,Calls Tryz.prog 67 #[.int .i64 f.code[i].op] w1 (Same w1 (.bool (ig f.code[i].op)))):=fun w1=>Fy _ w1
 have HUZ:Hid (∀w1,aM w1 ga f.code[i].args->FM w1->Calls Tryz.prog 68 #[bN f.code[i] ga gc] w1 (aj w1 (.bool (lX f.code[i])))):=fun w1 h1 h2=>Re _ ga gc w1 h1 h2
 have HRG:Hid (∀w1,aK w1 va f.vars->dw w1 ca f.code->aM w1 ga f.code[i].args->FM w1->Calls Tryz.prog 69 #[eQ f va vc ca cc,bN f.code[i] ga gc] w1 (aj w1 (.bool (jI f f.code[i])))):=fun w1 h1 h2 h3 h4=>Yc f va vc ca cc _ ga gc w1 h1 h2 h3 hal h4
 have HCT:Hid (∀w1,aK w1 va f.vars->dw w1 ca f.code->FM w1->Calls Tryz.prog 70 #[eQ f va vc ca cc,.int .i64 i] w1 (aj w1 (.bool (qB f i f.code[i])))):=fun w1 h1 h2 h3=>ZX f va vc ca cc i hil w1 h1 h2 hnc h3
 have HTI:Hid (jI f f.code[i]=true->∀w1,ay w1 a h->aK w1 va f.vars->aM w1 ga f.code[i].args->Calls Tryz.prog 71 #[aR h a c f va vc ca cc,bN f.code[i] ga gc] w1 (aj w1 (.int .i64 (bY h f f.code[i])))):=fun hr w1 h1 h2 h3=>Rk h a c f va vc ca cc _ ga gc w1 h1 h2 h3 hl hff hm hp hal (Ag hr)
 have HR:Hid (iA h f i f.code[i]=if tT f.code[i]=true then 12 else if lX f.code[i]=true then(if jI f f.code[i]=true then(if qB f i f.code[i]=true then bY h f f.code[i]else 1)else 4)else 1):=rfl
 have HK:Hid (tT f.code[i]=if ig f.code[i].op=true then(if (f.code[i].op==4)=true then(if decide (f.code[i].n<1)=true then true else decide (5<f.code[i].n))else false)else true):=rfl
 have HFM:=Lib.hid hF
 clear hl hff hm hp hal hnc hF
 have hbb:=iH w (fZ h a c) (dP f va vc ca cc)
 have b0:ah (w.alloc (fZ h a c)) w.heap.size #[.slice a h.length c] 24:=aL ..
 have B0:=Lib.hid (b0.below (av _ (dP f va vc ca cc)))
 have B1:Hid (ah ((w.alloc (fZ h a c)).alloc (dP f va vc ca cc)) (w.heap.size+1) #[.string f.cls,.string f.name,.bool f.stat,.int .i64 f.params,.slice va f.vars.length vc,.string f.result,.slice ca f.code.length cc] 51):=gH ..
 have HM:Hid (∀w1,Below w.heap.size w w1->ay w1 a h/\aK w1 va f.vars/\dw w1 ca f.code/\aM w1 ga f.code[i].args):=fun w1 h1=>⟨hc.below h1,hv.below h1,hi.below h1,hgi.below h1⟩
 replace m0:=cell_below hbb m0
 replace m1:=cell_below hbb m1
 replace m2:=cell_below hbb m2
 replace m3:=cell_below hbb m3
 replace m4:=cell_below hbb m4
 replace m5:=cell_below hbb m5
 replace m6:=cell_below hbb m6
 replace m7:=cell_below hbb m7
 replace m8:=cell_below hbb m8
 replace m9:=cell_below hbb m9
 subst he
 clear hc hv hi hgi b0
 generalize f.code[i]=x at *
 have HBB:=Lib.hid hbb
 clear hbb
 have BZ:Hid (ah (((w.alloc (fZ h a c)).alloc (dP f va vc (some ⟨b,off,none⟩) cc)).alloc bV) (w.heap.size+2) _ 53):=wN ..
 unfold eQ bN aR pR at *
 go_enter Tryz.func33,Tryz.ntmps33
 go_upto_region 2 with (refine kR rfl rfl _ _ rfl (w.heap.size+2) x ga gc rfl rfl _ BZ.out rfl ?_)
 have S0:Hid (TX h a c f va vc (some ⟨b,off,none⟩) cc x ga gc w ((((w.alloc (fZ h a c)).alloc (dP f va vc (some ⟨b,off,none⟩) cc)).alloc bV).setRow (w.heap.size+2) #[.int .i64 x.op,.int .i64 x.dst,.int .i64 x.a,.int .i64 x.b,.int .i64 x.n,.string x.cls,.string x.name,.slice ga x.args.length gc,.int .i64 x.goto,.int .i64 x.aZ])):=by
  have hb3:=HBB.out.trans ((av ((w.alloc (fZ h a c)).alloc (dP f va vc (some ⟨b,off,none⟩) cc)) bV).mono HBB.out.size)
  have hb:=bP hb3 (g:=w.heap.size+2) (by omega) #[.int .i64 x.op,.int .i64 x.dst,.int .i64 x.a,.int .i64 x.b,.int .i64 x.n,.string x.cls,.string x.name,.slice ga x.args.length gc,.int .i64 x.goto,.int .i64 x.aZ]
  obtain⟨q1,q2,q3,q4⟩:=HM.out _ hb
  exact⟨(B0.out.below (av _ bV)).uY (by omega) _,q1,⟨hb,(B1.out.below (av _ bV)).uY (by omega) _,q2,q3⟩,⟨hb,BZ.out.setRow _,q4⟩⟩
 clear B0 B1 BZ HBB m0 m1 m2 m3 m4 m5 m6 m7 m8 m9
 generalize (((w.alloc (fZ h a c)).alloc (dP f va vc (some ⟨b,off,none⟩) cc)).alloc bV).setRow (w.heap.size+2) _=W at *
 have FW0:=Lib.hid (HFM.out.below S0.out.f.hb)
 clear HM HFM
 generalize iA h f i x=R at *
 generalize tT x=K at *
 generalize lX x=Z at *
 generalize jI f x=G at *
 generalize qB f i x=T at *
 generalize bY h f x=E at *
 obtain⟨x0,-,-,-,x4,-⟩:=S0.out.x.cells
 go_cut[31] (fun v wx=>v = .bool K/\W=wx)
 case first =>
  clear HUZ HRG HCT HTI HR
  have uK:=Lib.hid (HKN.out W)
  clear HKN
  generalize ig x.op=kn at *
  generalize h4:(x.op==4)=e4 at *
  generalize h1:decide (x.n<1)=n1 at *
  generalize h5:decide (5<x.n)=n5 at *
  cases kn<;>cases e4<;>cases n1<;>cases n5
  all_goals
   have e:=HK.out
   simp only[if_true,Bool.false_eq_true,if_false]at e
   subst e
   clear HK
   go_wp2_with (go_at_call 67;(with_reducible refine uK.out.mono ?_);rintro e w2 ⟨rfl,rfl⟩)
   go_meet
   exact⟨rfl,rfl⟩
 case rest =>
  obtain⟨rfl,rfl⟩:=hcut
  clear HKN HK x0 x4
  cases K with
  |true =>
   have e:R=12:=HR.out
   subst e
   clear HR HUZ HRG HCT HTI
   go_wp2
   go_ret
   exact⟨rfl,S0.out.f.hb⟩
  |false =>
   change Hid (R=if Z=true then(if G=true then(if T=true then E else 1)else 4)else 1)at HR
   obtain⟨x0,x1,x2,x3,x4,x5,x6,x7,x8,x9⟩:=S0.out.x.cells
   obtain⟨y0,y1,y2,y3,y4,y5,y6⟩:=S0.out.f.cells
   have z0:=S0.out.bh.cell 0 (by simp)
   go_wp2_with fail
   refine(HUZ.out _ S0.out.x.ga FW0.out).mono ?_
   rintro e w1 ⟨rfl,hb1⟩
   have S1:=Lib.hid (S0.out.below hb1)
   have F1:=Lib.hid (FW0.out.below hb1)
   clear S0 FW0 hb1 HUZ x0 x1 x2 x3 x4 x5 x6 x7 x8 x9 y0 y1 y2 y3 y4 y5 y6 z0
   cases Z with
   |false =>
    have e:R=1:=HR.out
    subst e
    clear HR HRG HCT HTI
    go_wp2
    go_ret
    exact⟨rfl,S1.out.f.hb⟩
   |true =>
    change Hid (R=if G=true then(if T=true then E else 1)else 4)at HR
    obtain⟨x0,x1,x2,x3,x4,x5,x6,x7,x8,x9⟩:=S1.out.x.cells
    obtain⟨y0,y1,y2,y3,y4,y5,y6⟩:=S1.out.f.cells
    have z0:=S1.out.bh.cell 0 (by simp)
    go_wp2_with fail
    refine(HRG.out _ S1.out.f.hv S1.out.f.hc S1.out.x.ga F1.out).mono ?_
    rintro e w2 ⟨rfl,hb2⟩
    have S2:=Lib.hid (S1.out.below hb2)
    have F2:=Lib.hid (F1.out.below hb2)
    clear S1 F1 hb2 HRG x0 x1 x2 x3 x4 x5 x6 x7 x8 x9 y0 y1 y2 y3 y4 y5 y6 z0
    cases G with
    |false =>
     have e:R=4:=HR.out
     subst e
     clear HR HCT HTI
     go_wp2
     go_ret
     exact⟨rfl,S2.out.f.hb⟩
    |true =>
     change Hid (R=if T=true then E else 1)at HR
     have HT2:=Lib.hid (HTI.out rfl)
     clear HTI
     obtain⟨x0,x1,x2,x3,x4,x5,x6,x7,x8,x9⟩:=S2.out.x.cells
     obtain⟨y0,y1,y2,y3,y4,y5,y6⟩:=S2.out.f.cells
     have z0:=S2.out.bh.cell 0 (by simp)
     go_wp2_with fail
     refine(HCT.out _ S2.out.f.hv S2.out.f.hc F2.out).mono ?_
     rintro e w3 ⟨rfl,hb3⟩
     have S3:=Lib.hid (S2.out.below hb3)
     clear S2 F2 hb3 HCT x0 x1 x2 x3 x4 x5 x6 x7 x8 x9 y0 y1 y2 y3 y4 y5 y6 z0
     cases T with
     |false =>
      have e:R=1:=HR.out
      subst e
      clear HR HT2
      go_wp2
      go_ret
      exact⟨rfl,S3.out.f.hb⟩
     |true =>
      have e:R=E:=HR.out
      subst e
      clear HR
      obtain⟨x0,x1,x2,x3,x4,x5,x6,x7,x8,x9⟩:=S3.out.x.cells
      obtain⟨y0,y1,y2,y3,y4,y5,y6⟩:=S3.out.f.cells
      have z0:=S3.out.bh.cell 0 (by simp)
      go_wp2_with fail
      refine(HT2.out _ S3.out.hc S3.out.f.hv S3.out.x.ga).mono ?_
      rintro e w4 ⟨rfl,hb4⟩
      have S4:=Lib.hid (S3.out.below hb4)
      clear S3 hb4 HT2 x0 x1 x2 x3 x4 x5 x6 x7 x8 x9 y0 y1 y2 y3 y4 y5 y6 z0
      go_wp2
      go_ret
      exact⟨rfl,S4.out.f.hb⟩
end Go.Proofs.YtjnbddedmbhiaaaGreatDoor
