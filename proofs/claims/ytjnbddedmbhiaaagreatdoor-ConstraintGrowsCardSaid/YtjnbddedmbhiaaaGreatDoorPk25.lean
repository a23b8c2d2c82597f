/-
  The program's hier.Check.
-/
import Derived.Test.YtjnbddedmbhiaaaGreatDoorPk24
namespace Go.ak
def nS(h:List ae):List ae->Nat->Int × Int
 |[],_=>(0,0)
 |x::l,i=>if lD h i x=0 then nS h l (i+1)else((i:Int),lD h i x)
def jQ(h:List ae):Int × Int:=if 64<h.length then(-1,3)else nS h h 0
end Go.ak
namespace Go.Proofs.YtjnbddedmbhiaaaGreatDoor
open Go.RowKit Go.ak Go.AM

theorem Yt(h l:List ae)(k:Nat)(hk:k<l.length):nS h (l.drop k) k=if lD h k l[k]=0 then nS h (l.drop (k+1)) (k+1)else((k:Int),lD h k l[k]):=by
 rw[List.drop_eq_getElem_cons hk];rfl
structure lV(h:List ae)(a:Option Addr)(c g n1:Nat)(w wr:World):Prop where
 hb:Below w.heap.size w wr
 bt:ah wr n1 #[.slice a h.length c,.map (some g)] 206
 hc:ay wr a h
 tg:TabAt wr g h
 kw:KW wr
theorem lV.below{h:List ae}{a:Option Addr}{c g n1:Nat}{w wr w':World}(k:lV h a c g n1 w wr)(hb:Below wr.heap.size wr w'):lV h a c g n1 w w':=⟨k.hb.trans (hb.mono k.hb.size),k.bt.below hb,k.hc.below hb,k.tg.below hb,k.kw.below hb⟩
theorem lV.cells{h:List ae}{a:Option Addr}{c g n1:Nat}{w wr:World}(k:lV h a c g n1 w wr):wr.cell? ⟨n1,0,none⟩=some (.slice a h.length c)/\wr.cell? ⟨n1,1,none⟩=some (.map (some g)):=⟨k.bt.cell 0 (by simp),k.bt.cell 1 (by simp)⟩
set_option maxRecDepth 100000 in
set_option maxHeartbeats 4000000 in
theorem Yr(h:List ae)(a:Option Addr)(c:Nat)(hz1:∀x∈h,x.fields.length<=1000000)(hz:∀x∈h,x.methods.length<=1000000)(hzp:∀x∈h,∀s∈x.methods,s.params.length<=1000000)
 (w:World) (hc:ay w a h) (hkw:KW w) :
 Calls Tryz.prog 63 #[.agg #[.slice a h.length c]] w (aj w (.tuple #[.int .i64 (jQ h).1,.int .i64 (jQ h).2])):=by
 have HB:=Lib.hid (av w (.cells #[.slice a h.length c] 24))
 have HX:Hid (ah (w.alloc (.cells #[.slice a h.length c] 24)) w.heap.size #[.slice a h.length c] 24):=aL ..
 have HC0:=Lib.hid (hc.below HB.out)
 have HK0:=Lib.hid (hkw.below HB.out)
 have HT:Hid (h.length<=64->∀w1,ay w1 a h->Calls Tryz.prog 112 #[.agg #[.slice a h.length c]] w1 (wV h a c w1)):=fun e w1 h1=>xC h a c w1 h1 (by omega)
 have HCL:Hid (h.length<=64->∀(i:Nat) (hi:i<h.length) (g:Nat) w1,ay w1 a h->TabAt w1 g h->KW w1->Calls Tryz.prog 116 #[.agg #[.slice a h.length c,.map (some g)],.int .i64 i] w1 (aj w1 (.int .i64 (lD h i h[i])))):=fun e i hi g w1 h1 h2 h3=>RX h a c g i hi (by omega) hz1 hz hzp w1 h1 h2 h3
 have HRE:Hid (jQ h=if 64<h.length then(-1,3)else nS h h 0):=rfl
 clear hc hkw hz1 hz hzp
 generalize jQ h=R at *
 go_enter Tryz.func63,Tryz.ntmps63
 go_upto_region 1 with (fail)
 generalize w.alloc _=W at *
 have x0:=HX.out.cell 0 (by simp)
 by_cases h1:64<h.length
 case pos =>
  have e:R=(-1,3):=by rw[HRE.out,if_pos h1]
  subst e
  have t1:decide ((64:Int)<h.length)=true:=by simp;omega
  clear HRE HT HCL
  go_wp2
  refine bodyPost_ret (v:=.tuple #[.int .i64 (-1),.int .i64 3]) (by simp[results,Tryz.results63,go_sem]) rfl ?_
  exact⟨rfl,HB.out⟩
 have HR2:Hid (R=nS h (h.drop 0) 0):=by show _=_;rw[HRE.out,if_neg h1];rfl
 have t1:decide ((64:Int)<h.length)=false:=by simp;omega
 have hl:h.length<=64:=by omega
 clear HRE h1
 have HT2:=Lib.hid (HT.out hl _ HC0.out)
 have HCL2:=Lib.hid (HCL.out hl)
 clear HT HCL
 go_upto_region 4 with (first | (go_at_call 112;refine HT2.out.mono ?_;rintro e w1 ⟨hb1,g,rfl,tg,hgg⟩;have BT0:ah (w1.alloc (.cells #[.slice none 0 0,.map none] 206)) w1.heap.size #[.slice none 0 0,.map none] 206:=aL ..) | (refine zT rfl _ _ rfl w1.heap.size a h.length c g rfl rfl _ BT0 rfl ?_))
 have hb2:=bP (av w1 (.cells #[.slice none 0 0,.map none] 206)) (Nat.le_refl _) #[.slice a h.length c,.map (some g)]
 have BT:=BT0.setRow #[.slice a h.length c,.map (some g)]
 have S2:Hid (lV h a c g w1.heap.size w _):=⟨HB.out.trans ((hb1.trans (hb2.mono hb1.size)).mono HB.out.size),BT,(HC0.out.below hb1).below hb2,tg.below hb2,(HK0.out.below hb1).below hb2⟩
 clear HB HX HC0 HK0 HT2 x0 t1 hb1 tg hgg BT0 hb2 BT
 generalize (w1.alloc (.cells #[.slice none 0 0,.map none] 206)).setRow w1.heap.size #[.slice a h.length c,.map (some g)]=W2 at *
 generalize w1.heap.size=n1 at *
 obtain⟨y0,y1⟩:=S2.out.cells
 go_wp2
 clear y0 y1
 go_loopw[16] (fun v wr=>∃q:Nat,q<=h.length/\v = .int .i64 q/\Hid (R=nS h (h.drop q) q)/\Hid (lV h a c g n1 w wr)) (fun v _=>h.length-(intOf v).toNat)
 case atStart=>exact⟨0,Nat.zero_le _,rfl,HR2.out,S2.out⟩
 case round =>
  clear S2 HR2
  obtain⟨q,hq,rfl,HJ,S⟩:=hrel
  obtain⟨y0,y1⟩:=S.out.cells
  by_cases hlt:q<h.length
  case pos =>
   have HC:=Lib.hid (HCL2.out q hlt g _ S.out.hc S.out.tg S.out.kw)
   have HJ2:=HJ.out
   rw[Yt _ _ _ hlt]at HJ2
   generalize lD h q h[q]=E at *
   by_cases e0:E=0
   case neg =>
    rw[if_neg e0]at HJ2
    subst HJ2
    clear HJ HCL2
    go_wp2_with (go_at_call 116;refine HC.out.mono ?_;rintro e w5 ⟨rfl,hb5⟩)
    refine bodyPost_ret (v:=.tuple #[.int .i64 q,.int .i64 E]) (by simp[results,Tryz.results63,go_sem]) rfl ?_
    exact⟨rfl,S.out.hb.trans (hb5.mono S.out.hb.size)⟩
   rw[if_pos e0]at HJ2
   have HJ3:=Lib.hid HJ2
   subst e0
   clear HJ HJ2
   go_wp2_with (go_at_call 116;refine HC.out.mono ?_;rintro e w5 ⟨rfl,hb5⟩)
   have S5:=Lib.hid (S.out.below hb5)
   clear S hb5 HC y0 y1
   go_roundw
   case rel=>exact⟨q+1,by omega,by go_num,HJ3.out,S5.out⟩
   case measure=>simp[intOf];omega
  have e:R=(0,0):=by rw[HJ.out,List.drop_of_length_le (by omega)];rfl
  subst e
  clear HJ HCL2
  go_wp2
  refine bodyPost_ret (v:=.tuple #[.int .i64 0,.int .i64 0]) (by simp[results,Tryz.results63,go_sem]) rfl ?_
  exact⟨rfl,S.out.hb⟩
end Go.Proofs.YtjnbddedmbhiaaaGreatDoor
namespace Go.ak
def E9(f:aA):Bool :=
 if (f.cls.toList==[77,97,105,110])=true then(if (f.name.toList==[109,97,105,110])=true then(if f.stat=true then(if f.params=0 then(if (f.result.toList==[])=true then true else false)else false)else false)else false)else false
def xA(u:aQ):Int:=if u.main<0 then 14 else if (u.fs.length:Int)<=u.main then 14 else if E9 ((u.fs[u.main.toNat]?).getD ⟨⟨#[]⟩,⟨#[]⟩,false,0,[],⟨#[]⟩,[]⟩)=true then 0 else 14
def jF(u:aQ):Int :=
 if (jQ u.h).2=0 then(if 256<u.fs.length then 3 else if (u.fs.length:Int)=(bG u.h:Nat)then xA u else 20)else(jQ u.h).2
end Go.ak
namespace Go.Proofs.YtjnbddedmbhiaaaGreatDoor
open Go.RowKit Go.ak Go.AM

theorem JM(l:List ae)(k:Nat)(hk:k<l.length):bG (l.take (k+1))=bG (l.take k)+l[k].methods.length:=JN hk
theorem Dr{m:Nat}:∀(l:List ae),(∀x∈l,x.methods.length<=m)->bG l<=l.length*m
 |[],_=>by simp[bG]
 |x::l,h=>by
  have h1:=Dr l (fun y hy=>h y (List.mem_cons_of_mem _ hy))
  have h2:=h x List.mem_cons_self
  have e:bG (x::l)=x.methods.length+bG l:=by simp[bG]
  rw[e,List.length_cons,Nat.add_mul,Nat.one_mul]
  omega
set_option maxRecDepth 100000 in
set_option maxHeartbeats 8000000 in
theorem Rf(u:aQ)(ha:Option Addr)(hc:Nat)(fa:Option Addr)(fc:Nat)(hl:u.h.length<=100000)(hz1:∀x∈u.h,x.fields.length<=1000000)(hz:∀x∈u.h,x.methods.length<=1000000)(hzp:∀x∈u.h,∀s∈x.methods,s.params.length<=1000000)
 (w:World) (hh:ay w ha u.h) (hf:bR w fa u.fs) (hkw:KW w) :
 Calls Tryz.prog 31 #[bZ u ha hc fa fc] w (aj w (.int .i64 (jF u))):=by
 have S0:Hid (UB u ha hc fa fc w (w.alloc (kN u ha hc fa fc))/\KW (w.alloc (kN u ha hc fa fc))):=⟨UB.start (hc:=hc) (fc:=fc) hh hf,hkw.below (av w _)⟩
 have HHC:Hid (∀w1,ay w1 ha u.h->KW w1->Calls Tryz.prog 63 #[.agg #[.slice ha u.h.length hc]] w1 (aj w1 (.tuple #[.int .i64 (jQ u.h).1,.int .i64 (jQ u.h).2]))):=fun w1 h1 h2=>Yr u.h ha hc hz1 hz hzp w1 h1 h2
 have HST:Hid (∀k (hk:k<u.h.length),bG (u.h.take (k+1))=bG (u.h.take k)+u.h[k].methods.length):=fun k hk=>JM u.h k hk
 have HSB:Hid (∀k,bG (u.h.take k)<=100000000000):=fun k=>by
  have h1:=Dr (m:=1000000) (u.h.take k) (fun x hx=>hz x (List.mem_of_mem_take hx))
  have h2:(u.h.take k).length<=100000:=by simp;omega
  have h3:=Nat.mul_le_mul_right 1000000 h2
  omega
 have HS0:Hid (bG (u.h.take 0)=0):=rfl
 have HSE:Hid (bG (u.h.take u.h.length)=bG u.h):=by show _=_;rw[List.take_length]
 have HZ:=Lib.hid hz
 have HRE:Hid (jF u=if (jQ u.h).2=0 then(if 256<u.fs.length then 3 else if (u.fs.length:Int)=(bG u.h:Nat)then xA u else 20)else(jQ u.h).2):=rfl
 clear hh hf hkw hz1 hz hzp
 unfold bZ
 generalize jF u=R at *
 obtain⟨e1,he1⟩:∃z,z=(jQ u.h).1:=⟨_,rfl⟩
 obtain⟨e2,he2⟩:∃z,z=(jQ u.h).2:=⟨_,rfl⟩
 rw[<-he1,<-he2]at HHC
 rw[<-he2]at HRE
 clear he1 he2
 obtain⟨SM,hSM⟩:∃SM:Nat->Nat,SM=fun k=>bG (u.h.take k):=⟨_,rfl⟩
 have HSS:Hid (∀k,bG (u.h.take k)=SM k):=fun k=>by rw[hSM]
 clear hSM
 simp only[HSS.out]at HST HSB HS0 HSE
 clear HSS
 go_enter Tryz.func31,Tryz.ntmps31
 go_upto_region 1 with (fail)
 generalize w.alloc _=W at *
 obtain⟨z0,z1,z2⟩:=S0.out.1.cells
 have HC:=Lib.hid (HHC.out _ S0.out.1.h S0.out.2)
 clear HHC
 go_upto_region 2 with (go_at_call 63;refine HC.out.mono ?_;rintro e w1 ⟨rfl,hb1⟩)
 have S1:Hid (UB u ha hc fa fc w w1):=S0.out.1.below hb1
 clear S0 hb1 HC z0 z1 z2
 obtain⟨z0,z1,z2⟩:=S1.out.cells
 by_cases h0:e2=0
 case neg =>
  have e:R=e2:=by rw[HRE.out,if_neg h0]
  subst e
  clear HRE HST HSB HS0 HSE
  go_wp2
  go_ret
  exact⟨rfl,S1.out.hb⟩
 have HR2:Hid (R=if 256<u.fs.length then 3 else if (u.fs.length:Int)=(bG u.h:Nat)then xA u else 20):=by show _=_;rw[HRE.out,if_pos h0]
 subst h0
 clear HRE
 by_cases h1:256<u.fs.length
 case pos =>
  have e:R=3:=by rw[HR2.out,if_pos h1]
  subst e
  have t1:decide ((256:Int)<u.fs.length)=true:=by simp;omega
  clear HR2 HST HSB HS0 HSE
  go_wp2
  go_ret
  exact⟨rfl,S1.out.hb⟩
 have HR3:Hid (R=if (u.fs.length:Int)=(bG u.h:Nat)then xA u else 20):=by show _=_;rw[HR2.out,if_neg h1]
 have t1:decide ((256:Int)<u.fs.length)=false:=by simp;omega
 clear HR2
 go_wp2
 clear t1 z0 z1 z2
 go_loopw[5,26] (fun s v wr=>∃q:Nat,q<=u.h.length/\s = .int .i64 (SM q:Nat)/\v = .int .i64 q/\Hid (UB u ha hc fa fc w wr)) (fun _ v _=>u.h.length-(intOf v).toNat)
 case atStart=>exact⟨0,Nat.zero_le _,by rw[HS0.out];rfl,rfl,S1.out⟩
 case round =>
  clear S1
  obtain⟨q,hq,rfl,rfl,S⟩:=hrel
  obtain⟨z0,z1,z2⟩:=S.out.cells
  by_cases hlt:q<u.h.length
  case pos =>
   obtain⟨b,off,fa',fc',ma,mc,he,m0,m1,m2,m3,-,-⟩:=S.out.h q hlt
   subst he
   have hs1:=HST.out q hlt
   have hs2:=HSB.out q
   have hm:=HZ.out _ (List.getElem_mem hlt)
   clear HST HSB HR3 HS0 HSE
   generalize u.h[q]=x at *
   have BZ:Hid (ah (wr.alloc gT) wr.heap.size #[.string ⟨#[]⟩,.string ⟨#[]⟩,.slice none 0 0,.slice none 0 0] 45):=aL ..
   have hY:=Lib.hid (bP (av wr gT) (Nat.le_refl _) #[.string x.name,.string x.aO,.slice fa' x.fields.length fc',.slice ma x.methods.length mc])
   go_upto_region 10 with (refine sJ rfl rfl _ _ rfl wr.heap.size x fa' fc' ma mc rfl rfl _ BZ.out rfl ?_)
   have BC:=Lib.hid (BZ.out.setRow #[.string x.name,.string x.aO,.slice fa' x.fields.length fc',.slice ma x.methods.length mc])
   have S2:=Lib.hid (S.out.below hY.out)
   clear S BZ hY m0 m1 m2 m3 z0 z1 z2
   generalize (wr.alloc gT).setRow wr.heap.size #[.string x.name,.string x.aO,.slice fa' x.fields.length fc',.slice ma x.methods.length mc]=W2 at *
   generalize wr.heap.size=n2 at *
   have y3:=BC.out.cell 3 (by simp)
   simp only[List.getElem_toArray,List.getElem_cons_zero,List.getElem_cons_succ]at y3
   generalize SM q=s0 at *
   go_wp2
   go_roundw
   case rel=>exact⟨q+1,by omega,by rw[hs1];go_num,by go_num,S2.out⟩
   case measure=>simp[intOf];omega
  have e:q=u.h.length:=by omega
  subst e
  have HR4:Hid (R=if (u.fs.length:Int)=(SM u.h.length:Nat)then xA u else 20):=by show _=_;rw[HR3.out,HSE.out]
  clear HR3 HST HSB HSE HS0 hq hlt
  generalize SM u.h.length=s0 at *
  by_cases h2:(u.fs.length:Int)=(s0:Nat)
  case neg =>
   have e:R=20:=by rw[HR4.out,if_neg h2]
   subst e
   clear HR4
   go_wp2
   go_ret
   exact⟨rfl,S.out.hb⟩
  have HR5:Hid (R=if u.main<0 then 14 else if (u.fs.length:Int)<=u.main then 14 else if E9 ((u.fs[u.main.toNat]?).getD ⟨⟨#[]⟩,⟨#[]⟩,false,0,[],⟨#[]⟩,[]⟩)=true then 0 else 14):=by show _=_;rw[HR4.out,if_pos h2];rfl
  rw[<-h2]
  clear HR4 h2
  by_cases h3:u.main<0
  case pos =>
   have e:R=14:=by rw[HR5.out,if_pos h3]
   subst e
   have t1:decide (u.main<0)=true:=by simp[h3]
   clear HR5
   go_wp2
   go_ret
   exact⟨rfl,S.out.hb⟩
  have t1:decide (u.main<0)=false:=by simp;omega
  by_cases h4:(u.fs.length:Int)<=u.main
  case pos =>
   have e:R=14:=by rw[HR5.out,if_neg h3,if_pos h4]
   subst e
   have t2:decide ((u.fs.length:Int)<=u.main)=true:=by simp[h4]
   clear HR5
   go_wp2
   go_ret
   exact⟨rfl,S.out.hb⟩
  have t2:decide ((u.fs.length:Int)<=u.main)=false:=by simp;omega
  obtain⟨n,hn⟩:∃n:Nat,u.main=n:=⟨u.main.toNat,by omega⟩
  have hnl:n<u.fs.length:=by omega
  have HR6:Hid (R=if E9 u.fs[n]=true then 0 else 14):=by
   show _=_
   rw[HR5.out,if_neg h3,if_neg h4,hn,Int.toNat_natCast,List.getElem?_eq_getElem hnl];rfl
  clear HR5 h3 h4
  have t3:decide ((n:Int)<0)=false:=by simp
  have t4:decide ((u.fs.length:Int)<=(n:Int))=false:=by simp;omega
  obtain⟨b,off,va,vc,ca,cc,he,m0,m1,m2,m3,m4,m5,m6,-,-⟩:=S.out.f n hnl
  subst he
  rw[hn]at z2
  clear t1 t2 HZ
  generalize u.fs[n]=f at *
  have BZ:Hid (ah (wr.alloc jE) wr.heap.size #[.string ⟨#[]⟩,.string ⟨#[]⟩,.bool false,.int .i64 0,.slice none 0 0,.string ⟨#[]⟩,.slice none 0 0] 51):=aL ..
  have hY:=Lib.hid (bP (av wr jE) (Nat.le_refl _) #[.string f.cls,.string f.name,.bool f.stat,.int .i64 f.params,.slice va f.vars.length vc,.string f.result,.slice ca f.code.length cc])
  go_upto_region 17 with (refine xD rfl rfl _ _ rfl wr.heap.size f va vc ca cc rfl rfl _ BZ.out rfl ?_)
  have BC:=Lib.hid (BZ.out.setRow #[.string f.cls,.string f.name,.bool f.stat,.int .i64 f.params,.slice va f.vars.length vc,.string f.result,.slice ca f.code.length cc])
  have S2:=Lib.hid (S.out.below hY.out)
  clear S BZ hY m0 m1 m2 m3 m4 m5 m6 z0 z1 z2 t3 t4
  generalize (wr.alloc jE).setRow wr.heap.size #[.string f.cls,.string f.name,.bool f.stat,.int .i64 f.params,.slice va f.vars.length vc,.string f.result,.slice ca f.code.length cc]=W2 at *
  generalize wr.heap.size=n2 at *
  have y0:=BC.out.cell 0 (by simp)
  have y1:=BC.out.cell 1 (by simp)
  have y2:=BC.out.cell 2 (by simp)
  have y3:=BC.out.cell 3 (by simp)
  have y5:=BC.out.cell 5 (by simp)
  simp only[List.getElem_toArray,List.getElem_cons_zero,List.getElem_cons_succ]at y0 y1 y2 y3 y5
  have HR7:Hid (R=if (if (f.cls.toList==[77,97,105,110])=true then(if (f.name.toList==[109,97,105,110])=true then(if f.stat=true then(if f.params=0 then(if (f.result.toList==[])=true then true else false)else false)else false)else false)else false)=true then 0 else 14):=HR6.out
  clear HR6
  generalize f.stat=st at *
  generalize f.params=fp at *
  by_cases e4:fp=0
  case neg =>
   have e:R=14:=by
    rw[HR7.out,if_neg e4]
    cases (f.cls.toList==[77,97,105,110])<;>cases (f.name.toList==[109,97,105,110])<;>cases st<;>simp
   subst e
   have e4':(fp != 0)=true:=by simp[e4]
   clear HR7
   cases e1:(f.cls.toList==[77,97,105,110])<;>cases e2:(f.name.toList==[109,97,105,110])<;>cases st
   all_goals
    go_wp2
    go_ret
    exact⟨rfl,S2.out.hb⟩
  rw[if_pos e4]at HR7
  have e4':(fp != 0)=false:=by simp[e4]
  subst e4
  cases e1:(f.cls.toList==[77,97,105,110])<;>cases e2:(f.name.toList==[109,97,105,110])<;>cases st<;>cases e5:(f.result.toList==[])
  all_goals
   have e:=HR7.out
   rw[e1,e2,e5]at e
   simp only[if_true,Bool.false_eq_true,if_false]at e
   subst e
   clear HR7
   go_wp2
   go_ret
   exact⟨rfl,S2.out.hb⟩
end Go.Proofs.YtjnbddedmbhiaaaGreatDoor
