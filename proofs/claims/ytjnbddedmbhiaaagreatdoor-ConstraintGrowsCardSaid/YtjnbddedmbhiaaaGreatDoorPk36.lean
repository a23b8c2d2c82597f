/-
  constraint's builder: call (weakly: it adds some constraints).
-/
import Derived.Test.YtjnbddedmbhiaaaGreatDoorPk35
namespace Go.Proofs.YtjnbddedmbhiaaaGreatDoor
open Go.RowKit Go.ak Go.AM

abbrev AY(x:Ins)(ga:Option Addr)(gc:Nat):Array Value:=#[.int .i64 x.op,.int .i64 x.dst,.int .i64 x.a,.int .i64 x.b,.int .i64 x.n,.string x.cls,.string x.name,.slice ga x.args.length gc,.int .i64 x.goto,.int .i64 x.aZ]
theorem Hf{P:Nat->Prop}{w w':World}(hc:aF P w w'){b:Nat}{cs:Array Value}{t:TypeId}(h:ah w b cs t)(hn:¬ P b):ah w' b cs t:=by
 unfold ah at *
 rw[hc.eq b (Array.getElem?_eq_some_iff.1 h).1 hn]
 exact h
structure dU(D:BD)(P:List PC)(m:Nat)(n3:Nat)(f i g:Nat)(n4:Nat)(x:Ins)(ga:Option Addr)(gc:Nat)(w w0 wl:World):Prop where
 q:∃R:List PC,R.length<=m/\BQ D (P++R) w wl
 b3:ah wl n3 #[.int .i64 f,.int .i64 i,.int .i64 g] 56
 b4:ah wl n4 (AY x ga gc) 53
 ch:aF (mine D w0) w0 wl
section
variable {D:BD}{P:List PC}{m m' n3 f i g n4:Nat}{x:Ins}{ga:Option Addr}{gc:Nat}{w w0 wl w':World}
theorem dU.step(k:dU D P m n3 f i g n4 x ga gc w w0 wl)(hq:∃R:List PC,R.length<=m'/\BQ D (P++R) w w')(hc:aF (mine D wl) wl w'):dU D P m' n3 f i g n4 x ga gc w w0 w':=by
 obtain⟨R,_,h1⟩:=k.q
 exact⟨hq,Hf hc k.b3 (h1.iW k.b3 (by decide) (by decide)),Hf hc k.b4 (h1.iW k.b4 (by decide) (by decide)),mine.trans k.ch hc⟩
theorem dU.below(k:dU D P m n3 f i g n4 x ga gc w w0 wl)(hb:Below wl.heap.size wl w'):dU D P m n3 f i g n4 x ga gc w w0 w':=by
 obtain⟨R,h0,h1⟩:=k.q
 exact k.step ⟨R,h0,h1.below hb⟩ (aF.of_below hb)
theorem dU.hb(k:dU D P m n3 f i g n4 x ga gc w w0 wl):Below w.heap.size w wl:=by
 obtain⟨R,_,h1⟩:=k.q
 exact h1.hb
theorem dU.rd(k:dU D P m n3 f i g n4 x ga gc w w0 wl):dV D.u D.ha D.hc D.fa D.fc D.bs D.ba D.bc D.R wl:=by
 obtain⟨R,_,h1⟩:=k.q
 exact h1.rd
theorem dU.up(k:dU D P m n3 f i g n4 x ga gc w w0 wl)(h:m<=m'):dU D P m' n3 f i g n4 x ga gc w w0 wl:=by
 obtain⟨R,h0,h1⟩:=k.q
 exact⟨⟨R,Nat.le_trans h0 h,h1⟩,k.b3,k.b4,k.ch⟩
theorem dU.boxes(k:dU D P m n3 f i g n4 x ga gc w w0 wl):(wl.cell? ⟨n3,0,none⟩=some (.int .i64 f)/\wl.cell? ⟨n3,1,none⟩=some (.int .i64 i)/\wl.cell? ⟨n3,2,none⟩=some (.int .i64 g))/\wl.cell? ⟨n4,0,none⟩=some (.int .i64 x.op)/\wl.cell? ⟨n4,1,none⟩=some (.int .i64 x.dst)/\wl.cell? ⟨n4,2,none⟩=some (.int .i64 x.a)/\wl.cell? ⟨n4,5,none⟩=some (.string x.cls)/\wl.cell? ⟨n4,6,none⟩=some (.string x.name)/\wl.cell? ⟨n4,7,none⟩=some (.slice ga x.args.length gc) :=
 ⟨⟨k.b3.cell 0 (by simp),k.b3.cell 1 (by simp),k.b3.cell 2 (by simp)⟩,k.b4.cell 0 (by simp),k.b4.cell 1 (by simp),k.b4.cell 2 (by simp),k.b4.cell 5 (by simp),k.b4.cell 6 (by simp),k.b4.cell 7 (by simp)⟩
theorem dU.add(k:dU D P m n3 f i g n4 x ga gc w w0 wl)(y:Cn)(n:Nat)(hg:ah wl n #[.int .i64 y.k,.int .i64 y.a,.int .i64 y.b,.int .i64 y.f,.slice y.sa y.s.length y.sc] 60)(hx:bK wl y.sa y.s)(hs:y.s.length<=100000)(hP:P.length+m<=1000000) :
 Calls Tryz.prog 39 #[.pointer (some ⟨D.R,0,none⟩),.slice (some ⟨n,0,none⟩) 1 1] wl (fun e w'=>e = .returned (.tuple #[])/\dU D P (m+1) n3 f i g n4 x ga gc w w0 w'/\aF (mine D wl) wl w'):=by
 obtain⟨R,h0,h1⟩:=k.q
 refine(qX h1 y n hg hx hs (by simp;omega)).mono ?_
 rintro e w' ⟨rfl,hq,hc⟩
 exact⟨rfl,k.step ⟨R++[y.p],by simp;omega,by rw[<-List.append_assoc];exact hq⟩ hc,hc⟩
theorem dU.cw(k:dU D P m n3 f i g n4 x ga gc w w0 w'){W:World}(h:aF (mine D W) W w'):∃o:aX D w W,w' = o.u:=by
 obtain⟨R,h0,h1⟩:=k.q
 exact h1.cw h
theorem dU.LY(k:dU D P m n3 f i g n4 x ga gc w w0 wl):¬ mine D wl n3:=by
 obtain⟨R,h0,h1⟩:=k.q
 exact h1.iW k.b3 (by decide) (by decide)
theorem dU.VI(k:dU D P m n3 f i g n4 x ga gc w w0 wl):¬ mine D wl n4:=by
 obtain⟨R,h0,h1⟩:=k.q
 exact h1.iW k.b4 (by decide) (by decide)
end
set_option maxRecDepth 100000 in
set_option maxHeartbeats 32000000 in
theorem y1b{D:BD}{P:List PC}{w w0:World}(f i g:Nat)(hf:f<D.u.fs.length)(hi:i<D.u.fs[f].code.length)(hg:g<D.u.fs.length)(k:BQ D P w w0)(o:gI D)(hex:D.ex=none)(hP:P.length<=900000)
 (hop:D.u.fs[f].code[i].op=10∨D.u.fs[f].code[i].op=9) (hva:(if D.u.fs[f].code[i].op=9 then 1 else 0)+D.u.fs[f].code[i].args.length<=D.u.fs[g].vars.length) :
 Calls Tryz.prog 20 #[.pointer (some ⟨D.R,0,none⟩),.agg #[.int .i64 f,.int .i64 i,.int .i64 g]] w0 (fun e w'=>e = .returned (.tuple #[])/\(∃R:List PC,R.length<=3000/\BQ D (P++R) w w')/\aF (mine D w0) w0 w'):=by
 have HO:=Lib.hid o
 have S1:=Lib.hid (k.below (av w0 (wL ⟨f,i,g⟩)))
 have HX:Hid (ah (w0.alloc (wL ⟨f,i,g⟩)) w0.heap.size #[.int .i64 f,.int .i64 i,.int .i64 g] 56):=aL ..
 have HCB:Hid (aF (mine D w0) w0 (w0.alloc (wL ⟨f,i,g⟩))):=aF.of_below (av ..)
 have hfb:f<D.bs.length:=by rw[o.n];exact hf
 have hgb:g<D.bs.length:=by rw[o.n];exact hg
 obtain⟨b,off,va,vc,ca,cc,he,-,-,-,-,-,-,m6,-,hins⟩:=k.f0 f hf
 obtain⟨b',off',va',vc',ca',cc',he',-,-,-,-,-,r5,-,-,-⟩:=k.f0 g hg
 have he2:=he.symm.trans he'
 cases he2
 clear he'
 obtain⟨b2,off2,ga,gc,he2,q0,q1,q2,q3,q4,q5,q6,q7,q8,q9,hga⟩:=hins i hi
 obtain⟨ba2,bo2,heb,-⟩:=k.rd.b f hfb
 obtain⟨hb0,hb1⟩:=o.v f hfb
 obtain⟨hg0,hg1⟩:=o.v g hgb
 have hcl:=o.cl _ (List.getElem_mem hf)
 have hvl:=o.vl _ (List.getElem_mem hf)
 have hvg:=o.vl _ (List.getElem_mem hg)
 have HK:=Lib.hid (o.rk _ (List.getElem_mem hf) _ (List.getElem_mem hi))
 have hal:=o.al _ (List.getElem_mem hf) _ (List.getElem_mem hi)
 obtain⟨⟨hd0,hd1⟩,⟨ha0,ha1⟩,-⟩:=o.rg _ (List.getElem_mem hf) _ (List.getElem_mem hi)
 have HIF:Hid (∀(v:Nat) w1,v<D.u.fs[f].vars.length->dV D.u D.ha D.hc D.fa D.fc D.bs D.ba D.bc D.R w1->Calls Tryz.prog 38 #[.pointer (some ⟨D.R,0,none⟩),.int .i64 f,.int .i64 v] w1 (Same w1 (.bool (dA D.u.fs[f] v)))):=fun v w1 hv h=>qE D.u D.ha D.hc D.fa D.fc D.bs D.ba D.bc D.R f v hf hv w1 h
 have HIG:Hid (∀(v:Nat) w1,v<D.u.fs[g].vars.length->dV D.u D.ha D.hc D.fa D.fc D.bs D.ba D.bc D.R w1->Calls Tryz.prog 38 #[.pointer (some ⟨D.R,0,none⟩),.int .i64 g,.int .i64 v] w1 (Same w1 (.bool (dA D.u.fs[g] v)))):=fun v w1 hv h=>qE D.u D.ha D.hc D.fa D.fc D.bs D.ba D.bc D.R g v hg hv w1 h
 have HRS:Hid (∀w1,dV D.u D.ha D.hc D.fa D.fc D.bs D.ba D.bc D.R w1->Calls Tryz.prog 40 #[.pointer (some ⟨D.R,0,none⟩),.int .i64 g] w1 (aj w1 (.int .i64 (D.bs[g]+D.u.fs[g].vars.length)))):=fun w1 h=>qD D.u D.ha D.hc D.fa D.fc D.bs D.ba D.bc D.R g hg hgb ⟨hg0,hg1⟩ hvg w1 h
 have HTH:Hid (∀w1,dV D.u D.ha D.hc D.fa D.fc D.bs D.ba D.bc D.R w1->Calls Tryz.prog 45 #[.pointer (some ⟨D.R,0,none⟩),.int .i64 g] w1 (aj w1 (.int .i64 (D.bs[g]+D.u.fs[g].vars.length+1)))):=fun w1 h=>Qh D.u D.ha D.hc D.fa D.fc D.bs D.ba D.bc D.R g hg hgb ⟨hg0,hg1⟩ hvg w1 h
 have HRA:Hid (∀(y:Int) (P':List PC) (w1:World),BQ D P' w w1->0<=y/\y<=2000000000->P'.length<=990000->Calls Tryz.prog 41 #[.pointer (some ⟨D.R,0,none⟩),.int .i64 f,.int .i64 i,.int .i64 y] w1 (fun e w'=>e = .returned (.tuple #[])/\BQ D (P'++gZ D.u D.L D.bs f i y) w w'/\aF (mine D w1) w1 w')):=fun y P' w1 h hy hp=>rZ f i y hf hi h o hex hy hp
 have HRL:Hid (∀y,(gZ D.u D.L D.bs f i y).length<=1001):=fun y=>by
  unfold gZ
  rw[List.getElem?_eq_getElem hf,List.getElem?_eq_getElem hfb]
  simp only
  rw[List.getElem?_eq_getElem hi]
  have:=DJ D.u.h D.L D.bs[f] y (D.bs[f]+D.u.fs[f].vars.length+1) D.u.fs[f].code (D.u.fs[f].code.length+1) D.u.fs[f].code[i].aZ []
  simp only
  omega
 have hbw:=S1.out.hb
 have m6:=cell_below hbw m6
 have q0:=cell_below hbw q0
 have q1:=cell_below hbw q1
 have q2:=cell_below hbw q2
 have q3:=cell_below hbw q3
 have q4:=cell_below hbw q4
 have q5:=cell_below hbw q5
 have q6:=cell_below hbw q6
 have q7:=cell_below hbw q7
 have q8:=cell_below hbw q8
 have q9:=cell_below hbw q9
 have HFR:=Lib.hid r5
 have HGA:=Lib.hid hga
 have HBS:Hid (∀w1,dV D.u D.ha D.hc D.fa D.fc D.bs D.ba D.bc D.R w1->w1.cell? ⟨ba2,bo2+f,none⟩=some (.int .i64 D.bs[f])/\w1.cell? ⟨ba2,bo2+g,none⟩=some (.int .i64 D.bs[g])):=fun w1 h=>by
  obtain⟨c1,o1,e1,p1⟩:=h.b f hfb
  obtain⟨c2,o2,e2,p2⟩:=h.b g hgb
  have e1':=heb.symm.trans e1
  have e2':=heb.symm.trans e2
  cases e1'
  cases e2'
  exact⟨p1,p2⟩
 have HOP:=Lib.hid hop
 have HVA:=Lib.hid hva
 clear hins k o hbw r5 hga hop hva
 generalize D.u.fs[f].code[i]=x at *
 generalize D.bs[f]=bf at *
 generalize D.bs[g]=bg at *
 generalize D.u.fs[f]=Ff at *
 generalize D.u.fs[g]=Fg at *
 subst he2
 go_enter Tryz.func20,Tryz.ntmps20
 go_upto_region 1 with (fail)
 generalize w0.heap.size=n3 at *
 generalize w0.alloc _=W at *
 obtain⟨z0,z1,z2,-,-,-,-,-,-,-⟩:=S1.out.cells
 rw[he]at z1
 have x0:=HX.out.cell 0 (by simp)
 have x1:=HX.out.cell 1 (by simp)
 simp only[List.getElem_toArray,List.getElem_cons_zero,List.getElem_cons_succ]at x0 x1
 have k1:∀o:WB W,o.u.cell? ⟨D.R,1,none⟩=some (.slice (some ⟨b,off,none⟩) D.u.fs.length D.fc):=fun o=>cell_below o.h z1
 have k6:∀o:WB W,o.u.cell? ⟨b,off+f*7+6,none⟩=some (.slice (some ⟨b2,off2,none⟩) Ff.code.length cc):=fun o=>cell_below o.h m6
 have y0:∀o:WB W,o.u.cell? ⟨n3,0,none⟩=some (.int .i64 f):=fun o=>cell_below o.h x0
 have y1:∀o:WB W,o.u.cell? ⟨n3,1,none⟩=some (.int .i64 i):=fun o=>cell_below o.h x1
 have p0:∀o:WB W,o.u.cell? ⟨b2,off2+i*10,none⟩=some (.int .i64 x.op):=fun o=>cell_below o.h q0
 have p1:∀o:WB W,o.u.cell? ⟨b2,off2+i*10+1,none⟩=some (.int .i64 x.dst):=fun o=>cell_below o.h q1
 have p2:∀o:WB W,o.u.cell? ⟨b2,off2+i*10+2,none⟩=some (.int .i64 x.a):=fun o=>cell_below o.h q2
 have p3:∀o:WB W,o.u.cell? ⟨b2,off2+i*10+3,none⟩=some (.int .i64 x.b):=fun o=>cell_below o.h q3
 have p4:∀o:WB W,o.u.cell? ⟨b2,off2+i*10+4,none⟩=some (.int .i64 x.n):=fun o=>cell_below o.h q4
 have p5:∀o:WB W,o.u.cell? ⟨b2,off2+i*10+5,none⟩=some (.string x.cls):=fun o=>cell_below o.h q5
 have p6:∀o:WB W,o.u.cell? ⟨b2,off2+i*10+6,none⟩=some (.string x.name):=fun o=>cell_below o.h q6
 have p7:∀o:WB W,o.u.cell? ⟨b2,off2+i*10+7,none⟩=some (.slice ga x.args.length gc):=fun o=>cell_below o.h q7
 have p8:∀o:WB W,o.u.cell? ⟨b2,off2+i*10+8,none⟩=some (.int .i64 x.goto):=fun o=>cell_below o.h q8
 have p9:∀o:WB W,o.u.cell? ⟨b2,off2+i*10+9,none⟩=some (.int .i64 x.aZ):=fun o=>cell_below o.h q9
 have hq0:Below W.heap.size W W.drew:=(Below.refl _ _).drew
 have hne:Nonempty (WB W):=⟨⟨W,Below.refl _ _⟩⟩
 clear q0 q1 q2 q3 q4 q5 q6 q7 q8 q9 x0 x1 m6 z0 z1 z2
 refine dC (fun w'=>∃o:WB W,w' = o.u) (by kernel_rfl) ?_
 change bO _ _ _ _ _ _ _ _ W.drew
 generalize W.drew=V0 at *
 refine af 0 rfl (by kernel_rfl) (fun _ _ _ _ h=>h) ⟨⟨_,hq0⟩,rfl⟩ (fun K hK=>?_);go_simp;refine hK _ ?_;clear hK K
 refine af 1 rfl (by kernel_rfl) (fun _ _ _ _ h=>h) ⟨⟨_,hq0⟩,rfl⟩ (fun K hK=>?_);go_simp;refine hK _ ?_;clear hK K
 refine af 2 rfl (by kernel_rfl) (fun _ _ _ _ h=>h) ⟨⟨_,hq0⟩,rfl⟩ (fun K hK=>?_);go_simp;refine hK _ ?_;clear hK K
 refine af 3 rfl (by kernel_rfl) (fun _ _ _ _ h=>h) ⟨⟨_,hq0⟩,rfl⟩ (fun K hK=>?_);go_simp;refine hK _ ?_;clear hK K
 refine af 4 rfl (by kernel_rfl) (fun _ _ _ _ h=>h) ⟨⟨_,hq0⟩,rfl⟩ (fun K hK=>?_);go_simp;refine hK _ ?_;clear hK K
 refine af 5 rfl (by kernel_rfl) (fun _ _ _ _ h=>h) ⟨⟨_,hq0⟩,rfl⟩ (fun K hK=>?_);go_simp;refine hK _ ?_;clear hK K
 refine af 6 rfl (by kernel_rfl) (fun _ _ _ _ h=>h) ⟨⟨_,hq0⟩,rfl⟩ (fun K hK=>?_);go_simp;refine hK _ ?_;clear hK K
 refine af 7 rfl (by kernel_rfl) (fun _ _ _ _ h=>h) ⟨⟨_,hq0⟩,rfl⟩ (fun K hK=>?_);go_simp;refine hK _ ?_;clear hK K
 refine af 8 rfl (by kernel_rfl) (fun _ _ _ _ h=>h) ⟨⟨_,hq0⟩,rfl⟩ (fun K hK=>?_);go_simp;refine hK _ ?_;clear hK K
 refine af 9 rfl (by kernel_rfl) (fun _ _ _ _ h=>h) ⟨⟨_,hq0⟩,rfl⟩ (fun K hK=>?_);go_simp;refine hK _ ?_;clear hK K
 refine af 10 rfl (by kernel_rfl) (fun _ _ _ _ h=>h) ⟨⟨_,hq0⟩,rfl⟩ (fun K hK=>?_);go_simp;refine hK _ ?_;clear hK K
 refine af 11 rfl (by kernel_rfl) (fun _ _ _ _ h=>h) ⟨⟨_,hq0⟩,rfl⟩ (fun K hK=>?_);go_simp;refine hK _ ?_;clear hK K
 refine af 12 rfl (by kernel_rfl) (fun _ _ _ _ h=>h) ⟨⟨_,hq0⟩,rfl⟩ (fun K hK=>?_);go_simp;refine hK _ ?_;clear hK K
 refine af 13 rfl (by kernel_rfl) (fun _ _ _ _ h=>h) ⟨⟨_,hq0⟩,rfl⟩ (fun K hK=>?_);go_simp;refine hK _ ?_;clear hK K
 refine aP 14 rfl (by kernel_rfl) ?_
 go_wp2
 have hq1:Below W.heap.size W (V0.alloc bV):=hq0.trans ((av ..).mono hq0.size)
 have BZ:Hid (ah (V0.alloc bV) V0.heap.size _ 53):=aL ..
 refine⟨⟨⟨_,hq1⟩,rfl⟩,?_⟩
 refine aP 15 rfl (by kernel_rfl) ?_
 refine kR rfl rfl _ _ rfl V0.heap.size x ga gc rfl rfl _ BZ.out rfl ?_
 go_wp2
 have hq2:=bP hq1 hq0.size (AY x ga gc)
 refine⟨⟨⟨_,hq2⟩,rfl⟩,?_⟩
 refine dh (by kernel_rfl) ?_ _
 have BI:=Lib.hid (BZ.out.setRow (AY x ga gc))
 have T0:Hid (dU D P 0 n3 f i g V0.heap.size x ga gc w w0 ((V0.alloc bV).setRow V0.heap.size (AY x ga gc))):=⟨⟨[],Nat.le_refl _,by rw[List.append_nil];exact S1.out.below hq2⟩,HX.out.below hq2,BI.out,mine.trans HCB.out (aF.of_below hq2)⟩
 clear k1 k6 y0 y1 p0 p1 p2 p3 p4 p5 p6 p7 p8 p9 hq0 hq1 hq2 hne BZ BI S1 HX HCB
 generalize (V0.alloc _).setRow _ _=W1 at *
 generalize V0.heap.size=n4 at *
 -- the bases
 obtain⟨⟨c0,c1,c2⟩,d0,d1,d2,d5,d6,d7⟩:=T0.out.boxes
 obtain⟨hbf,hbg⟩:=HBS.out W1 T0.out.rd
 have z5:=T0.out.rd.cb
 rw[heb]at z5
 have k5:∀o:WB W1,o.u.cell? ⟨D.R,5,none⟩=some (.slice (some ⟨ba2,bo2,none⟩) D.bs.length D.bc):=fun o=>cell_below o.h z5
 have y0:∀o:WB W1,o.u.cell? ⟨n3,0,none⟩=some (.int .i64 f):=fun o=>cell_below o.h c0
 have y2:∀o:WB W1,o.u.cell? ⟨n3,2,none⟩=some (.int .i64 g):=fun o=>cell_below o.h c2
 have l0:∀o:WB W1,o.u.cell? ⟨ba2,bo2+f,none⟩=some (.int .i64 bf):=fun o=>cell_below o.h hbf
 have l1:∀o:WB W1,o.u.cell? ⟨ba2,bo2+g,none⟩=some (.int .i64 bg):=fun o=>cell_below o.h hbg
 have hq0:Below W1.heap.size W1 W1.drew:=(Below.refl _ _).drew
 have hne:Nonempty (WB W1):=⟨⟨W1,Below.refl _ _⟩⟩
 go_upto_region 2 with (fail)
 refine dC (fun w'=>∃o:WB W1,w' = o.u) (by kernel_rfl) ?_
 change bO _ _ _ _ _ _ _ _ W1.drew
 generalize W1.drew=V2 at *
 refine af 0 rfl (by kernel_rfl) (fun _ _ _ _ h=>h) ⟨⟨_,hq0⟩,rfl⟩ (fun K hK=>?_);go_simp;refine hK _ ?_;clear hK K
 refine af 1 rfl (by kernel_rfl) (fun _ _ _ _ h=>h) ⟨⟨_,hq0⟩,rfl⟩ (fun K hK=>?_);go_simp;refine hK _ ?_;clear hK K
 refine af 2 rfl (by kernel_rfl) (fun _ _ _ _ h=>h) ⟨⟨_,hq0⟩,rfl⟩ (fun K hK=>?_);go_simp;refine hK _ ?_;clear hK K
 refine af 3 rfl (by kernel_rfl) (fun _ _ _ _ h=>h) ⟨⟨_,hq0⟩,rfl⟩ (fun K hK=>?_);go_simp;refine hK _ ?_;clear hK K
 refine af 4 rfl (by kernel_rfl) (fun _ _ _ _ h=>h) ⟨⟨_,hq0⟩,rfl⟩ (fun K hK=>?_);go_simp;refine hK _ ?_;clear hK K
 refine af 5 rfl (by kernel_rfl) (fun _ _ _ _ h=>h) ⟨⟨_,hq0⟩,rfl⟩ (fun K hK=>?_);go_simp;refine hK _ ?_;clear hK K
 refine af 6 rfl (by kernel_rfl) (fun _ _ _ _ h=>h) ⟨⟨_,hq0⟩,rfl⟩ (fun K hK=>?_);go_simp;refine hK _ ?_;clear hK K
 refine af 7 rfl (by kernel_rfl) (fun _ _ _ _ h=>h) ⟨⟨_,hq0⟩,rfl⟩ (fun K hK=>?_);go_simp;refine hK _ ?_;clear hK K
 refine af 8 rfl (by kernel_rfl) (fun _ _ _ _ h=>h) ⟨⟨_,hq0⟩,rfl⟩ (fun K hK=>?_);go_simp;refine hK _ ?_;clear hK K
 refine af 9 rfl (by kernel_rfl) (fun _ _ _ _ h=>h) ⟨⟨_,hq0⟩,rfl⟩ (fun K hK=>?_);go_simp;refine hK _ ?_;clear hK K
 refine af 10 rfl (by kernel_rfl) (fun _ _ _ _ h=>h) ⟨⟨_,hq0⟩,rfl⟩ (fun K hK=>?_);go_simp;refine hK _ ?_;clear hK K
 refine af 11 rfl (by kernel_rfl) (fun _ _ _ _ h=>h) ⟨⟨_,hq0⟩,rfl⟩ (fun K hK=>?_);go_simp;refine hK _ ?_;clear hK K
 refine af 12 rfl (by kernel_rfl) (fun _ _ _ _ h=>h) ⟨⟨_,hq0⟩,rfl⟩ (fun K hK=>?_);go_simp;refine hK _ ?_;clear hK K
 refine af 13 rfl (by kernel_rfl) (fun _ _ _ _ h=>h) ⟨⟨_,hq0⟩,rfl⟩ (fun K hK=>?_);go_simp;refine hK _ ?_;clear hK K
 refine af 14 rfl (by kernel_rfl) (fun _ _ _ _ h=>h) ⟨⟨_,hq0⟩,rfl⟩ (fun K hK=>?_);go_simp;refine hK _ ?_;clear hK K
 refine af 15 rfl (by kernel_rfl) (fun _ _ _ _ h=>h) ⟨⟨_,hq0⟩,rfl⟩ (fun K hK=>?_);go_simp;refine hK _ ?_;clear hK K
 refine aP 16 rfl (by kernel_rfl) ?_
 go_wp2
 refine⟨⟨⟨_,hq0⟩,rfl⟩,?_⟩
 refine aP 17 rfl (by kernel_rfl) ?_
 go_wp2
 refine⟨⟨⟨_,hq0⟩,rfl⟩,?_⟩
 refine aP 18 rfl (by kernel_rfl) ?_
 go_wp2
 refine⟨⟨⟨_,hq0⟩,rfl⟩,?_⟩
 refine dh (by kernel_rfl) ?_ _
 have T2:=Lib.hid (T0.out.below hq0)
 clear c0 c1 c2 d0 d1 d2 d5 d6 d7 hbf hbg z5 k5 y0 y2 l0 l1 hne hq0 T0
 obtain⟨⟨c0,c1,c2⟩,d0,d1,d2,d5,d6,d7⟩:=T2.out.boxes
 go_upto_if 43 with (fail)
 obtain⟨SK,hSK⟩:∃SK:Nat,SK=if x.op=9 then 1 else 0:=⟨_,rfl⟩
 have HSK:=Lib.hid hSK
 rw[<-hSK]at HVA
 clear hSK
 go_cut[7] (fun v wc=>v = .int .i64 SK/\Hid (dU D P 1 n3 f i g n4 x ga gc w w0 wc))
 case first =>
  rcases HOP.out with h10 | h9
  case inl =>
   have e:SK=0:=by rw[HSK.out,h10];rfl
   have t9:(x.op==9)=false:=by rw[h10];rfl
   have T3:=Lib.hid (T2.out.up (Nat.zero_le 1))
   subst e
   clear h10
   go_wp2
   go_meet
   exact⟨rfl,T3.out⟩
  case inr =>
   have e:SK=1:=by rw[HSK.out,h9];rfl
   have t9:(x.op==9)=true:=by rw[h9];rfl
   subst e
   obtain⟨R2,hr2,hq2⟩:=T2.out.q
   have HF:=Lib.hid (Um x.cls x.name (g:Int) hq2 HO.out)
   have H9:=Lib.hid h9
   clear h9
   go_wp2_with fail
   refine HF.out.mono ?_
   rintro e w3 ⟨a,l,cap,rfl,hl,hs,hbq,hch⟩
   have T3:=Lib.hid (T2.out.step ⟨R2,hr2,hbq⟩ hch)
   have HS3:=Lib.hid hs
   clear hs hbq hch hq2 HF T2 c0 c1 c2 d0 d1 d2 d5 d6 d7
   obtain⟨⟨c0,c1,c2⟩,d0,d1,d2,d5,d6,d7⟩:=T3.out.boxes
   have T4:=Lib.hid (T3.out.below (av w3 (.cells #[.int .i64 5,.int .i64 (bf+x.a),.int .i64 bg,.int .i64 0,.slice a l.length cap] 60)))
   have HG:Hid (ah (w3.alloc (.cells #[.int .i64 5,.int .i64 (bf+x.a),.int .i64 bg,.int .i64 0,.slice a l.length cap] 60)) w3.heap.size _ 60):=aL ..
   have HS4:=Lib.hid (HS3.out.below (av w3 (.cells #[.int .i64 5,.int .i64 (bf+x.a),.int .i64 bg,.int .i64 0,.slice a l.length cap] 60)))
   go_wp2_with fail
   refine(T4.out.add ⟨5,bf+x.a,bg,0,a,cap,l⟩ w3.heap.size HG.out HS4.out (Nat.le_trans hl HO.out.l) (by omega)).mono ?_
   rintro e w5 ⟨rfl,hT,-⟩
   have T5:=Lib.hid hT
   clear hT T3 T4 HG HS3 HS4
   go_wp2
   go_meet
   exact⟨rfl,T5.out⟩
 case rest =>
 obtain⟨rfl,T3⟩:=hcut
 clear T2 c0 c1 c2 d0 d1 d2 d5 d6 d7
 obtain⟨⟨c0,c1,c2⟩,d0,d1,d2,d5,d6,d7⟩:=T3.out.boxes
 go_wp2
 go_loopw[67] (fun v wl=>∃k:Nat,k<=x.args.length/\v = .int .i64 k/\Hid (dU D P (1+k) n3 f i g n4 x ga gc w w0 wl)) (fun v _=>x.args.length-(intOf v).toNat)
 case atStart=>exact⟨0,Nat.zero_le _,rfl,T3.out⟩
 case round =>
  clear T3 c0 c1 c2 d0 d1 d2 d5 d6 d7
  obtain⟨q,hq,rfl,T⟩:=hrel
  obtain⟨⟨c0,c1,c2⟩,d0,d1,d2,d5,d6,d7⟩:=T.out.boxes
  have hva:=HVA.out
  by_cases hlt:q<x.args.length
  case pos =>
   obtain⟨b5,o5,e5,p5⟩:=(HGA.out.below T.out.hb) q hlt
   subst e5
   obtain⟨v0,v1⟩:=HK.out.g _ (List.getElem_mem hlt)
   generalize x.args[q]=vv at *
   obtain⟨v,rfl⟩:=Int.eq_ofNat_of_zero_le v0
   have hv:v<Ff.vars.length:=by omega
   have hsk:SK+q<Fg.vars.length:=by omega
   have H1:=Lib.hid (HIF.out v wr hv T.out.rd)
   have H2:=HIG.out (SK+q) wr hsk T.out.rd
   rw[Int.natCast_add]at H2
   have H2:=Lib.hid H2
   have hSK1:SK<=1:=by rw[HSK.out];split<;>omega
   cases hb1:dA Ff v
   case true =>
    rw[hb1]at H1
    have T1:=Lib.hid (T.out.up (show 1+q<=1+(q+1) by omega))
    clear T
    go_wp2_with fail
    refine H1.out.mono ?_
    rintro e w5 ⟨rfl,hw5⟩
    subst hw5
    go_wp2
    go_roundw
    case rel=>exact⟨q+1,by omega,by go_num,T1.out⟩
    case measure=>simp[intOf];omega
   case false =>
    rw[hb1]at H1
    cases hb2:dA Fg (SK+q)
    case true =>
     rw[hb2]at H2
     have T1:=Lib.hid (T.out.up (show 1+q<=1+(q+1) by omega))
     clear T
     go_wp2_with fail
     refine H1.out.mono ?_
     rintro e w5 ⟨rfl,hw5⟩
     subst hw5
     go_wp2_with fail
     refine H2.out.mono ?_
     rintro e w6 ⟨rfl,hw6⟩
     subst hw6
     go_wp2
     go_roundw
     case rel=>exact⟨q+1,by omega,by go_num,T1.out⟩
     case measure=>simp[intOf];omega
    case false =>
     rw[hb2]at H2
     go_wp2_with fail
     refine H1.out.mono ?_
     rintro e w5 ⟨rfl,hw5⟩
     subst hw5
     go_wp2_with fail
     refine H2.out.mono ?_
     rintro e w6 ⟨rfl,hw6⟩
     subst hw6
     have T4:=Lib.hid (T.out.below (av wr (.cells #[.int .i64 2,.int .i64 (bf+v),.int .i64 (bg+SK+q),.int .i64 0,.slice none 0 0] 60)))
     have HG:Hid (ah (wr.alloc (.cells #[.int .i64 2,.int .i64 (bf+v),.int .i64 (bg+SK+q),.int .i64 0,.slice none 0 0] 60)) wr.heap.size _ 60):=aL ..
     go_wp2_with fail
     refine(T4.out.add ⟨2,bf+v,bg+SK+q,0,none,0,[]⟩ wr.heap.size HG.out (qQ _ _) (by simp) (by omega)).mono ?_
     rintro e w7 ⟨rfl,hT,-⟩
     have T5:=Lib.hid (hT.up (show 1+q+1<=1+(q+1) by omega))
     clear hT T4 HG T
     go_wp2
     go_roundw
     case rel=>exact⟨q+1,by omega,by go_num,T5.out⟩
     case measure=>simp[intOf];omega
  case neg =>
   have hql:q=x.args.length:=by omega
   subst hql
   have hrd:=T.out.rd.c1
   rw[he]at hrd
   have hr5:=cell_below T.out.hb HFR.out
   have k1:∀o:WB wr,o.u.cell? ⟨D.R,1,none⟩=some (.slice (some ⟨b,off,none⟩) D.u.fs.length D.fc):=fun o=>cell_below o.h hrd
   have k5:∀o:WB wr,o.u.cell? ⟨b,off+g*7+5,none⟩=some (.string Fg.result):=fun o=>cell_below o.h hr5
   have y0:∀o:WB wr,o.u.cell? ⟨n3,0,none⟩=some (.int .i64 f):=fun o=>cell_below o.h c0
   have y2:∀o:WB wr,o.u.cell? ⟨n3,2,none⟩=some (.int .i64 g):=fun o=>cell_below o.h c2
   have e1:∀o:WB wr,o.u.cell? ⟨n4,1,none⟩=some (.int .i64 x.dst):=fun o=>cell_below o.h d1
   have hne:Nonempty (WB wr):=⟨⟨wr,Below.refl _ _⟩⟩
   clear hrd hr5 c0 c1 c2 d0 d1 d2 d5 d6 d7 hlt
   go_upto_region 13 with (fail)
   go_cut[125] (fun v wc=>∃bb:Bool,v = .bool bb/\(bb=true->0<=x.dst/\x.dst<Ff.vars.length)/\Hid (dU D P (1+x.args.length) n3 f i g n4 x ga gc w w0 wc))
   case first =>
    by_cases hm:x.dst = -1
    case pos =>
     have u1:(x.dst != -1)=false:=by rw[hm];rfl
     clear hm
     refine bJ wr (by kernel_rfl) ?_
     repeat (go_big_quiet_step (fail))
     refine wpQuiet_nil ?_
     intro _ hw'
     obtain⟨o,rfl⟩:=hw'
     have T5:=Lib.hid (T.out.below o.h)
     go_wp2
     go_meet
     exact⟨false,rfl,fun e=>(by cases e),T5.out⟩
    case neg =>
     have u1:(x.dst != -1)=true:=by simpa using hm
     have hdr:=HK.out.Gz (by rcases HOP.out with e | e<;>(rw[e];simp only[bH];kernel_rfl)) hm
     obtain⟨d,hd⟩:=Int.eq_ofNat_of_zero_le hdr.1
     have hdl:d<Ff.vars.length:=by omega
     have HI:=HIF.out d
     rw[<-hd]at HI
     have HI:=Lib.hid HI
     clear hm hd
     cases hres:(Fg.result.toList==[105,110,116])
     case true =>
      refine bJ wr (by kernel_rfl) ?_
      repeat (go_big_quiet_step (fail))
      refine wpQuiet_nil ?_
      intro _ hw'
      obtain⟨o,rfl⟩:=hw'
      have T5:=Lib.hid (T.out.below o.h)
      go_wp2
      go_meet
      exact⟨false,rfl,fun e=>(by cases e),T5.out⟩
     case false =>
      cases hbi:dA Ff d
      all_goals
       rw[hbi]at HI
       refine bJ wr (by kernel_rfl) ?_
       repeat (go_big_quiet_step ((go_at_call 38;rename_i o;with_reducible exact(HI.out _ hdl (T.out.below o.h).rd).mono (fun _ _ h=>Same.bu h))))
       refine wpQuiet_nil ?_
       intro _ hw'
       obtain⟨o,rfl⟩:=hw'
       have T5:=Lib.hid (T.out.below o.h)
       go_wp2
       go_meet
       exact⟨_,rfl,fun _=>hdr,T5.out⟩
   case rest =>
   obtain⟨bb,rfl,hbb,T4⟩:=hcut
   clear k1 k5 y0 y2 e1 hne T
   obtain⟨⟨c0,c1,c2⟩,d0,d1,d2,d5,d6,d7⟩:=T4.out.boxes
   have HBB:=Lib.hid hbb
   clear hbb
   go_upto_if 125 with (fail)
   go_cut[] (fun wc=>Hid (dU D P (2+x.args.length) n3 f i g n4 x ga gc w w0 wc))
   case first =>
    cases bb
    case false =>
     have T5:=Lib.hid (T4.out.up (show 1+x.args.length<=2+x.args.length by omega))
     go_wp2
     go_meet
     exact T5.out
    case true =>
     obtain⟨hd0,hd1⟩:=HBB.out rfl
     go_upto_region 14 with (fail)
     have n1:=T4.out.LY
     have n2:=T4.out.VI
     have y2:∀o:aX D w wc,o.u.cell? ⟨n3,2,none⟩=some (.int .i64 g):=fun o=>o.old c2 n1
     have e1:∀o:aX D w wc,o.u.cell? ⟨n4,1,none⟩=some (.int .i64 x.dst):=fun o=>o.old d1 n2
     have T5:=Lib.hid (T4.out.below (Below.refl _ wc).drew)
     have C5:Hid (aF (mine D wc) wc wc.drew):=aF.of_below (Below.refl _ wc).drew
     have hcw:=T5.out.cw C5.out
     have hne:Nonempty (aX D w wc):=hcw.elim fun o _=>⟨o⟩
     clear c0 c1 c2 d0 d1 d2 d5 d6 d7 n1 n2
     refine dC (fun w'=>∃o:aX D w wc,w' = o.u) (by kernel_rfl) ?_
     change bO _ _ _ _ _ _ _ _ wc.drew
     generalize wc.drew=V5 at *
     refine af 0 rfl (by kernel_rfl) (fun _ _ _ _ h=>h) hcw (fun K hK=>?_);go_simp;refine hK _ ?_;clear hK K
     refine af 1 rfl (by kernel_rfl) (fun _ _ _ _ h=>h) hcw (fun K hK=>?_);go_simp;refine hK _ ?_;clear hK K
     refine af 2 rfl (by kernel_rfl) (fun _ _ _ _ h=>h) hcw (fun K hK=>?_);go_simp;refine hK _ ?_;clear hK K
     refine af 3 rfl (by kernel_rfl) (fun _ _ _ _ h=>h) hcw (fun K hK=>?_);go_simp;refine hK _ ?_;clear hK K
     refine af 5 rfl (by kernel_rfl) (fun _ _ _ _ h=>h) hcw (fun K hK=>?_);go_simp;refine hK _ ?_;clear hK K
     refine af 6 rfl (by kernel_rfl) (fun _ _ _ _ h=>h) hcw (fun K hK=>?_);go_simp;refine hK _ ?_;clear hK K
     refine af 7 rfl (by kernel_rfl) (fun _ _ _ _ h=>h) hcw (fun K hK=>?_);go_simp;refine hK _ ?_;clear hK K
     refine af 8 rfl (by kernel_rfl) (fun _ _ _ _ h=>h) hcw (fun K hK=>?_);go_simp;refine hK _ ?_;clear hK K
     refine aP 4 rfl (by kernel_rfl) ?_
     go_wp2_with fail
     refine(HRS.out _ T5.out.rd).mono ?_
     rintro e w6 ⟨rfl,hb6⟩
     have T6:=Lib.hid (T5.out.below hb6)
     have C6:Hid (aF (mine D wc) wc w6):=mine.trans C5.out (aF.of_below hb6)
     have hcw6:=T6.out.cw C6.out
     clear hb6
     go_wp2
     refine⟨hcw6,?_⟩
     refine af 9 rfl (by kernel_rfl) (fun _ _ _ _ h=>h) hcw6 (fun K hK=>?_);go_simp;refine hK _ ?_;clear hK K
     have T7:=Lib.hid (T6.out.below (av w6 (.cells #[.int .i64 2,.int .i64 (bg+Fg.vars.length),.int .i64 (bf+x.dst),.int .i64 0,.slice none 0 0] 60)))
     have C7:Hid (aF (mine D wc) wc (w6.alloc (.cells #[.int .i64 2,.int .i64 (bg+Fg.vars.length),.int .i64 (bf+x.dst),.int .i64 0,.slice none 0 0] 60))):=mine.trans C6.out (aF.of_below (av ..))
     have HG:Hid (ah (w6.alloc (.cells #[.int .i64 2,.int .i64 (bg+Fg.vars.length),.int .i64 (bf+x.dst),.int .i64 0,.slice none 0 0] 60)) w6.heap.size _ 60):=aL ..
     have hcw7:=T7.out.cw C7.out
     refine aP 10 rfl (by kernel_rfl) ?_
     go_wp2
     refine⟨hcw7,?_⟩
     refine aP 11 rfl (by kernel_rfl) ?_
     go_wp2_with fail
     refine(T7.out.add ⟨2,bg+Fg.vars.length,bf+x.dst,0,none,0,[]⟩ w6.heap.size HG.out (qQ _ _) (by simp) (by omega)).mono ?_
     rintro e w8 ⟨rfl,hT,hch⟩
     have T8:=Lib.hid (hT.up (show 1+x.args.length+1<=2+x.args.length by omega))
     have hcw8:=T8.out.cw (mine.trans C7.out hch)
     clear hT hch T7 C7 HG T5 C5 T6 C6 hcw hcw6 hcw7
     go_wp2
     refine⟨hcw8,?_⟩
     refine dh (by kernel_rfl) ?_ _
     clear y2 e1 hcw8 hne
     go_wp2
     go_meet
     exact T8.out
   case rest =>
   have T5:=hcut
   clear hcut T4 HBB c0 c1 c2 d0 d1 d2 d5 d6 d7
   obtain⟨⟨c0,c1,c2⟩,d0,d1,d2,d5,d6,d7⟩:=T5.out.boxes
   have n1:=T5.out.LY
   have y0:∀o:aX D w wc,o.u.cell? ⟨n3,0,none⟩=some (.int .i64 f):=fun o=>o.old c0 n1
   have y1:∀o:aX D w wc,o.u.cell? ⟨n3,1,none⟩=some (.int .i64 i):=fun o=>o.old c1 n1
   have y2:∀o:aX D w wc,o.u.cell? ⟨n3,2,none⟩=some (.int .i64 g):=fun o=>o.old c2 n1
   have T6:=Lib.hid (T5.out.below (Below.refl _ wc).drew)
   have C6:Hid (aF (mine D wc) wc wc.drew):=aF.of_below (Below.refl _ wc).drew
   have hcw:=T6.out.cw C6.out
   have hne:Nonempty (aX D w wc):=hcw.elim fun o _=>⟨o⟩
   clear c0 c1 c2 d0 d1 d2 d5 d6 d7 n1
   go_upto_region 15 with (fail)
   refine dC (fun w'=>∃o:aX D w wc,w' = o.u) (by kernel_rfl) ?_
   change bO _ _ _ _ _ _ _ _ wc.drew
   generalize wc.drew=V5 at *
   refine af 0 rfl (by kernel_rfl) (fun _ _ _ _ h=>h) hcw (fun K hK=>?_);go_simp;refine hK _ ?_;clear hK K
   refine af 1 rfl (by kernel_rfl) (fun _ _ _ _ h=>h) hcw (fun K hK=>?_);go_simp;refine hK _ ?_;clear hK K
   refine af 2 rfl (by kernel_rfl) (fun _ _ _ _ h=>h) hcw (fun K hK=>?_);go_simp;refine hK _ ?_;clear hK K
   refine af 3 rfl (by kernel_rfl) (fun _ _ _ _ h=>h) hcw (fun K hK=>?_);go_simp;refine hK _ ?_;clear hK K
   refine af 4 rfl (by kernel_rfl) (fun _ _ _ _ h=>h) hcw (fun K hK=>?_);go_simp;refine hK _ ?_;clear hK K
   refine af 5 rfl (by kernel_rfl) (fun _ _ _ _ h=>h) hcw (fun K hK=>?_);go_simp;refine hK _ ?_;clear hK K
   refine af 6 rfl (by kernel_rfl) (fun _ _ _ _ h=>h) hcw (fun K hK=>?_);go_simp;refine hK _ ?_;clear hK K
   refine af 7 rfl (by kernel_rfl) (fun _ _ _ _ h=>h) hcw (fun K hK=>?_);go_simp;refine hK _ ?_;clear hK K
   refine aP 8 rfl (by kernel_rfl) ?_
   go_wp2_with fail
   refine(HTH.out _ T6.out.rd).mono ?_
   rintro e w6 ⟨rfl,hb6⟩
   have T7:=Lib.hid (T6.out.below hb6)
   have C7:Hid (aF (mine D wc) wc w6):=mine.trans C6.out (aF.of_below hb6)
   have hcw7:=T7.out.cw C7.out
   clear hb6
   go_wp2
   refine⟨hcw7,?_⟩
   obtain⟨R7,hr7,hq7⟩:=T7.out.q
   have HQ7:=Lib.hid hq7
   clear hq7
   refine aP 9 rfl (by kernel_rfl) ?_
   go_wp2_with fail
   refine(HRA.out (bg+Fg.vars.length+1) (P++R7) _ HQ7.out (by omega) (by simp;omega)).mono ?_
   rintro e w8 ⟨rfl,hq8,hch⟩
   have HQ8:=Lib.hid hq8
   have C8:=Lib.hid (mine.trans T7.out.ch hch)
   have hcw8:=HQ8.out.cw (mine.trans C7.out hch)
   have hrl:=HRL.out (bg+Fg.vars.length+1)
   clear hq8 hch
   go_wp2
   refine⟨hcw8,?_⟩
   refine dh (by kernel_rfl) ?_ _
   clear y0 y1 y2 hcw hcw7 hcw8 hne
   go_wp2
   refine bodyPost_end (results_none rfl _ _ _) rfl ?_
   exact⟨rfl,⟨R7++gZ D.u D.L D.bs f i (bg+Fg.vars.length+1),by simp;omega,by rw[<-List.append_assoc];exact HQ8.out⟩,C8.out⟩
end Go.Proofs.YtjnbddedmbhiaaaGreatDoor
