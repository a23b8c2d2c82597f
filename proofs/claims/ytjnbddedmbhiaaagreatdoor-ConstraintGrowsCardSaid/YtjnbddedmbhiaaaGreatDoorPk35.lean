/-
  constraint's builder: instr. (Printed by gjd.py.)
-/
import Derived.Test.YtjnbddedmbhiaaaGreatDoorPk33
namespace Go.Proofs.YtjnbddedmbhiaaaGreatDoor
open Go.RowKit Go.ak Go.AM

abbrev qK(D:BD)(P:List PC)(f i:Nat)(w w0:World):Prop:=Calls Tryz.prog 18 #[.pointer (some ⟨D.R,0,none⟩),.int .i64 f,.int .i64 i] w0 (fun e w'=>e = .returned (.tuple #[])/\BQ D (P++fq D.u D.L D.bs D.Fs D.Ff f i) w w'/\aF (mine D w0) w0 w')
theorem Nr{κ:Type}(F:κ->Option Int)(k:κ):((fQ F k).getD (.int .i64 0)) = .int .i64 ((F k).getD 0):=by
 unfold fQ;cases F k<;>rfl
theorem aX.WN{D:BD}{w W:World}(o:aX D w W)(f i:Nat):(Instr.lookup 75 (.map (some D.gs)) (.agg #[.int .i64 f,.int .i64 i]) false).run Tryz.prog o.u = .ok (.int .i64 ((D.Fs ((f:Int),(i:Int))).getD 0)) o.u:=by
 obtain⟨_,_,_,k⟩:=o.bm
 obtain⟨n,h⟩:=k.ms
 have:=h.lookup Nj Js (uO o.u) ((f:Int),(i:Int)) false
 rw[<-Nr]
 exact this
theorem aX.iY{D:BD}{w W:World}(o:aX D w W)(s:Str):(Instr.lookup 76 (.map (some D.gf)) (.string s) false).run Tryz.prog o.u = .ok (.int .i64 ((D.Ff s).getD 0)) o.u:=by
 obtain⟨_,_,_,k⟩:=o.bm
 obtain⟨n,h⟩:=k.mf
 have:=h.lookup iy pO (uO o.u) s false
 rw[<-Nr]
 exact this
set_option maxRecDepth 100000 in
set_option maxHeartbeats 16000000 in
theorem y0T{D:BD}{P:List PC}{w w0:World}(f i:Nat)(hf:f<D.u.fs.length)(hi:i<D.u.fs[f].code.length)(k:BQ D P w w0)(o:gI D)(hex:D.ex=none)(hP:P.length<=990000)(ho:D.u.fs[f].code[i].op=6):qK D P f i w w0:=by
 show Calls _ _ _ _ _
 have S:=Lib.hid k
 have HO:=Lib.hid o
 have hfb:f<D.bs.length:=by rw[o.n];exact hf
 obtain⟨b,off,va,vc,ca,cc,he,-,-,-,-,-,-,m6,-,hins⟩:=k.f0 f hf
 have m6:=cell_below k.hb m6
 obtain⟨b2,off2,ga,gc,he2,q0,q1,q2,q3,q4,q5,q6,q7,q8,q9,-⟩:=(hins.below k.hb) i hi
 obtain⟨ba2,bo2,heb,pb⟩:=k.rd.b f hfb
 obtain⟨hb0,hb1⟩:=o.v f hfb
 have hcl:=o.cl _ (List.getElem_mem hf)
 have hvl:=o.vl _ (List.getElem_mem hf)
 have HK:=Lib.hid (o.rk _ (List.getElem_mem hf) _ (List.getElem_mem hi))
 obtain⟨⟨hd0,hd1⟩,⟨ha0,ha1⟩,hb20,hb21⟩:=o.rg _ (List.getElem_mem hf) _ (List.getElem_mem hi)
 have HII:Hid (∀(v:Nat) w1,v<D.u.fs[f].vars.length->dV D.u D.ha D.hc D.fa D.fc D.bs D.ba D.bc D.R w1->Calls Tryz.prog 38 #[.pointer (some ⟨D.R,0,none⟩),.int .i64 f,.int .i64 v] w1 (Same w1 (.bool (dA D.u.fs[f] v)))):=fun v w1 hv h=>qE D.u D.ha D.hc D.fa D.fc D.bs D.ba D.bc D.R f v hf hv w1 h
 have HRS:Hid (∀w1,dV D.u D.ha D.hc D.fa D.fc D.bs D.ba D.bc D.R w1->Calls Tryz.prog 40 #[.pointer (some ⟨D.R,0,none⟩),.int .i64 f] w1 (aj w1 (.int .i64 (D.bs[f]+D.u.fs[f].vars.length)))):=fun w1 h=>qD D.u D.ha D.hc D.fa D.fc D.bs D.ba D.bc D.R f hf hfb ⟨hb0,hb1⟩ hvl w1 h
 have HRA:Hid (∀(y:Int) (w1:World),BQ D P w w1->0<=y/\y<=2000000000->Calls Tryz.prog 41 #[.pointer (some ⟨D.R,0,none⟩),.int .i64 f,.int .i64 i,.int .i64 y] w1 (fun e w'=>e = .returned (.tuple #[])/\BQ D (P++gZ D.u D.L D.bs f i y) w w'/\aF (mine D w1) w1 w')):=fun y w1 h hy=>rZ f i y hf hi h o hex hy hP
 have HR:Hid (fq D.u D.L D.bs D.Fs D.Ff f i=jb D.u D.L D.bs D.Fs D.Ff D.u.fs[f] D.bs[f] f i D.u.fs[f].code[i]):=by
  show _=_
  unfold fq
  rw[List.getElem?_eq_getElem hf,List.getElem?_eq_getElem hfb]
  simp only
  rw[List.getElem?_eq_getElem hi]
 generalize fq D.u D.L D.bs D.Fs D.Ff f i=R at *
 generalize D.bs[f]=base at *
 clear hins k o
 generalize D.u.fs[f].code[i]=x at *
 generalize D.u.fs[f]=g at *
 subst he2
 obtain⟨z0,z1,z2,-,-,z5,-,-,-,-⟩:=S.out.cells
 rw[he]at z1
 rw[heb]at z5
 have HOP:=Lib.hid ho
 clear ho
 go_enter Tryz.func18,Tryz.ntmps18
 have BZ:Hid (ah (w0.alloc bV) w0.heap.size _ 53):=aL ..
 go_upto_region 1 with (refine kR rfl rfl _ _ rfl w0.heap.size x ga gc rfl rfl _ BZ.out rfl ?_)
 have hrow:=bP (av w0 bV) (Nat.le_refl w0.heap.size) #[.int .i64 x.op,.int .i64 x.dst,.int .i64 x.a,.int .i64 x.b,.int .i64 x.n,.string x.cls,.string x.name,.slice ga x.args.length gc,.int .i64 x.goto,.int .i64 x.aZ]
 have B1:=Lib.hid (BZ.out.setRow #[.int .i64 x.op,.int .i64 x.dst,.int .i64 x.a,.int .i64 x.b,.int .i64 x.n,.string x.cls,.string x.name,.slice ga x.args.length gc,.int .i64 x.goto,.int .i64 x.aZ])
 have S1:=Lib.hid (S.out.below hrow)
 have C1:Hid (aF (mine D w0) w0 _):=aF.of_below hrow
 have pb1:=cell_below hrow pb
 have z51:=cell_below hrow z5
 clear S hrow BZ q0 q1 q2 q3 q4 q5 q6 q7 q8 q9 m6 z0 z1 z2 z5 pb
 generalize (w0.alloc bV).setRow w0.heap.size _=W1 at *
 generalize w0.heap.size=n6 at *
 have n1:=S1.out.iW B1.out (by decide) (by decide)
 have i0:=B1.out.cell 0 (by simp)
 have i1:=B1.out.cell 1 (by simp)
 have i2:=B1.out.cell 2 (by simp)
 have i3:=B1.out.cell 3 (by simp)
 have i6:=B1.out.cell 6 (by simp)
 simp only[List.getElem_toArray,List.getElem_cons_zero,List.getElem_cons_succ]at i0 i1 i2 i3 i6
 have t6:(x.op==6)=true:=by rw[HOP.out];rfl
 obtain⟨d0,d1⟩:=HK.out.dst (by rw[HOP.out];simp only[bH];kernel_rfl) (by rw[HOP.out];simp only[bH];kernel_rfl)
 obtain⟨d,hd⟩:=Int.eq_ofNat_of_zero_le d0
 have hld:d<g.vars.length:=by omega
 have HEd:=Lib.hid hd
 clear hd
 have HId:=Lib.hid (HII.out d W1 hld S1.out.rd)
 have HNN:Hid (R=if dA g d=true then []else [⟨1,(D.Fs ((f:Int),(i:Int))).getD 0,base+x.dst,0,[]⟩]):=by
  show _=_
  rw[HR.out]
  have e:x.dst.toNat=d:=by have:=HEd.out;omega
  unfold jb
  rw[HOP.out,e]
  simp
 rw[<-HEd.out]at HId
 clear HR HK HII HRS HRA
 cases hb:dA g d
 case true =>
  have HN:Hid (R=[]):=by show _=_;rw[HNN.out,hb];rfl
  rw[hb]at HId
  clear HNN
  go_wp2_with (go_at_call 38;refine HId.out.mono ?_;rintro e w2 ⟨rfl,hw2⟩;subst hw2)
  go_wp2
  refine bodyPost_end (results_none rfl _ _ _) rfl ?_
  exact⟨rfl,by rw[HN.out,List.append_nil];exact S1.out,C1.out⟩
 case false =>
  have HN:Hid (R=[⟨1,(D.Fs ((f:Int),(i:Int))).getD 0,base+x.dst,0,[]⟩]):=by show _=_;rw[HNN.out,hb];rfl
  rw[hb]at HId
  clear HNN
  go_upto_region 5 with (go_at_call 38;refine HId.out.mono ?_;rintro e w2 ⟨rfl,hw2⟩;subst hw2)
  have k0:∀o:aX D w W1,o.u.cell? ⟨D.R,0,none⟩=some (.slice D.ha D.u.h.length D.hc):=fun o=>o.cells.1
  have k1:∀o:aX D w W1,o.u.cell? ⟨n6,1,none⟩=some (.int .i64 x.dst):=fun o=>o.old i1 n1
  have k2:∀o:aX D w W1,o.u.cell? ⟨n6,2,none⟩=some (.int .i64 x.a):=fun o=>o.old i2 n1
  have k3:∀o:aX D w W1,o.u.cell? ⟨n6,3,none⟩=some (.int .i64 x.b):=fun o=>o.old i3 n1
  have k6:∀o:aX D w W1,o.u.cell? ⟨n6,6,none⟩=some (.string x.name):=fun o=>o.old i6 n1
  have k4:∀o:aX D w W1,o.u.cell? ⟨D.R,4,none⟩=some (.map (some D.gs)):=fun o=>o.cells.2.2.2.2.1
  have hlk:=fun o:aX D w W1=>o.WN f i
  have S2:=Lib.hid (S1.out.below (Below.refl _ W1).drew)
  have C2:Hid (aF (mine D W1) W1 W1.drew):=aF.of_below (Below.refl _ W1).drew
  have hcw:=S2.out.cw C2.out
  have hne:Nonempty (aX D w W1):=hcw.elim fun o _=>⟨o⟩
  clear i0 i1 i2 i3 i6 n1
  refine dC (fun w'=>∃o:aX D w W1,w' = o.u) (by kernel_rfl) ?_
  change bO _ _ _ _ _ _ _ _ W1.drew
  generalize W1.drew=V2 at *
  refine af 0 rfl (by kernel_rfl) (fun _ _ _ _ h=>h) hcw (fun K hK=>?_);go_simp;refine hK _ ?_;clear hK K
  refine af 1 rfl (by kernel_rfl) (fun _ _ _ _ h=>h) hcw (fun K hK=>?_);go_simp;refine hK _ ?_;clear hK K
  refine af 2 rfl (by kernel_rfl) (fun _ _ _ _ h=>h) hcw (fun K hK=>?_);go_simp;refine hK _ ?_;clear hK K
  refine af 3 rfl (by kernel_rfl) (fun _ _ _ _ h=>h) hcw (fun K hK=>?_);go_simp;refine hK _ ?_;clear hK K
  refine af 4 rfl (by kernel_rfl) (fun _ _ _ _ h=>h) hcw (fun K hK=>?_);go_simp;refine hK _ ?_;clear hK K
  refine af 5 rfl (by kernel_rfl) (fun _ _ _ _ h=>h) hcw (fun K hK=>?_);go_simp;refine hK _ ?_;clear hK K
  refine af 6 rfl (by kernel_rfl) (fun _ _ _ _ h=>h) hcw (fun K hK=>?_);go_simp;refine hK _ ?_;clear hK K
  refine af 7 rfl (by kernel_rfl) (fun _ _ _ _ h=>h) hcw (fun K hK=>?_);go_simp;refine hK _ ?_;clear hK K
  refine af 8 rfl (by kernel_rfl) (fun _ _ _ _ h=>h) hcw (fun K hK=>?_);go_simp;refine hK _ ?_;clear hK K
  refine af 9 rfl (by kernel_rfl) (fun _ _ _ _ h=>h) hcw (fun K hK=>?_);go_simp;refine hK _ ?_;clear hK K
  refine af 10 rfl (by kernel_rfl) (fun _ _ _ _ h=>h) hcw (fun K hK=>?_);go_simp;refine hK _ ?_;clear hK K
  refine af 11 rfl (by kernel_rfl) (fun _ _ _ _ h=>h) hcw (fun K hK=>?_);go_simp;refine hK _ ?_;clear hK K
  refine af 12 rfl (by kernel_rfl) (fun _ _ _ _ h=>h) hcw (fun K hK=>?_);go_simp;refine hK _ ?_;clear hK K
  refine af 13 rfl (by kernel_rfl) (fun _ _ _ _ h=>h) hcw (fun K hK=>?_);go_simp;refine hK _ ?_;clear hK K
  have S3:=Lib.hid (S2.out.below (av V2 (.cells #[.int .i64 1,.int .i64 ((D.Fs ((f:Int),(i:Int))).getD 0),.int .i64 (base+x.dst),.int .i64 (0),.slice none 0 0] 60)))
  have C3:Hid (aF (mine D W1) W1 (V2.alloc (.cells #[.int .i64 1,.int .i64 ((D.Fs ((f:Int),(i:Int))).getD 0),.int .i64 (base+x.dst),.int .i64 (0),.slice none 0 0] 60))):=mine.trans C2.out (aF.of_below (av ..))
  have HG:Hid (ah (V2.alloc (.cells #[.int .i64 1,.int .i64 ((D.Fs ((f:Int),(i:Int))).getD 0),.int .i64 (base+x.dst),.int .i64 (0),.slice none 0 0] 60)) V2.heap.size _ 60):=aL ..
  have hcw3:=S3.out.cw C3.out
  have hpq:P.length<=1000000:=by omega
  refine aP 14 rfl (by kernel_rfl) ?_
  go_wp2
  refine⟨hcw3,?_⟩
  refine aP 15 rfl (by kernel_rfl) ?_
  go_wp2_with fail
  refine(qX S3.out ⟨1,(D.Fs ((f:Int),(i:Int))).getD 0,base+x.dst,0,none,0,[]⟩ V2.heap.size HG.out (qQ _ _) (by simp) hpq).mono ?_
  rintro e wA ⟨rfl,hbq,hch⟩
  have SA:=Lib.hid hbq
  have CA:=Lib.hid (mine.trans C3.out hch)
  have hcwA:=SA.out.cw CA.out
  have CA0:=Lib.hid (mine.trans C1.out CA.out)
  clear hbq hch S3 C3 HG hcw3 hcw S2 C2
  go_wp2
  refine⟨hcwA,?_⟩
  refine dh (by kernel_rfl) ?_ _
  clear k0 k1 k2 k3 k6 hcwA hne
  go_wp2
  refine bodyPost_end (results_none rfl _ _ _) rfl ?_
  exact⟨rfl,by rw[HN.out];exact SA.out,CA0.out⟩
set_option maxRecDepth 100000 in
set_option maxHeartbeats 16000000 in
theorem y0S{D:BD}{P:List PC}{w w0:World}(f i:Nat)(hf:f<D.u.fs.length)(hi:i<D.u.fs[f].code.length)(k:BQ D P w w0)(o:gI D)(hex:D.ex=none)(hP:P.length<=990000)(ho:D.u.fs[f].code[i].op=7):qK D P f i w w0:=by
 show Calls _ _ _ _ _
 have S:=Lib.hid k
 have HO:=Lib.hid o
 have hfb:f<D.bs.length:=by rw[o.n];exact hf
 obtain⟨b,off,va,vc,ca,cc,he,-,-,-,-,-,-,m6,-,hins⟩:=k.f0 f hf
 have m6:=cell_below k.hb m6
 obtain⟨b2,off2,ga,gc,he2,q0,q1,q2,q3,q4,q5,q6,q7,q8,q9,-⟩:=(hins.below k.hb) i hi
 obtain⟨ba2,bo2,heb,pb⟩:=k.rd.b f hfb
 obtain⟨hb0,hb1⟩:=o.v f hfb
 have hcl:=o.cl _ (List.getElem_mem hf)
 have hvl:=o.vl _ (List.getElem_mem hf)
 have HK:=Lib.hid (o.rk _ (List.getElem_mem hf) _ (List.getElem_mem hi))
 obtain⟨⟨hd0,hd1⟩,⟨ha0,ha1⟩,hb20,hb21⟩:=o.rg _ (List.getElem_mem hf) _ (List.getElem_mem hi)
 have HII:Hid (∀(v:Nat) w1,v<D.u.fs[f].vars.length->dV D.u D.ha D.hc D.fa D.fc D.bs D.ba D.bc D.R w1->Calls Tryz.prog 38 #[.pointer (some ⟨D.R,0,none⟩),.int .i64 f,.int .i64 v] w1 (Same w1 (.bool (dA D.u.fs[f] v)))):=fun v w1 hv h=>qE D.u D.ha D.hc D.fa D.fc D.bs D.ba D.bc D.R f v hf hv w1 h
 have HRS:Hid (∀w1,dV D.u D.ha D.hc D.fa D.fc D.bs D.ba D.bc D.R w1->Calls Tryz.prog 40 #[.pointer (some ⟨D.R,0,none⟩),.int .i64 f] w1 (aj w1 (.int .i64 (D.bs[f]+D.u.fs[f].vars.length)))):=fun w1 h=>qD D.u D.ha D.hc D.fa D.fc D.bs D.ba D.bc D.R f hf hfb ⟨hb0,hb1⟩ hvl w1 h
 have HRA:Hid (∀(y:Int) (w1:World),BQ D P w w1->0<=y/\y<=2000000000->Calls Tryz.prog 41 #[.pointer (some ⟨D.R,0,none⟩),.int .i64 f,.int .i64 i,.int .i64 y] w1 (fun e w'=>e = .returned (.tuple #[])/\BQ D (P++gZ D.u D.L D.bs f i y) w w'/\aF (mine D w1) w1 w')):=fun y w1 h hy=>rZ f i y hf hi h o hex hy hP
 have HR:Hid (fq D.u D.L D.bs D.Fs D.Ff f i=jb D.u D.L D.bs D.Fs D.Ff D.u.fs[f] D.bs[f] f i D.u.fs[f].code[i]):=by
  show _=_
  unfold fq
  rw[List.getElem?_eq_getElem hf,List.getElem?_eq_getElem hfb]
  simp only
  rw[List.getElem?_eq_getElem hi]
 generalize fq D.u D.L D.bs D.Fs D.Ff f i=R at *
 generalize D.bs[f]=base at *
 clear hins k o
 generalize D.u.fs[f].code[i]=x at *
 generalize D.u.fs[f]=g at *
 subst he2
 obtain⟨z0,z1,z2,-,-,z5,-,-,-,-⟩:=S.out.cells
 rw[he]at z1
 rw[heb]at z5
 have HOP:=Lib.hid ho
 clear ho
 go_enter Tryz.func18,Tryz.ntmps18
 have BZ:Hid (ah (w0.alloc bV) w0.heap.size _ 53):=aL ..
 go_upto_region 1 with (refine kR rfl rfl _ _ rfl w0.heap.size x ga gc rfl rfl _ BZ.out rfl ?_)
 have hrow:=bP (av w0 bV) (Nat.le_refl w0.heap.size) #[.int .i64 x.op,.int .i64 x.dst,.int .i64 x.a,.int .i64 x.b,.int .i64 x.n,.string x.cls,.string x.name,.slice ga x.args.length gc,.int .i64 x.goto,.int .i64 x.aZ]
 have B1:=Lib.hid (BZ.out.setRow #[.int .i64 x.op,.int .i64 x.dst,.int .i64 x.a,.int .i64 x.b,.int .i64 x.n,.string x.cls,.string x.name,.slice ga x.args.length gc,.int .i64 x.goto,.int .i64 x.aZ])
 have S1:=Lib.hid (S.out.below hrow)
 have C1:Hid (aF (mine D w0) w0 _):=aF.of_below hrow
 have pb1:=cell_below hrow pb
 have z51:=cell_below hrow z5
 clear S hrow BZ q0 q1 q2 q3 q4 q5 q6 q7 q8 q9 m6 z0 z1 z2 z5 pb
 generalize (w0.alloc bV).setRow w0.heap.size _=W1 at *
 generalize w0.heap.size=n6 at *
 have n1:=S1.out.iW B1.out (by decide) (by decide)
 have i0:=B1.out.cell 0 (by simp)
 have i1:=B1.out.cell 1 (by simp)
 have i2:=B1.out.cell 2 (by simp)
 have i3:=B1.out.cell 3 (by simp)
 have i6:=B1.out.cell 6 (by simp)
 simp only[List.getElem_toArray,List.getElem_cons_zero,List.getElem_cons_succ]at i0 i1 i2 i3 i6
 have t6:(x.op==6)=false:=by rw[HOP.out];rfl
 have t3:(x.op==3)=false:=by rw[HOP.out];rfl
 have t7:(x.op==7)=true:=by rw[HOP.out];rfl
 obtain⟨d0,d1⟩:=HK.out.dst (by rw[HOP.out];simp only[bH];kernel_rfl) (by rw[HOP.out];simp only[bH];kernel_rfl)
 obtain⟨d,hd⟩:=Int.eq_ofNat_of_zero_le d0
 have hld:d<g.vars.length:=by omega
 have HEd:=Lib.hid hd
 clear hd
 have HId:=Lib.hid (HII.out d W1 hld S1.out.rd)
 have HNN:Hid (R=if dA g d=true then []else [⟨3,base+x.a,base+x.dst,(D.Ff x.name).getD 0,[]⟩]):=by
  show _=_
  rw[HR.out]
  have e:x.dst.toNat=d:=by have:=HEd.out;omega
  unfold jb
  rw[HOP.out,e]
  simp
 rw[<-HEd.out]at HId
 clear HR HK HII HRS HRA
 cases hb:dA g d
 case true =>
  have HN:Hid (R=[]):=by show _=_;rw[HNN.out,hb];rfl
  rw[hb]at HId
  clear HNN
  go_wp2_with (go_at_call 38;refine HId.out.mono ?_;rintro e w2 ⟨rfl,hw2⟩;subst hw2)
  go_wp2
  refine bodyPost_end (results_none rfl _ _ _) rfl ?_
  exact⟨rfl,by rw[HN.out,List.append_nil];exact S1.out,C1.out⟩
 case false =>
  have HN:Hid (R=[⟨3,base+x.a,base+x.dst,(D.Ff x.name).getD 0,[]⟩]):=by show _=_;rw[HNN.out,hb];rfl
  rw[hb]at HId
  clear HNN
  go_upto_region 11 with (go_at_call 38;refine HId.out.mono ?_;rintro e w2 ⟨rfl,hw2⟩;subst hw2)
  have k0:∀o:aX D w W1,o.u.cell? ⟨D.R,0,none⟩=some (.slice D.ha D.u.h.length D.hc):=fun o=>o.cells.1
  have k1:∀o:aX D w W1,o.u.cell? ⟨n6,1,none⟩=some (.int .i64 x.dst):=fun o=>o.old i1 n1
  have k2:∀o:aX D w W1,o.u.cell? ⟨n6,2,none⟩=some (.int .i64 x.a):=fun o=>o.old i2 n1
  have k3:∀o:aX D w W1,o.u.cell? ⟨n6,3,none⟩=some (.int .i64 x.b):=fun o=>o.old i3 n1
  have k6:∀o:aX D w W1,o.u.cell? ⟨n6,6,none⟩=some (.string x.name):=fun o=>o.old i6 n1
  have k7:∀o:aX D w W1,o.u.cell? ⟨D.R,6,none⟩=some (.map (some D.gf)):=fun o=>o.cells.2.2.2.2.2.2.1
  have hlk:=fun o:aX D w W1=>o.iY x.name
  have S2:=Lib.hid (S1.out.below (Below.refl _ W1).drew)
  have C2:Hid (aF (mine D W1) W1 W1.drew):=aF.of_below (Below.refl _ W1).drew
  have hcw:=S2.out.cw C2.out
  have hne:Nonempty (aX D w W1):=hcw.elim fun o _=>⟨o⟩
  clear i0 i1 i2 i3 i6 n1
  refine dC (fun w'=>∃o:aX D w W1,w' = o.u) (by kernel_rfl) ?_
  change bO _ _ _ _ _ _ _ _ W1.drew
  generalize W1.drew=V2 at *
  refine af 0 rfl (by kernel_rfl) (fun _ _ _ _ h=>h) hcw (fun K hK=>?_);go_simp;refine hK _ ?_;clear hK K
  refine af 1 rfl (by kernel_rfl) (fun _ _ _ _ h=>h) hcw (fun K hK=>?_);go_simp;refine hK _ ?_;clear hK K
  refine af 2 rfl (by kernel_rfl) (fun _ _ _ _ h=>h) hcw (fun K hK=>?_);go_simp;refine hK _ ?_;clear hK K
  refine af 3 rfl (by kernel_rfl) (fun _ _ _ _ h=>h) hcw (fun K hK=>?_);go_simp;refine hK _ ?_;clear hK K
  refine af 4 rfl (by kernel_rfl) (fun _ _ _ _ h=>h) hcw (fun K hK=>?_);go_simp;refine hK _ ?_;clear hK K
  refine af 5 rfl (by kernel_rfl) (fun _ _ _ _ h=>h) hcw (fun K hK=>?_);go_simp;refine hK _ ?_;clear hK K
  refine af 6 rfl (by kernel_rfl) (fun _ _ _ _ h=>h) hcw (fun K hK=>?_);go_simp;refine hK _ ?_;clear hK K
  refine af 7 rfl (by kernel_rfl) (fun _ _ _ _ h=>h) hcw (fun K hK=>?_);go_simp;refine hK _ ?_;clear hK K
  refine af 8 rfl (by kernel_rfl) (fun _ _ _ _ h=>h) hcw (fun K hK=>?_);go_simp;refine hK _ ?_;clear hK K
  refine af 9 rfl (by kernel_rfl) (fun _ _ _ _ h=>h) hcw (fun K hK=>?_);go_simp;refine hK _ ?_;clear hK K
  refine af 10 rfl (by kernel_rfl) (fun _ _ _ _ h=>h) hcw (fun K hK=>?_);go_simp;refine hK _ ?_;clear hK K
  refine af 11 rfl (by kernel_rfl) (fun _ _ _ _ h=>h) hcw (fun K hK=>?_);go_simp;refine hK _ ?_;clear hK K
  refine af 12 rfl (by kernel_rfl) (fun _ _ _ _ h=>h) hcw (fun K hK=>?_);go_simp;refine hK _ ?_;clear hK K
  refine af 13 rfl (by kernel_rfl) (fun _ _ _ _ h=>h) hcw (fun K hK=>?_);go_simp;refine hK _ ?_;clear hK K
  refine af 14 rfl (by kernel_rfl) (fun _ _ _ _ h=>h) hcw (fun K hK=>?_);go_simp;refine hK _ ?_;clear hK K
  refine af 15 rfl (by kernel_rfl) (fun _ _ _ _ h=>h) hcw (fun K hK=>?_);go_simp;refine hK _ ?_;clear hK K
  refine af 16 rfl (by kernel_rfl) (fun _ _ _ _ h=>h) hcw (fun K hK=>?_);go_simp;refine hK _ ?_;clear hK K
  have S3:=Lib.hid (S2.out.below (av V2 (.cells #[.int .i64 3,.int .i64 (base+x.a),.int .i64 (base+x.dst),.int .i64 ((D.Ff x.name).getD 0),.slice none 0 0] 60)))
  have C3:Hid (aF (mine D W1) W1 (V2.alloc (.cells #[.int .i64 3,.int .i64 (base+x.a),.int .i64 (base+x.dst),.int .i64 ((D.Ff x.name).getD 0),.slice none 0 0] 60))):=mine.trans C2.out (aF.of_below (av ..))
  have HG:Hid (ah (V2.alloc (.cells #[.int .i64 3,.int .i64 (base+x.a),.int .i64 (base+x.dst),.int .i64 ((D.Ff x.name).getD 0),.slice none 0 0] 60)) V2.heap.size _ 60):=aL ..
  have hcw3:=S3.out.cw C3.out
  have hpq:P.length<=1000000:=by omega
  refine aP 17 rfl (by kernel_rfl) ?_
  go_wp2
  refine⟨hcw3,?_⟩
  refine aP 18 rfl (by kernel_rfl) ?_
  go_wp2_with fail
  refine(qX S3.out ⟨3,base+x.a,base+x.dst,(D.Ff x.name).getD 0,none,0,[]⟩ V2.heap.size HG.out (qQ _ _) (by simp) hpq).mono ?_
  rintro e wA ⟨rfl,hbq,hch⟩
  have SA:=Lib.hid hbq
  have CA:=Lib.hid (mine.trans C3.out hch)
  have hcwA:=SA.out.cw CA.out
  have CA0:=Lib.hid (mine.trans C1.out CA.out)
  clear hbq hch S3 C3 HG hcw3 hcw S2 C2
  go_wp2
  refine⟨hcwA,?_⟩
  refine dh (by kernel_rfl) ?_ _
  clear k0 k1 k2 k3 k6 hcwA hne
  go_wp2
  refine bodyPost_end (results_none rfl _ _ _) rfl ?_
  exact⟨rfl,by rw[HN.out];exact SA.out,CA0.out⟩
set_option maxRecDepth 100000 in
set_option maxHeartbeats 16000000 in
theorem y0R{D:BD}{P:List PC}{w w0:World}(f i:Nat)(hf:f<D.u.fs.length)(hi:i<D.u.fs[f].code.length)(k:BQ D P w w0)(o:gI D)(hex:D.ex=none)(hP:P.length<=990000)(ho:D.u.fs[f].code[i].op=8):qK D P f i w w0:=by
 show Calls _ _ _ _ _
 have S:=Lib.hid k
 have HO:=Lib.hid o
 have hfb:f<D.bs.length:=by rw[o.n];exact hf
 obtain⟨b,off,va,vc,ca,cc,he,-,-,-,-,-,-,m6,-,hins⟩:=k.f0 f hf
 have m6:=cell_below k.hb m6
 obtain⟨b2,off2,ga,gc,he2,q0,q1,q2,q3,q4,q5,q6,q7,q8,q9,-⟩:=(hins.below k.hb) i hi
 obtain⟨ba2,bo2,heb,pb⟩:=k.rd.b f hfb
 obtain⟨hb0,hb1⟩:=o.v f hfb
 have hcl:=o.cl _ (List.getElem_mem hf)
 have hvl:=o.vl _ (List.getElem_mem hf)
 have HK:=Lib.hid (o.rk _ (List.getElem_mem hf) _ (List.getElem_mem hi))
 obtain⟨⟨hd0,hd1⟩,⟨ha0,ha1⟩,hb20,hb21⟩:=o.rg _ (List.getElem_mem hf) _ (List.getElem_mem hi)
 have HII:Hid (∀(v:Nat) w1,v<D.u.fs[f].vars.length->dV D.u D.ha D.hc D.fa D.fc D.bs D.ba D.bc D.R w1->Calls Tryz.prog 38 #[.pointer (some ⟨D.R,0,none⟩),.int .i64 f,.int .i64 v] w1 (Same w1 (.bool (dA D.u.fs[f] v)))):=fun v w1 hv h=>qE D.u D.ha D.hc D.fa D.fc D.bs D.ba D.bc D.R f v hf hv w1 h
 have HRS:Hid (∀w1,dV D.u D.ha D.hc D.fa D.fc D.bs D.ba D.bc D.R w1->Calls Tryz.prog 40 #[.pointer (some ⟨D.R,0,none⟩),.int .i64 f] w1 (aj w1 (.int .i64 (D.bs[f]+D.u.fs[f].vars.length)))):=fun w1 h=>qD D.u D.ha D.hc D.fa D.fc D.bs D.ba D.bc D.R f hf hfb ⟨hb0,hb1⟩ hvl w1 h
 have HRA:Hid (∀(y:Int) (w1:World),BQ D P w w1->0<=y/\y<=2000000000->Calls Tryz.prog 41 #[.pointer (some ⟨D.R,0,none⟩),.int .i64 f,.int .i64 i,.int .i64 y] w1 (fun e w'=>e = .returned (.tuple #[])/\BQ D (P++gZ D.u D.L D.bs f i y) w w'/\aF (mine D w1) w1 w')):=fun y w1 h hy=>rZ f i y hf hi h o hex hy hP
 have HR:Hid (fq D.u D.L D.bs D.Fs D.Ff f i=jb D.u D.L D.bs D.Fs D.Ff D.u.fs[f] D.bs[f] f i D.u.fs[f].code[i]):=by
  show _=_
  unfold fq
  rw[List.getElem?_eq_getElem hf,List.getElem?_eq_getElem hfb]
  simp only
  rw[List.getElem?_eq_getElem hi]
 generalize fq D.u D.L D.bs D.Fs D.Ff f i=R at *
 generalize D.bs[f]=base at *
 clear hins k o
 generalize D.u.fs[f].code[i]=x at *
 generalize D.u.fs[f]=g at *
 subst he2
 obtain⟨z0,z1,z2,-,-,z5,-,-,-,-⟩:=S.out.cells
 rw[he]at z1
 rw[heb]at z5
 have HOP:=Lib.hid ho
 clear ho
 go_enter Tryz.func18,Tryz.ntmps18
 have BZ:Hid (ah (w0.alloc bV) w0.heap.size _ 53):=aL ..
 go_upto_region 1 with (refine kR rfl rfl _ _ rfl w0.heap.size x ga gc rfl rfl _ BZ.out rfl ?_)
 have hrow:=bP (av w0 bV) (Nat.le_refl w0.heap.size) #[.int .i64 x.op,.int .i64 x.dst,.int .i64 x.a,.int .i64 x.b,.int .i64 x.n,.string x.cls,.string x.name,.slice ga x.args.length gc,.int .i64 x.goto,.int .i64 x.aZ]
 have B1:=Lib.hid (BZ.out.setRow #[.int .i64 x.op,.int .i64 x.dst,.int .i64 x.a,.int .i64 x.b,.int .i64 x.n,.string x.cls,.string x.name,.slice ga x.args.length gc,.int .i64 x.goto,.int .i64 x.aZ])
 have S1:=Lib.hid (S.out.below hrow)
 have C1:Hid (aF (mine D w0) w0 _):=aF.of_below hrow
 have pb1:=cell_below hrow pb
 have z51:=cell_below hrow z5
 clear S hrow BZ q0 q1 q2 q3 q4 q5 q6 q7 q8 q9 m6 z0 z1 z2 z5 pb
 generalize (w0.alloc bV).setRow w0.heap.size _=W1 at *
 generalize w0.heap.size=n6 at *
 have n1:=S1.out.iW B1.out (by decide) (by decide)
 have i0:=B1.out.cell 0 (by simp)
 have i1:=B1.out.cell 1 (by simp)
 have i2:=B1.out.cell 2 (by simp)
 have i3:=B1.out.cell 3 (by simp)
 have i6:=B1.out.cell 6 (by simp)
 simp only[List.getElem_toArray,List.getElem_cons_zero,List.getElem_cons_succ]at i0 i1 i2 i3 i6
 have t6:(x.op==6)=false:=by rw[HOP.out];rfl
 have t3:(x.op==3)=false:=by rw[HOP.out];rfl
 have t7:(x.op==7)=false:=by rw[HOP.out];rfl
 have t8:(x.op==8)=true:=by rw[HOP.out];rfl
 obtain⟨d0,d1⟩:=HK.out.b (by rw[HOP.out];simp only[bH];kernel_rfl)
 obtain⟨d,hd⟩:=Int.eq_ofNat_of_zero_le d0
 have hld:d<g.vars.length:=by omega
 have HEd:=Lib.hid hd
 clear hd
 have HId:=Lib.hid (HII.out d W1 hld S1.out.rd)
 have HNN:Hid (R=if dA g d=true then []else [⟨4,base+x.b,base+x.a,(D.Ff x.name).getD 0,[]⟩]):=by
  show _=_
  rw[HR.out]
  have e:x.b.toNat=d:=by have:=HEd.out;omega
  unfold jb
  rw[HOP.out,e]
  simp
 rw[<-HEd.out]at HId
 clear HR HK HII HRS HRA
 cases hb:dA g d
 case true =>
  have HN:Hid (R=[]):=by show _=_;rw[HNN.out,hb];rfl
  rw[hb]at HId
  clear HNN
  go_wp2_with (go_at_call 38;refine HId.out.mono ?_;rintro e w2 ⟨rfl,hw2⟩;subst hw2)
  go_wp2
  refine bodyPost_end (results_none rfl _ _ _) rfl ?_
  exact⟨rfl,by rw[HN.out,List.append_nil];exact S1.out,C1.out⟩
 case false =>
  have HN:Hid (R=[⟨4,base+x.b,base+x.a,(D.Ff x.name).getD 0,[]⟩]):=by show _=_;rw[HNN.out,hb];rfl
  rw[hb]at HId
  clear HNN
  go_upto_region 14 with (go_at_call 38;refine HId.out.mono ?_;rintro e w2 ⟨rfl,hw2⟩;subst hw2)
  have k0:∀o:aX D w W1,o.u.cell? ⟨D.R,0,none⟩=some (.slice D.ha D.u.h.length D.hc):=fun o=>o.cells.1
  have k1:∀o:aX D w W1,o.u.cell? ⟨n6,1,none⟩=some (.int .i64 x.dst):=fun o=>o.old i1 n1
  have k2:∀o:aX D w W1,o.u.cell? ⟨n6,2,none⟩=some (.int .i64 x.a):=fun o=>o.old i2 n1
  have k3:∀o:aX D w W1,o.u.cell? ⟨n6,3,none⟩=some (.int .i64 x.b):=fun o=>o.old i3 n1
  have k6:∀o:aX D w W1,o.u.cell? ⟨n6,6,none⟩=some (.string x.name):=fun o=>o.old i6 n1
  have k7:∀o:aX D w W1,o.u.cell? ⟨D.R,6,none⟩=some (.map (some D.gf)):=fun o=>o.cells.2.2.2.2.2.2.1
  have hlk:=fun o:aX D w W1=>o.iY x.name
  have S2:=Lib.hid (S1.out.below (Below.refl _ W1).drew)
  have C2:Hid (aF (mine D W1) W1 W1.drew):=aF.of_below (Below.refl _ W1).drew
  have hcw:=S2.out.cw C2.out
  have hne:Nonempty (aX D w W1):=hcw.elim fun o _=>⟨o⟩
  clear i0 i1 i2 i3 i6 n1
  refine dC (fun w'=>∃o:aX D w W1,w' = o.u) (by kernel_rfl) ?_
  change bO _ _ _ _ _ _ _ _ W1.drew
  generalize W1.drew=V2 at *
  refine af 0 rfl (by kernel_rfl) (fun _ _ _ _ h=>h) hcw (fun K hK=>?_);go_simp;refine hK _ ?_;clear hK K
  refine af 1 rfl (by kernel_rfl) (fun _ _ _ _ h=>h) hcw (fun K hK=>?_);go_simp;refine hK _ ?_;clear hK K
  refine af 2 rfl (by kernel_rfl) (fun _ _ _ _ h=>h) hcw (fun K hK=>?_);go_simp;refine hK _ ?_;clear hK K
  refine af 3 rfl (by kernel_rfl) (fun _ _ _ _ h=>h) hcw (fun K hK=>?_);go_simp;refine hK _ ?_;clear hK K
  refine af 4 rfl (by kernel_rfl) (fun _ _ _ _ h=>h) hcw (fun K hK=>?_);go_simp;refine hK _ ?_;clear hK K
  refine af 5 rfl (by kernel_rfl) (fun _ _ _ _ h=>h) hcw (fun K hK=>?_);go_simp;refine hK _ ?_;clear hK K
  refine af 6 rfl (by kernel_rfl) (fun _ _ _ _ h=>h) hcw (fun K hK=>?_);go_simp;refine hK _ ?_;clear hK K
  refine af 7 rfl (by kernel_rfl) (fun _ _ _ _ h=>h) hcw (fun K hK=>?_);go_simp;refine hK _ ?_;clear hK K
  refine af 8 rfl (by kernel_rfl) (fun _ _ _ _ h=>h) hcw (fun K hK=>?_);go_simp;refine hK _ ?_;clear hK K
  refine af 9 rfl (by kernel_rfl) (fun _ _ _ _ h=>h) hcw (fun K hK=>?_);go_simp;refine hK _ ?_;clear hK K
  refine af 10 rfl (by kernel_rfl) (fun _ _ _ _ h=>h) hcw (fun K hK=>?_);go_simp;refine hK _ ?_;clear hK K
  refine af 11 rfl (by kernel_rfl) (fun _ _ _ _ h=>h) hcw (fun K hK=>?_);go_simp;refine hK _ ?_;clear hK K
  refine af 12 rfl (by kernel_rfl) (fun _ _ _ _ h=>h) hcw (fun K hK=>?_);go_simp;refine hK _ ?_;clear hK K
  refine af 13 rfl (by kernel_rfl) (fun _ _ _ _ h=>h) hcw (fun K hK=>?_);go_simp;refine hK _ ?_;clear hK K
  refine af 14 rfl (by kernel_rfl) (fun _ _ _ _ h=>h) hcw (fun K hK=>?_);go_simp;refine hK _ ?_;clear hK K
  refine af 15 rfl (by kernel_rfl) (fun _ _ _ _ h=>h) hcw (fun K hK=>?_);go_simp;refine hK _ ?_;clear hK K
  refine af 16 rfl (by kernel_rfl) (fun _ _ _ _ h=>h) hcw (fun K hK=>?_);go_simp;refine hK _ ?_;clear hK K
  have S3:=Lib.hid (S2.out.below (av V2 (.cells #[.int .i64 4,.int .i64 (base+x.b),.int .i64 (base+x.a),.int .i64 ((D.Ff x.name).getD 0),.slice none 0 0] 60)))
  have C3:Hid (aF (mine D W1) W1 (V2.alloc (.cells #[.int .i64 4,.int .i64 (base+x.b),.int .i64 (base+x.a),.int .i64 ((D.Ff x.name).getD 0),.slice none 0 0] 60))):=mine.trans C2.out (aF.of_below (av ..))
  have HG:Hid (ah (V2.alloc (.cells #[.int .i64 4,.int .i64 (base+x.b),.int .i64 (base+x.a),.int .i64 ((D.Ff x.name).getD 0),.slice none 0 0] 60)) V2.heap.size _ 60):=aL ..
  have hcw3:=S3.out.cw C3.out
  have hpq:P.length<=1000000:=by omega
  refine aP 17 rfl (by kernel_rfl) ?_
  go_wp2
  refine⟨hcw3,?_⟩
  refine aP 18 rfl (by kernel_rfl) ?_
  go_wp2_with fail
  refine(qX S3.out ⟨4,base+x.b,base+x.a,(D.Ff x.name).getD 0,none,0,[]⟩ V2.heap.size HG.out (qQ _ _) (by simp) hpq).mono ?_
  rintro e wA ⟨rfl,hbq,hch⟩
  have SA:=Lib.hid hbq
  have CA:=Lib.hid (mine.trans C3.out hch)
  have hcwA:=SA.out.cw CA.out
  have CA0:=Lib.hid (mine.trans C1.out CA.out)
  clear hbq hch S3 C3 HG hcw3 hcw S2 C2
  go_wp2
  refine⟨hcwA,?_⟩
  refine dh (by kernel_rfl) ?_ _
  clear k0 k1 k2 k3 k6 hcwA hne
  go_wp2
  refine bodyPost_end (results_none rfl _ _ _) rfl ?_
  exact⟨rfl,by rw[HN.out];exact SA.out,CA0.out⟩
set_option maxRecDepth 100000 in
set_option maxHeartbeats 16000000 in
theorem y0U{D:BD}{P:List PC}{w w0:World}(f i:Nat)(hf:f<D.u.fs.length)(hi:i<D.u.fs[f].code.length)(k:BQ D P w w0)(o:gI D)(hex:D.ex=none)(hP:P.length<=990000)(ho:D.u.fs[f].code[i].op=3):qK D P f i w w0:=by
 show Calls _ _ _ _ _
 have S:=Lib.hid k
 have HO:=Lib.hid o
 have hfb:f<D.bs.length:=by rw[o.n];exact hf
 obtain⟨b,off,va,vc,ca,cc,he,-,-,-,-,-,-,m6,-,hins⟩:=k.f0 f hf
 have m6:=cell_below k.hb m6
 obtain⟨b2,off2,ga,gc,he2,q0,q1,q2,q3,q4,q5,q6,q7,q8,q9,-⟩:=(hins.below k.hb) i hi
 obtain⟨ba2,bo2,heb,pb⟩:=k.rd.b f hfb
 obtain⟨hb0,hb1⟩:=o.v f hfb
 have hcl:=o.cl _ (List.getElem_mem hf)
 have hvl:=o.vl _ (List.getElem_mem hf)
 have HK:=Lib.hid (o.rk _ (List.getElem_mem hf) _ (List.getElem_mem hi))
 obtain⟨⟨hd0,hd1⟩,⟨ha0,ha1⟩,hb20,hb21⟩:=o.rg _ (List.getElem_mem hf) _ (List.getElem_mem hi)
 have HII:Hid (∀(v:Nat) w1,v<D.u.fs[f].vars.length->dV D.u D.ha D.hc D.fa D.fc D.bs D.ba D.bc D.R w1->Calls Tryz.prog 38 #[.pointer (some ⟨D.R,0,none⟩),.int .i64 f,.int .i64 v] w1 (Same w1 (.bool (dA D.u.fs[f] v)))):=fun v w1 hv h=>qE D.u D.ha D.hc D.fa D.fc D.bs D.ba D.bc D.R f v hf hv w1 h
 have HRS:Hid (∀w1,dV D.u D.ha D.hc D.fa D.fc D.bs D.ba D.bc D.R w1->Calls Tryz.prog 40 #[.pointer (some ⟨D.R,0,none⟩),.int .i64 f] w1 (aj w1 (.int .i64 (D.bs[f]+D.u.fs[f].vars.length)))):=fun w1 h=>qD D.u D.ha D.hc D.fa D.fc D.bs D.ba D.bc D.R f hf hfb ⟨hb0,hb1⟩ hvl w1 h
 have HRA:Hid (∀(y:Int) (w1:World),BQ D P w w1->0<=y/\y<=2000000000->Calls Tryz.prog 41 #[.pointer (some ⟨D.R,0,none⟩),.int .i64 f,.int .i64 i,.int .i64 y] w1 (fun e w'=>e = .returned (.tuple #[])/\BQ D (P++gZ D.u D.L D.bs f i y) w w'/\aF (mine D w1) w1 w')):=fun y w1 h hy=>rZ f i y hf hi h o hex hy hP
 have HR:Hid (fq D.u D.L D.bs D.Fs D.Ff f i=jb D.u D.L D.bs D.Fs D.Ff D.u.fs[f] D.bs[f] f i D.u.fs[f].code[i]):=by
  show _=_
  unfold fq
  rw[List.getElem?_eq_getElem hf,List.getElem?_eq_getElem hfb]
  simp only
  rw[List.getElem?_eq_getElem hi]
 generalize fq D.u D.L D.bs D.Fs D.Ff f i=R at *
 generalize D.bs[f]=base at *
 clear hins k o
 generalize D.u.fs[f].code[i]=x at *
 generalize D.u.fs[f]=g at *
 subst he2
 obtain⟨z0,z1,z2,-,-,z5,-,-,-,-⟩:=S.out.cells
 rw[he]at z1
 rw[heb]at z5
 have HOP:=Lib.hid ho
 clear ho
 go_enter Tryz.func18,Tryz.ntmps18
 have BZ:Hid (ah (w0.alloc bV) w0.heap.size _ 53):=aL ..
 go_upto_region 1 with (refine kR rfl rfl _ _ rfl w0.heap.size x ga gc rfl rfl _ BZ.out rfl ?_)
 have hrow:=bP (av w0 bV) (Nat.le_refl w0.heap.size) #[.int .i64 x.op,.int .i64 x.dst,.int .i64 x.a,.int .i64 x.b,.int .i64 x.n,.string x.cls,.string x.name,.slice ga x.args.length gc,.int .i64 x.goto,.int .i64 x.aZ]
 have B1:=Lib.hid (BZ.out.setRow #[.int .i64 x.op,.int .i64 x.dst,.int .i64 x.a,.int .i64 x.b,.int .i64 x.n,.string x.cls,.string x.name,.slice ga x.args.length gc,.int .i64 x.goto,.int .i64 x.aZ])
 have S1:=Lib.hid (S.out.below hrow)
 have C1:Hid (aF (mine D w0) w0 _):=aF.of_below hrow
 have pb1:=cell_below hrow pb
 have z51:=cell_below hrow z5
 clear S hrow BZ q0 q1 q2 q3 q4 q5 q6 q7 q8 q9 m6 z0 z1 z2 z5 pb
 generalize (w0.alloc bV).setRow w0.heap.size _=W1 at *
 generalize w0.heap.size=n6 at *
 have n1:=S1.out.iW B1.out (by decide) (by decide)
 have i0:=B1.out.cell 0 (by simp)
 have i1:=B1.out.cell 1 (by simp)
 have i2:=B1.out.cell 2 (by simp)
 have i3:=B1.out.cell 3 (by simp)
 have i6:=B1.out.cell 6 (by simp)
 simp only[List.getElem_toArray,List.getElem_cons_zero,List.getElem_cons_succ]at i0 i1 i2 i3 i6
 have t6:(x.op==6)=false:=by rw[HOP.out];rfl
 have t3:(x.op==3)=true:=by rw[HOP.out];rfl
 obtain⟨a0,a1⟩:=HK.out.ra (by rw[HOP.out];simp only[bH];kernel_rfl) (by rw[HOP.out];decide)
 obtain⟨a,ha⟩:=Int.eq_ofNat_of_zero_le a0
 have hla:a<g.vars.length:=by omega
 have HEa:=Lib.hid ha
 clear ha
 have HIa:=Lib.hid (HII.out a W1 hla S1.out.rd)
 obtain⟨d0,d1⟩:=HK.out.dst (by rw[HOP.out];simp only[bH];kernel_rfl) (by rw[HOP.out];simp only[bH];kernel_rfl)
 obtain⟨d,hd⟩:=Int.eq_ofNat_of_zero_le d0
 have hld:d<g.vars.length:=by omega
 have HEd:=Lib.hid hd
 clear hd
 have HId:=Lib.hid (HII.out d W1 hld S1.out.rd)
 have HNN:Hid (R=if dA g a=true then []else if dA g d=true then []else [⟨2,base+x.a,base+x.dst,0,[]⟩]):=by
  show _=_
  rw[HR.out]
  have e:x.dst.toNat=d:=by have:=HEd.out;omega
  have e2:x.a.toNat=a:=by have:=HEa.out;omega
  unfold jb
  rw[HOP.out,e,e2]
  simp
 rw[<-HEa.out]at HIa
 rw[<-HEd.out]at HId
 clear HR HK HII HRS HRA
 cases hba:dA g a
 case true =>
  have HN:Hid (R=[]):=by show _=_;rw[HNN.out,hba];rfl
  rw[hba]at HIa
  clear HNN
  go_wp2_with fail
  refine HIa.out.mono ?_
  rintro e w2 ⟨rfl,hw2⟩
  subst hw2
  go_wp2
  refine bodyPost_end (results_none rfl _ _ _) rfl ?_
  exact⟨rfl,by rw[HN.out,List.append_nil];exact S1.out,C1.out⟩
 case false =>
  rw[hba]at HIa
  have HNM:Hid (R=if dA g d=true then []else [⟨2,base+x.a,base+x.dst,0,[]⟩]):=by show _=_;rw[HNN.out,hba];rfl
  clear HNN
  cases hbd:dA g d
  case true =>
   have HN:Hid (R=[]):=by show _=_;rw[HNM.out,hbd];rfl
   rw[hbd]at HId
   clear HNM
   go_wp2_with fail
   refine HIa.out.mono ?_
   rintro e w2 ⟨rfl,hw2⟩
   subst hw2
   go_wp2_with fail
   refine HId.out.mono ?_
   rintro e w3 ⟨rfl,hw3⟩
   subst hw3
   go_wp2
   refine bodyPost_end (results_none rfl _ _ _) rfl ?_
   exact⟨rfl,by rw[HN.out,List.append_nil];exact S1.out,C1.out⟩
  case false =>
   have HN:Hid (R=[⟨2,base+x.a,base+x.dst,0,[]⟩]):=by show _=_;rw[HNM.out,hbd];rfl
   rw[hbd]at HId
   clear HNM
   go_wp2_with fail
   refine HIa.out.mono ?_
   rintro e w2 ⟨rfl,hw2⟩
   subst hw2
   go_wp2_with fail
   refine HId.out.mono ?_
   rintro e w3 ⟨rfl,hw3⟩
   subst hw3
   have S3:=Lib.hid (S1.out.below (av W1 (.cells #[.int .i64 2,.int .i64 (base+x.a),.int .i64 (base+x.dst),.int .i64 (0),.slice none 0 0] 60)))
   have C3:Hid (aF (mine D w0) w0 (W1.alloc (.cells #[.int .i64 2,.int .i64 (base+x.a),.int .i64 (base+x.dst),.int .i64 (0),.slice none 0 0] 60))):=mine.trans C1.out (aF.of_below (av ..))
   have HG:Hid (ah (W1.alloc (.cells #[.int .i64 2,.int .i64 (base+x.a),.int .i64 (base+x.dst),.int .i64 (0),.slice none 0 0] 60)) W1.heap.size _ 60):=aL ..
   have hpq:P.length<=1000000:=by omega
   go_wp2_with fail
   refine(qX S3.out ⟨2,base+x.a,base+x.dst,0,none,0,[]⟩ W1.heap.size HG.out (qQ _ _) (by simp) hpq).mono ?_
   rintro e wA ⟨rfl,hbq,hch⟩
   have SA:=Lib.hid hbq
   have CA:=Lib.hid (mine.trans C3.out hch)
   clear hbq hch S3 C3 HG
   go_wp2
   refine bodyPost_end (results_none rfl _ _ _) rfl ?_
   exact⟨rfl,by rw[HN.out];exact SA.out,CA.out⟩
set_option maxRecDepth 100000 in
set_option maxHeartbeats 16000000 in
theorem y0W{D:BD}{P:List PC}{w w0:World}(f i:Nat)(hf:f<D.u.fs.length)(hi:i<D.u.fs[f].code.length)(k:BQ D P w w0)(o:gI D)(hex:D.ex=none)(hP:P.length<=990000)(ho:D.u.fs[f].code[i].op=13):qK D P f i w w0:=by
 show Calls _ _ _ _ _
 have S:=Lib.hid k
 have HO:=Lib.hid o
 have hfb:f<D.bs.length:=by rw[o.n];exact hf
 obtain⟨b,off,va,vc,ca,cc,he,-,-,-,-,-,-,m6,-,hins⟩:=k.f0 f hf
 have m6:=cell_below k.hb m6
 obtain⟨b2,off2,ga,gc,he2,q0,q1,q2,q3,q4,q5,q6,q7,q8,q9,-⟩:=(hins.below k.hb) i hi
 obtain⟨ba2,bo2,heb,pb⟩:=k.rd.b f hfb
 obtain⟨hb0,hb1⟩:=o.v f hfb
 have hcl:=o.cl _ (List.getElem_mem hf)
 have hvl:=o.vl _ (List.getElem_mem hf)
 have HK:=Lib.hid (o.rk _ (List.getElem_mem hf) _ (List.getElem_mem hi))
 obtain⟨⟨hd0,hd1⟩,⟨ha0,ha1⟩,hb20,hb21⟩:=o.rg _ (List.getElem_mem hf) _ (List.getElem_mem hi)
 have HII:Hid (∀(v:Nat) w1,v<D.u.fs[f].vars.length->dV D.u D.ha D.hc D.fa D.fc D.bs D.ba D.bc D.R w1->Calls Tryz.prog 38 #[.pointer (some ⟨D.R,0,none⟩),.int .i64 f,.int .i64 v] w1 (Same w1 (.bool (dA D.u.fs[f] v)))):=fun v w1 hv h=>qE D.u D.ha D.hc D.fa D.fc D.bs D.ba D.bc D.R f v hf hv w1 h
 have HRS:Hid (∀w1,dV D.u D.ha D.hc D.fa D.fc D.bs D.ba D.bc D.R w1->Calls Tryz.prog 40 #[.pointer (some ⟨D.R,0,none⟩),.int .i64 f] w1 (aj w1 (.int .i64 (D.bs[f]+D.u.fs[f].vars.length)))):=fun w1 h=>qD D.u D.ha D.hc D.fa D.fc D.bs D.ba D.bc D.R f hf hfb ⟨hb0,hb1⟩ hvl w1 h
 have HRA:Hid (∀(y:Int) (w1:World),BQ D P w w1->0<=y/\y<=2000000000->Calls Tryz.prog 41 #[.pointer (some ⟨D.R,0,none⟩),.int .i64 f,.int .i64 i,.int .i64 y] w1 (fun e w'=>e = .returned (.tuple #[])/\BQ D (P++gZ D.u D.L D.bs f i y) w w'/\aF (mine D w1) w1 w')):=fun y w1 h hy=>rZ f i y hf hi h o hex hy hP
 have HR:Hid (fq D.u D.L D.bs D.Fs D.Ff f i=jb D.u D.L D.bs D.Fs D.Ff D.u.fs[f] D.bs[f] f i D.u.fs[f].code[i]):=by
  show _=_
  unfold fq
  rw[List.getElem?_eq_getElem hf,List.getElem?_eq_getElem hfb]
  simp only
  rw[List.getElem?_eq_getElem hi]
 generalize fq D.u D.L D.bs D.Fs D.Ff f i=R at *
 generalize D.bs[f]=base at *
 clear hins k o
 generalize D.u.fs[f].code[i]=x at *
 generalize D.u.fs[f]=g at *
 subst he2
 obtain⟨z0,z1,z2,-,-,z5,-,-,-,-⟩:=S.out.cells
 rw[he]at z1
 rw[heb]at z5
 have HOP:=Lib.hid ho
 clear ho
 go_enter Tryz.func18,Tryz.ntmps18
 have BZ:Hid (ah (w0.alloc bV) w0.heap.size _ 53):=aL ..
 go_upto_region 1 with (refine kR rfl rfl _ _ rfl w0.heap.size x ga gc rfl rfl _ BZ.out rfl ?_)
 have hrow:=bP (av w0 bV) (Nat.le_refl w0.heap.size) #[.int .i64 x.op,.int .i64 x.dst,.int .i64 x.a,.int .i64 x.b,.int .i64 x.n,.string x.cls,.string x.name,.slice ga x.args.length gc,.int .i64 x.goto,.int .i64 x.aZ]
 have B1:=Lib.hid (BZ.out.setRow #[.int .i64 x.op,.int .i64 x.dst,.int .i64 x.a,.int .i64 x.b,.int .i64 x.n,.string x.cls,.string x.name,.slice ga x.args.length gc,.int .i64 x.goto,.int .i64 x.aZ])
 have S1:=Lib.hid (S.out.below hrow)
 have C1:Hid (aF (mine D w0) w0 _):=aF.of_below hrow
 have pb1:=cell_below hrow pb
 have z51:=cell_below hrow z5
 clear S hrow BZ q0 q1 q2 q3 q4 q5 q6 q7 q8 q9 m6 z0 z1 z2 z5 pb
 generalize (w0.alloc bV).setRow w0.heap.size _=W1 at *
 generalize w0.heap.size=n6 at *
 have n1:=S1.out.iW B1.out (by decide) (by decide)
 have i0:=B1.out.cell 0 (by simp)
 have i1:=B1.out.cell 1 (by simp)
 have i2:=B1.out.cell 2 (by simp)
 have i3:=B1.out.cell 3 (by simp)
 have i6:=B1.out.cell 6 (by simp)
 simp only[List.getElem_toArray,List.getElem_cons_zero,List.getElem_cons_succ]at i0 i1 i2 i3 i6
 have t6:(x.op==6)=false:=by rw[HOP.out];rfl
 have t3:(x.op==3)=false:=by rw[HOP.out];rfl
 have t7:(x.op==7)=false:=by rw[HOP.out];rfl
 have t8:(x.op==8)=false:=by rw[HOP.out];rfl
 have t13:(x.op==13)=true:=by rw[HOP.out];rfl
 by_cases hm:x.a = -1
 case pos =>
  have HN:Hid (R=[]):=by
   show _=_
   rw[HR.out]
   unfold jb
   rw[HOP.out,hm]
   simp
  have u1:(x.a != -1)=false:=by rw[hm];rfl
  clear HR HK HII HRS HRA
  go_wp2
  refine bodyPost_end (results_none rfl _ _ _) rfl ?_
  exact⟨rfl,by rw[HN.out,List.append_nil];exact S1.out,C1.out⟩
 case neg =>
 have u1:(x.a != -1)=true:=by simpa using hm
 obtain⟨a0,a1⟩:=HK.out.KY (by rw[HOP.out];simp only[bH];kernel_rfl) hm
 obtain⟨a,ha⟩:=Int.eq_ofNat_of_zero_le a0
 have hla:a<g.vars.length:=by omega
 have HEa:=Lib.hid ha
 clear ha
 have HIa:=Lib.hid (HII.out a W1 hla S1.out.rd)
 have HNN:Hid (R=if dA g a=true then []else [⟨2,base+x.a,base+g.vars.length,0,[]⟩]):=by
  show _=_
  rw[HR.out]
  have e2:x.a.toNat=a:=by have:=HEa.out;omega
  unfold jb
  rw[HOP.out,e2]
  simp[hm]
 rw[<-HEa.out]at HIa
 clear HR HK HII HRA
 cases hba:dA g a
 case true =>
  have HN:Hid (R=[]):=by show _=_;rw[HNN.out,hba];rfl
  rw[hba]at HIa
  clear HNN
  go_wp2_with fail
  refine HIa.out.mono ?_
  rintro e w2 ⟨rfl,hw2⟩
  subst hw2
  go_wp2
  refine bodyPost_end (results_none rfl _ _ _) rfl ?_
  exact⟨rfl,by rw[HN.out,List.append_nil];exact S1.out,C1.out⟩
 case false =>
  have HN:Hid (R=[⟨2,base+x.a,base+g.vars.length,0,[]⟩]):=by show _=_;rw[HNN.out,hba];rfl
  rw[hba]at HIa
  clear HNN
  go_upto_region 17 with (go_at_call 38;refine HIa.out.mono ?_;rintro e w2 ⟨rfl,hw2⟩;subst hw2)
  have k0:∀o:aX D w W1,o.u.cell? ⟨D.R,0,none⟩=some (.slice D.ha D.u.h.length D.hc):=fun o=>o.cells.1
  have k1:∀o:aX D w W1,o.u.cell? ⟨n6,1,none⟩=some (.int .i64 x.dst):=fun o=>o.old i1 n1
  have k2:∀o:aX D w W1,o.u.cell? ⟨n6,2,none⟩=some (.int .i64 x.a):=fun o=>o.old i2 n1
  have k3:∀o:aX D w W1,o.u.cell? ⟨n6,3,none⟩=some (.int .i64 x.b):=fun o=>o.old i3 n1
  have k6:∀o:aX D w W1,o.u.cell? ⟨n6,6,none⟩=some (.string x.name):=fun o=>o.old i6 n1

  have S2:=Lib.hid (S1.out.below (Below.refl _ W1).drew)
  have C2:Hid (aF (mine D W1) W1 W1.drew):=aF.of_below (Below.refl _ W1).drew
  have hcw:=S2.out.cw C2.out
  have hne:Nonempty (aX D w W1):=hcw.elim fun o _=>⟨o⟩
  clear i0 i1 i2 i3 i6 n1
  refine dC (fun w'=>∃o:aX D w W1,w' = o.u) (by kernel_rfl) ?_
  change bO _ _ _ _ _ _ _ _ W1.drew
  generalize W1.drew=V2 at *
  refine af 0 rfl (by kernel_rfl) (fun _ _ _ _ h=>h) hcw (fun K hK=>?_);go_simp;refine hK _ ?_;clear hK K
  refine af 1 rfl (by kernel_rfl) (fun _ _ _ _ h=>h) hcw (fun K hK=>?_);go_simp;refine hK _ ?_;clear hK K
  refine af 2 rfl (by kernel_rfl) (fun _ _ _ _ h=>h) hcw (fun K hK=>?_);go_simp;refine hK _ ?_;clear hK K
  refine af 3 rfl (by kernel_rfl) (fun _ _ _ _ h=>h) hcw (fun K hK=>?_);go_simp;refine hK _ ?_;clear hK K
  refine af 4 rfl (by kernel_rfl) (fun _ _ _ _ h=>h) hcw (fun K hK=>?_);go_simp;refine hK _ ?_;clear hK K
  refine af 5 rfl (by kernel_rfl) (fun _ _ _ _ h=>h) hcw (fun K hK=>?_);go_simp;refine hK _ ?_;clear hK K
  refine af 6 rfl (by kernel_rfl) (fun _ _ _ _ h=>h) hcw (fun K hK=>?_);go_simp;refine hK _ ?_;clear hK K
  refine aP 7 rfl (by kernel_rfl) ?_
  go_wp2_with fail
  refine(HRS.out V2 S2.out.rd).mono ?_
  rintro e w3 ⟨rfl,hb3⟩
  have S3:=Lib.hid (S2.out.below hb3)
  have C3:Hid (aF (mine D W1) W1 w3):=mine.trans C2.out (aF.of_below hb3)
  have hcw3:=S3.out.cw C3.out
  clear hb3
  go_wp2
  refine⟨hcw3,?_⟩
  refine af 8 rfl (by kernel_rfl) (fun _ _ _ _ h=>h) hcw3 (fun K hK=>?_);go_simp;refine hK _ ?_;clear hK K
  have S4:=Lib.hid (S3.out.below (av w3 (.cells #[.int .i64 2,.int .i64 (base+x.a),.int .i64 (base+g.vars.length),.int .i64 0,.slice none 0 0] 60)))
  have C4:Hid (aF (mine D W1) W1 (w3.alloc (.cells #[.int .i64 2,.int .i64 (base+x.a),.int .i64 (base+g.vars.length),.int .i64 0,.slice none 0 0] 60))):=mine.trans C3.out (aF.of_below (av ..))
  have HG:Hid (ah (w3.alloc (.cells #[.int .i64 2,.int .i64 (base+x.a),.int .i64 (base+g.vars.length),.int .i64 0,.slice none 0 0] 60)) w3.heap.size _ 60):=aL ..
  have hcw4:=S4.out.cw C4.out
  have hpq:P.length<=1000000:=by omega
  refine aP 9 rfl (by kernel_rfl) ?_
  go_wp2
  refine⟨hcw4,?_⟩
  refine aP 10 rfl (by kernel_rfl) ?_
  go_wp2_with fail
  refine(qX S4.out ⟨2,base+x.a,base+g.vars.length,0,none,0,[]⟩ w3.heap.size HG.out (qQ _ _) (by simp) hpq).mono ?_
  rintro e wA ⟨rfl,hbq,hch⟩
  have SA:=Lib.hid hbq
  have CA:=Lib.hid (mine.trans C4.out hch)
  have hcwA:=SA.out.cw CA.out
  have CA0:=Lib.hid (mine.trans C1.out CA.out)
  clear hbq hch S4 C4 HG hcw4 hcw3 hcw S2 C2 S3 C3
  go_wp2
  refine⟨hcwA,?_⟩
  refine dh (by kernel_rfl) ?_ _
  clear k0 k1 k2 k3 k6 hcwA hne
  go_wp2
  refine bodyPost_end (results_none rfl _ _ _) rfl ?_
  exact⟨rfl,by rw[HN.out];exact SA.out,CA0.out⟩
set_option maxRecDepth 100000 in
set_option maxHeartbeats 16000000 in
theorem y0V{D:BD}{P:List PC}{w w0:World}(f i:Nat)(hf:f<D.u.fs.length)(hi:i<D.u.fs[f].code.length)(k:BQ D P w w0)(o:gI D)(hex:D.ex=none)(hP:P.length<=990000)(ho:D.u.fs[f].code[i].op=14):qK D P f i w w0:=by
 show Calls _ _ _ _ _
 have S:=Lib.hid k
 have HO:=Lib.hid o
 have hfb:f<D.bs.length:=by rw[o.n];exact hf
 obtain⟨b,off,va,vc,ca,cc,he,-,-,-,-,-,-,m6,-,hins⟩:=k.f0 f hf
 have m6:=cell_below k.hb m6
 obtain⟨b2,off2,ga,gc,he2,q0,q1,q2,q3,q4,q5,q6,q7,q8,q9,-⟩:=(hins.below k.hb) i hi
 obtain⟨ba2,bo2,heb,pb⟩:=k.rd.b f hfb
 obtain⟨hb0,hb1⟩:=o.v f hfb
 have hcl:=o.cl _ (List.getElem_mem hf)
 have hvl:=o.vl _ (List.getElem_mem hf)
 have HK:=Lib.hid (o.rk _ (List.getElem_mem hf) _ (List.getElem_mem hi))
 obtain⟨⟨hd0,hd1⟩,⟨ha0,ha1⟩,hb20,hb21⟩:=o.rg _ (List.getElem_mem hf) _ (List.getElem_mem hi)
 have HII:Hid (∀(v:Nat) w1,v<D.u.fs[f].vars.length->dV D.u D.ha D.hc D.fa D.fc D.bs D.ba D.bc D.R w1->Calls Tryz.prog 38 #[.pointer (some ⟨D.R,0,none⟩),.int .i64 f,.int .i64 v] w1 (Same w1 (.bool (dA D.u.fs[f] v)))):=fun v w1 hv h=>qE D.u D.ha D.hc D.fa D.fc D.bs D.ba D.bc D.R f v hf hv w1 h
 have HRS:Hid (∀w1,dV D.u D.ha D.hc D.fa D.fc D.bs D.ba D.bc D.R w1->Calls Tryz.prog 40 #[.pointer (some ⟨D.R,0,none⟩),.int .i64 f] w1 (aj w1 (.int .i64 (D.bs[f]+D.u.fs[f].vars.length)))):=fun w1 h=>qD D.u D.ha D.hc D.fa D.fc D.bs D.ba D.bc D.R f hf hfb ⟨hb0,hb1⟩ hvl w1 h
 have HRA:Hid (∀(y:Int) (w1:World),BQ D P w w1->0<=y/\y<=2000000000->Calls Tryz.prog 41 #[.pointer (some ⟨D.R,0,none⟩),.int .i64 f,.int .i64 i,.int .i64 y] w1 (fun e w'=>e = .returned (.tuple #[])/\BQ D (P++gZ D.u D.L D.bs f i y) w w'/\aF (mine D w1) w1 w')):=fun y w1 h hy=>rZ f i y hf hi h o hex hy hP
 have HR:Hid (fq D.u D.L D.bs D.Fs D.Ff f i=jb D.u D.L D.bs D.Fs D.Ff D.u.fs[f] D.bs[f] f i D.u.fs[f].code[i]):=by
  show _=_
  unfold fq
  rw[List.getElem?_eq_getElem hf,List.getElem?_eq_getElem hfb]
  simp only
  rw[List.getElem?_eq_getElem hi]
 generalize fq D.u D.L D.bs D.Fs D.Ff f i=R at *
 generalize D.bs[f]=base at *
 clear hins k o
 generalize D.u.fs[f].code[i]=x at *
 generalize D.u.fs[f]=g at *
 subst he2
 obtain⟨z0,z1,z2,-,-,z5,-,-,-,-⟩:=S.out.cells
 rw[he]at z1
 rw[heb]at z5
 have HOP:=Lib.hid ho
 clear ho
 go_enter Tryz.func18,Tryz.ntmps18
 have BZ:Hid (ah (w0.alloc bV) w0.heap.size _ 53):=aL ..
 go_upto_region 1 with (refine kR rfl rfl _ _ rfl w0.heap.size x ga gc rfl rfl _ BZ.out rfl ?_)
 have hrow:=bP (av w0 bV) (Nat.le_refl w0.heap.size) #[.int .i64 x.op,.int .i64 x.dst,.int .i64 x.a,.int .i64 x.b,.int .i64 x.n,.string x.cls,.string x.name,.slice ga x.args.length gc,.int .i64 x.goto,.int .i64 x.aZ]
 have B1:=Lib.hid (BZ.out.setRow #[.int .i64 x.op,.int .i64 x.dst,.int .i64 x.a,.int .i64 x.b,.int .i64 x.n,.string x.cls,.string x.name,.slice ga x.args.length gc,.int .i64 x.goto,.int .i64 x.aZ])
 have S1:=Lib.hid (S.out.below hrow)
 have C1:Hid (aF (mine D w0) w0 _):=aF.of_below hrow
 have pb1:=cell_below hrow pb
 have z51:=cell_below hrow z5
 clear S hrow BZ q0 q1 q2 q3 q4 q5 q6 q7 q8 q9 m6 z0 z1 z2 z5 pb
 generalize (w0.alloc bV).setRow w0.heap.size _=W1 at *
 generalize w0.heap.size=n6 at *
 have n1:=S1.out.iW B1.out (by decide) (by decide)
 have i0:=B1.out.cell 0 (by simp)
 have i1:=B1.out.cell 1 (by simp)
 have i2:=B1.out.cell 2 (by simp)
 have i3:=B1.out.cell 3 (by simp)
 have i6:=B1.out.cell 6 (by simp)
 simp only[List.getElem_toArray,List.getElem_cons_zero,List.getElem_cons_succ]at i0 i1 i2 i3 i6
 have t6:(x.op==6)=false:=by rw[HOP.out];rfl
 have t3:(x.op==3)=false:=by rw[HOP.out];rfl
 have t7:(x.op==7)=false:=by rw[HOP.out];rfl
 have t8:(x.op==8)=false:=by rw[HOP.out];rfl
 have t13:(x.op==13)=false:=by rw[HOP.out];rfl
 have t14:(x.op==14)=true:=by rw[HOP.out];rfl
 obtain⟨a0,a1⟩:=HK.out.ra (by rw[HOP.out];simp only[bH];kernel_rfl) (by rw[HOP.out];decide)
 have HN:Hid (R=gZ D.u D.L D.bs f i (base+x.a)):=by
  show _=_
  rw[HR.out]
  unfold jb
  rw[HOP.out]
  simp
 have HX:=Lib.hid (HRA.out (base+x.a) W1 S1.out ⟨by omega,by omega⟩)
 clear HR HK HII HRS HRA
 go_wp2_with fail
 refine HX.out.mono ?_
 rintro e w2 ⟨rfl,hbq,hch⟩
 have SA:=Lib.hid hbq
 have CA:=Lib.hid (mine.trans C1.out hch)
 clear hbq hch
 go_wp2
 refine bodyPost_end (results_none rfl _ _ _) rfl ?_
 exact⟨rfl,by rw[HN.out];exact SA.out,CA.out⟩
set_option maxRecDepth 100000 in
set_option maxHeartbeats 16000000 in
theorem y0X{D:BD}{P:List PC}{w w0:World}(f i:Nat)(hf:f<D.u.fs.length)(hi:i<D.u.fs[f].code.length)(k:BQ D P w w0)(o:gI D)(hex:D.ex=none)(hP:P.length<=990000)(ho:D.u.fs[f].code[i].op≠6/\D.u.fs[f].code[i].op≠3/\D.u.fs[f].code[i].op≠7/\D.u.fs[f].code[i].op≠8/\D.u.fs[f].code[i].op≠13/\D.u.fs[f].code[i].op≠14):qK D P f i w w0:=by
 show Calls _ _ _ _ _
 have S:=Lib.hid k
 have HO:=Lib.hid o
 have hfb:f<D.bs.length:=by rw[o.n];exact hf
 obtain⟨b,off,va,vc,ca,cc,he,-,-,-,-,-,-,m6,-,hins⟩:=k.f0 f hf
 have m6:=cell_below k.hb m6
 obtain⟨b2,off2,ga,gc,he2,q0,q1,q2,q3,q4,q5,q6,q7,q8,q9,-⟩:=(hins.below k.hb) i hi
 obtain⟨ba2,bo2,heb,pb⟩:=k.rd.b f hfb
 obtain⟨hb0,hb1⟩:=o.v f hfb
 have hcl:=o.cl _ (List.getElem_mem hf)
 have hvl:=o.vl _ (List.getElem_mem hf)
 have HK:=Lib.hid (o.rk _ (List.getElem_mem hf) _ (List.getElem_mem hi))
 obtain⟨⟨hd0,hd1⟩,⟨ha0,ha1⟩,hb20,hb21⟩:=o.rg _ (List.getElem_mem hf) _ (List.getElem_mem hi)
 have HII:Hid (∀(v:Nat) w1,v<D.u.fs[f].vars.length->dV D.u D.ha D.hc D.fa D.fc D.bs D.ba D.bc D.R w1->Calls Tryz.prog 38 #[.pointer (some ⟨D.R,0,none⟩),.int .i64 f,.int .i64 v] w1 (Same w1 (.bool (dA D.u.fs[f] v)))):=fun v w1 hv h=>qE D.u D.ha D.hc D.fa D.fc D.bs D.ba D.bc D.R f v hf hv w1 h
 have HRS:Hid (∀w1,dV D.u D.ha D.hc D.fa D.fc D.bs D.ba D.bc D.R w1->Calls Tryz.prog 40 #[.pointer (some ⟨D.R,0,none⟩),.int .i64 f] w1 (aj w1 (.int .i64 (D.bs[f]+D.u.fs[f].vars.length)))):=fun w1 h=>qD D.u D.ha D.hc D.fa D.fc D.bs D.ba D.bc D.R f hf hfb ⟨hb0,hb1⟩ hvl w1 h
 have HRA:Hid (∀(y:Int) (w1:World),BQ D P w w1->0<=y/\y<=2000000000->Calls Tryz.prog 41 #[.pointer (some ⟨D.R,0,none⟩),.int .i64 f,.int .i64 i,.int .i64 y] w1 (fun e w'=>e = .returned (.tuple #[])/\BQ D (P++gZ D.u D.L D.bs f i y) w w'/\aF (mine D w1) w1 w')):=fun y w1 h hy=>rZ f i y hf hi h o hex hy hP
 have HR:Hid (fq D.u D.L D.bs D.Fs D.Ff f i=jb D.u D.L D.bs D.Fs D.Ff D.u.fs[f] D.bs[f] f i D.u.fs[f].code[i]):=by
  show _=_
  unfold fq
  rw[List.getElem?_eq_getElem hf,List.getElem?_eq_getElem hfb]
  simp only
  rw[List.getElem?_eq_getElem hi]
 generalize fq D.u D.L D.bs D.Fs D.Ff f i=R at *
 generalize D.bs[f]=base at *
 clear hins k o
 generalize D.u.fs[f].code[i]=x at *
 generalize D.u.fs[f]=g at *
 subst he2
 obtain⟨z0,z1,z2,-,-,z5,-,-,-,-⟩:=S.out.cells
 rw[he]at z1
 rw[heb]at z5
 have HOP:=Lib.hid ho
 clear ho
 go_enter Tryz.func18,Tryz.ntmps18
 have BZ:Hid (ah (w0.alloc bV) w0.heap.size _ 53):=aL ..
 go_upto_region 1 with (refine kR rfl rfl _ _ rfl w0.heap.size x ga gc rfl rfl _ BZ.out rfl ?_)
 have hrow:=bP (av w0 bV) (Nat.le_refl w0.heap.size) #[.int .i64 x.op,.int .i64 x.dst,.int .i64 x.a,.int .i64 x.b,.int .i64 x.n,.string x.cls,.string x.name,.slice ga x.args.length gc,.int .i64 x.goto,.int .i64 x.aZ]
 have B1:=Lib.hid (BZ.out.setRow #[.int .i64 x.op,.int .i64 x.dst,.int .i64 x.a,.int .i64 x.b,.int .i64 x.n,.string x.cls,.string x.name,.slice ga x.args.length gc,.int .i64 x.goto,.int .i64 x.aZ])
 have S1:=Lib.hid (S.out.below hrow)
 have C1:Hid (aF (mine D w0) w0 _):=aF.of_below hrow
 have pb1:=cell_below hrow pb
 have z51:=cell_below hrow z5
 clear S hrow BZ q0 q1 q2 q3 q4 q5 q6 q7 q8 q9 m6 z0 z1 z2 z5 pb
 generalize (w0.alloc bV).setRow w0.heap.size _=W1 at *
 generalize w0.heap.size=n6 at *
 have n1:=S1.out.iW B1.out (by decide) (by decide)
 have i0:=B1.out.cell 0 (by simp)
 have i1:=B1.out.cell 1 (by simp)
 have i2:=B1.out.cell 2 (by simp)
 have i3:=B1.out.cell 3 (by simp)
 have i6:=B1.out.cell 6 (by simp)
 simp only[List.getElem_toArray,List.getElem_cons_zero,List.getElem_cons_succ]at i0 i1 i2 i3 i6
 have t6:(x.op==6)=false:=by simpa using HOP.out.1
 have t3:(x.op==3)=false:=by simpa using HOP.out.2.1
 have t7:(x.op==7)=false:=by simpa using HOP.out.2.2.1
 have t8:(x.op==8)=false:=by simpa using HOP.out.2.2.2.1
 have t13:(x.op==13)=false:=by simpa using HOP.out.2.2.2.2.1
 have t14:(x.op==14)=false:=by simpa using HOP.out.2.2.2.2.2
 have HN:Hid (R=[]):=by
  show _=_
  rw[HR.out]
  have h:=HOP.out
  unfold jb
  rw[if_neg h.1,if_neg h.2.1,if_neg h.2.2.1,if_neg h.2.2.2.1,if_neg h.2.2.2.2.1,if_neg h.2.2.2.2.2]
 clear HR HK HII HRS HRA
 go_wp2
 refine bodyPost_end (results_none rfl _ _ _) rfl ?_
 exact⟨rfl,by rw[HN.out,List.append_nil];exact S1.out,C1.out⟩
theorem y0Y{D:BD}{P:List PC}{w w0:World}(f i:Nat)(hf:f<D.u.fs.length)(hi:i<D.u.fs[f].code.length)(k:BQ D P w w0)(o:gI D)(hex:D.ex=none)(hP:P.length<=990000):qK D P f i w w0:=by
 by_cases h6:D.u.fs[f].code[i].op=6
 ·exact y0T f i hf hi k o hex hP h6
 by_cases h3:D.u.fs[f].code[i].op=3
 ·exact y0U f i hf hi k o hex hP h3
 by_cases h7:D.u.fs[f].code[i].op=7
 ·exact y0S f i hf hi k o hex hP h7
 by_cases h8:D.u.fs[f].code[i].op=8
 ·exact y0R f i hf hi k o hex hP h8
 by_cases h13:D.u.fs[f].code[i].op=13
 ·exact y0W f i hf hi k o hex hP h13
 by_cases h14:D.u.fs[f].code[i].op=14
 ·exact y0V f i hf hi k o hex hP h14
 exact y0X f i hf hi k o hex hP ⟨h6,h3,h7,h8,h13,h14⟩
end Go.Proofs.YtjnbddedmbhiaaaGreatDoor
