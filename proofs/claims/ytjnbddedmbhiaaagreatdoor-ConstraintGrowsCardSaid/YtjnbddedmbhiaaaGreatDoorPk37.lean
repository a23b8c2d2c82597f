/-
  constraint's newBuilder.
-/
import Derived.Test.YtjnbddedmbhiaaaGreatDoorPk36
namespace Go.Proofs.YtjnbddedmbhiaaaGreatDoor
open Go.RowKit Go.ak Go.AM

def kS(L:List Sit):Nat->Int × Int->Option Int
 |0,_=>none
 |k+1,p=>match L[k]? with
  |some s=>if p=(s.f,s.i)then some (k:Int)else kS L k p
  |none=>kS L k p
theorem SY{L:List Sit}{k:Nat}(hk:k<L.length):fQ (kS L (k+1))=fun p=>if p=(L[k].f,L[k].i)then some (.int .i64 (k:Int))else fQ (kS L k) p:=by
 funext p
 unfold fQ
 show(match L[k]? with
  |some s=>if p=(s.f,s.i)then some (k:Int)else kS L k p
  |none=>kS L k p).map (Value.int .i64)=_
 rw[List.getElem?_eq_getElem hk]
 simp only
 split<;>rfl
def jR(N:List Str):Nat->Str->Option Int
 |0,_=>none
 |k+1,p=>match N[k]? with
  |some s=>if p=s then some (k:Int)else jR N k p
  |none=>jR N k p
theorem Y1{N:List Str}{k:Nat}(hk:k<N.length):fQ (jR N (k+1))=fun p=>if p=N[k]then some (.int .i64 (k:Int))else fQ (jR N k) p:=by
 funext p
 unfold fQ
 show(match N[k]? with
  |some s=>if p=s then some (k:Int)else jR N k p
  |none=>jR N k p).map (Value.int .i64)=_
 rw[List.getElem?_eq_getElem hk]
 simp only
 split<;>rfl
def iE(fs:List aA)(k:Nat):List Int:=(List.range k).map (fun j=>(gy fs j:Int))
theorem Cv(fs:List aA)(k:Nat):(iE fs k).length=k:=by simp[iE]
theorem y1H(fs:List aA)(k:Nat):iE fs (k+1)=iE fs k++[(gy fs k:Int)]:=by
 unfold iE;rw[List.range_succ,List.map_append];rfl
theorem SS{w:World}{base n d:Nat}{b:Option Addr}{l:List Sit}(h:w.ownsRow base 101 3 (.slice b n d) n (eT l)):qJ w b l:=by
 refine⟨(Lb h).2,fun b' off e hl=>?_⟩
 rcases h.2 with ⟨e2,h0⟩ | ⟨g,cap,cur,e2,hb,hh,_⟩
 ·exfalso
  have:=(DU h).1
  apply hl
  exact List.eq_nil_of_length_eq_zero (by omega)
 ·cases e2
  cases e
  exact⟨_,_,hh⟩
theorem Oo:∀(h:List ae) (m:Nat),(∀x∈h,x.fields.length<=m)->(eB h).length<=h.length*m
 |[],m,_=>by simp[eB]
 |x::h,m,hx=>by
  have ih:=Oo h m (fun y hy=>hx y (List.mem_cons_of_mem _ hy))
  have h1:=hx x (List.mem_cons_self ..)
  simp only[eB,List.flatMap_cons,List.length_append,List.length_map,List.length_cons]at ih ⊢
  rw[Nat.add_mul]
  omega
structure uH where
 R:Nat
 gs:Nat
 gf:Nat
 gi:Nat
 gr:Nat
 gt:Nat
abbrev uH.row(B:uH)(u:aQ)(ha:Option Addr)(hc:Nat)(fa:Option Addr)(fc:Nat)(L:List Sit)(sa:Option Addr)(sc:Nat)(ba:Option Addr)(bn bc:Nat):Array Value :=
 #[.slice ha u.h.length hc,.slice fa u.fs.length fc,.int .i64 u.main,.slice sa L.length sc,.map (some B.gs),.slice ba bn bc,.map (some B.gf),.map (some B.gi),.map (some B.gr),.map (some B.gt),.slice none 0 0]
structure NB(u:aQ)(ha:Option Addr)(hc:Nat)(fa:Option Addr)(fc:Nat)(L:List Sit)(sa:Option Addr)(sc:Nat)(B:uH)(Fs:Int × Int->Option Int)(Ff:Str->Option Int)(bs:List Int)(ba:Option Addr)(bc:Nat)(w wl:World):Prop where
 ub:UB u ha hc fa fc w wl
 rb:ah wl B.R (B.row u ha hc fa fc L sa sc ba bs.length bc) 81
 s:qJ wl sa L
 ob:wl.ownsRow (w.heap.size+1) 3 1 (.slice ba bs.length bc) bs.length (bs.map bT)
 ms:bI wl B.gs wC (fQ Fs)
 mf:bI wl B.gf Value.string (fQ Ff)
 mi:bI wl B.gi Value.string (fun _=>none)
 mr:bI wl B.gr Gu (fun _=>none)
 mt:bI wl B.gt Gv (fun _=>none)
 ne:(B.gs≠B.gf/\B.gs≠B.gi/\B.gs≠B.gr/\B.gs≠B.gt)/\(B.gf≠B.gi/\B.gf≠B.gr/\B.gf≠B.gt)/\(B.gi≠B.gr/\B.gi≠B.gt)/\B.gr≠B.gt
 ge:w.heap.size<B.R/\w.heap.size<B.gs/\w.heap.size<B.gf/\w.heap.size<B.gi/\w.heap.size<B.gr/\w.heap.size<B.gt
section
variable {u:aQ}{ha:Option Addr}{hc:Nat}{fa:Option Addr}{fc:Nat}{L:List Sit}{sa:Option Addr}{sc:Nat}{B:uH}{Fs Fs':Int × Int->Option Int}{Ff Ff':Str->Option Int}{bs bs':List Int}{ba ba':Option Addr}{bc bc':Nat}{w wl w' w2:World}
theorem NB.below(k:NB u ha hc fa fc L sa sc B Fs Ff bs ba bc w wl)(hb:Below wl.heap.size wl w'):NB u ha hc fa fc L sa sc B Fs Ff bs ba bc w w' :=
 ⟨k.ub.below hb,k.rb.below hb,k.s.keep fun b _cs _fr e=>hb.block b (Array.getElem?_eq_some_iff.1 e).1,gL k.ob hb,k.ms.below hb,k.mf.below hb,k.mi.below hb,k.mr.below hb,k.mt.below hb,k.ne,k.ge⟩
theorem NB.Uq(h0:ay w ha u.h)(f0:bR w fa u.fs)(k:NB u ha hc fa fc L sa sc B Fs Ff bs ba bc w wl)(hg:wl.grownBy w' (some B.gs))(hm:bI w' B.gs wC (fQ Fs')):NB u ha hc fa fc L sa sc B Fs' Ff bs ba bc w w':=by
 have n:=k.ne
 obtain⟨q,hq⟩:=k.ms
 exact⟨k.ub.grow h0 f0 hg (fun q hq=>by cases hq;exact k.ge.2.1),k.rb.grown hg (fun e=>(k.ms.yu k.rb) (by simpa using e)),k.s.keep fun b cs fr e=>hg.block b (Array.getElem?_eq_some_iff.1 e).1 (fun e2=>by cases e2;exact k.ms.cells _ _ _ e),oO k.ob hq hg,hm,k.mf.grown hg (by simp;exact fun e=>n.1.1 e.symm),k.mi.grown hg (by simp;exact fun e=>n.1.2.1 e.symm),k.mr.grown hg (by simp;exact fun e=>n.1.2.2.1 e.symm),k.mt.grown hg (by simp;exact fun e=>n.1.2.2.2 e.symm),k.ne,k.ge⟩
theorem NB.Ut(h0:ay w ha u.h)(f0:bR w fa u.fs)(k:NB u ha hc fa fc L sa sc B Fs Ff bs ba bc w wl)(hg:wl.grownBy w' (some B.gf))(hm:bI w' B.gf Value.string (fQ Ff')):NB u ha hc fa fc L sa sc B Fs Ff' bs ba bc w w':=by
 have n:=k.ne
 obtain⟨q,hq⟩:=k.mf
 exact⟨k.ub.grow h0 f0 hg (fun q hq=>by cases hq;exact k.ge.2.2.1),k.rb.grown hg (fun e=>(k.mf.yu k.rb) (by simpa using e)),k.s.keep fun b cs fr e=>hg.block b (Array.getElem?_eq_some_iff.1 e).1 (fun e2=>by cases e2;exact k.mf.cells _ _ _ e),oO k.ob hq hg,k.ms.grown hg (by simp;exact n.1.1),hm,k.mi.grown hg (by simp;exact fun e=>n.2.1.1 e.symm),k.mr.grown hg (by simp;exact fun e=>n.2.1.2.1 e.symm),k.mt.grown hg (by simp;exact fun e=>n.2.1.2.2 e.symm),k.ne,k.ge⟩
theorem NB.base(h0:ay w ha u.h)(f0:bR w fa u.fs)(k:NB u ha hc fa fc L sa sc B Fs Ff bs ba bc w wl)(own:w'.ownsRow (w.heap.size+1) 3 1 (.slice ba' bs'.length bc') bs'.length (bs'.map bT))(hg:wl.grownBy w' (Value.slice ba bs.length bc).ownBlock) :
 NB u ha hc fa fc L sa sc B Fs Ff bs' ba' bc' w (w'.setCell ⟨B.R,5,none⟩ (.slice ba' bs'.length bc')):=by
 have rb1:=k.rb.grown hg (gD k.ob k.rb (by decide))
 have hs:=vY w' B.R 5 (.slice ba' bs'.length bc')
 have hu:=k.ub.grow h0 f0 hg (fun q hq=>by have:=(k.ob.lt q hq).1;omega)
 have st1:∀{κ:Type} [DecidableEq κ] {g:Nat} {enc:κ->Value} {F:κ->Option Value},bI wl g enc F->bI (w'.setCell ⟨B.R,5,none⟩ (.slice ba' bs'.length bc')) g enc F:=fun h =>
  (h.grown hg (h.ER k.ob)).grown hs (fun e=>(h.yu k.rb) (by simpa using e.symm))
 refine⟨hu.grow h0 f0 hs (fun q hq=>by cases hq;exact k.ge.1),by simpa using rb1.set 5 (.slice ba' bs'.length bc'),?_,own.kept hs (.inr (fun e=>gD own rb1 (by decide) e.symm)),st1 k.ms,st1 k.mf,st1 k.mi,st1 k.mr,st1 k.mt,k.ne,k.ge⟩
 have s1:qJ w' sa L:=k.s.keep fun b cs fr e=>hg.block b (Array.getElem?_eq_some_iff.1 e).1 (by
  intro e2
  rcases k.ob.2 with ⟨e3,_⟩ | ⟨g',cap,cur,e3,_,hh,_⟩
  ·rw[e3]at e2;cases e2
  ·rw[e3]at e2;cases e2;rw[hh]at e;simp at e)
 exact s1.keep fun b cs fr e=>hs.block b (Array.getElem?_eq_some_iff.1 e).1 (by
  intro e2
  cases e2
  have:=rb1
  unfold ah at this
  rw[this]at e
  simp at e)
theorem NB.cells(k:NB u ha hc fa fc L sa sc B Fs Ff bs ba bc w wl):wl.cell? ⟨B.R,3,none⟩=some (.slice sa L.length sc)/\wl.cell? ⟨B.R,4,none⟩=some (.map (some B.gs))/\wl.cell? ⟨B.R,5,none⟩=some (.slice ba bs.length bc)/\wl.cell? ⟨B.R,6,none⟩=some (.map (some B.gf)) :=
 ⟨k.rb.cell 3 (by simp),k.rb.cell 4 (by simp),k.rb.cell 5 (by simp),k.rb.cell 6 (by simp)⟩
theorem NB.done(h0:ay w ha u.h)(f0:bR w fa u.fs)(k:NB u ha hc fa fc L sa sc B Fs Ff bs ba bc w wl):BQ ⟨u,ha,hc,fa,fc,L,sa,sc,bs,ba,bc,B.R,B.gs,B.gf,B.gi,B.gr,B.gt,wl.heap.size,Fs,Ff,none⟩ [] w wl:=by
 have g:=k.ge
 have n:=k.ne
 refine⟨[],none,0,⟨⟨k.ub.hb,k.rb,World.ownsRow_nil _ _ _ _,fun x hx=>(by cases hx),Nat.le_of_lt g.1⟩,h0,f0,k.s,zZ k.ob,k.ms,k.mf,⟨_,k.mi,fun c v e=>(by cases e)⟩,⟨_,k.mr,fun c v e=>(by cases e)⟩,⟨_,k.mt,fun c v e=>(by cases e)⟩,⟨n.1.2.1,n.1.2.2.1,n.1.2.2.2,n.2.1.1,n.2.1.2.1,n.2.1.2.2,n.2.2.1.1,n.2.2.1.2,n.2.2.2⟩,⟨Nat.le_of_lt g.2.2.2.1,Nat.le_of_lt g.2.2.2.2.1,Nat.le_of_lt g.2.2.2.2.2⟩,⟨k.mi.lt,k.mr.lt,k.mt.lt,Nat.le_refl _⟩,⟨k.ms.lt,k.mf.lt⟩,fun x e=>(by cases e)⟩,rfl,fun p hp=>(by cases hp)⟩
end
set_option maxRecDepth 100000 in
set_option maxHeartbeats 32000000 in
theorem VO(u:aQ)(ha:Option Addr)(hc:Nat)(fa:Option Addr)(fc:Nat)(w:World)(h:ay w ha u.h)(hf:bR w fa u.fs)(hb:mW u 150) :
 Calls Tryz.prog 15 #[bZ u ha hc fa fc] w (fun e w'=>∃D:BD,e = .returned (.pointer (some ⟨D.R,0,none⟩))/\(D.u=u/\D.L=bL u/\D.bs=iE u.fs u.fs.length/\D.Fs=kS (bL u) (bL u).length/\D.Ff=jR (dH (cZ (eB u.h))) (dH (cZ (eB u.h))).length/\D.ex=none)/\BQ D [] w w'):=by
 have U0:=Lib.hid (UB.start (hc:=hc) (fc:=fc) h hf)
 have HM:Hid (ay w ha u.h/\bR w fa u.fs):=⟨h,hf⟩
 have HS:Hid (∀w1,ay w1 ha u.h->bR w1 fa u.fs->Calls Tryz.prog 29 #[bZ u ha hc fa fc] w1 (Ic (bL u) w1)):=fun w1 h1 h2=>Kh u ha hc fa fc w1 h1 h2 hb
 have HFD:Hid (∀w1,ay w1 ha u.h->bR w1 fa u.fs->Calls Tryz.prog 9 #[bZ u ha hc fa fc] w1 (zA (dH (cZ (eB u.h))) w1)):=fun w1 h1 h2=>Zl u ha hc fa fc w1 h1 h2 (by have:=hb.nc;omega) (fun x hx=>by have:=(hb.c x hx).f;omega)
 have HSL:(bL u).length<=1000000:=by
  have h1:=zW (fs:=u.fs) (Nat.le_refl u.fs.length)
  rw[List.take_length]at h1
  have h2:=hb.t
  show(iV u.fs u.fs.length).length<=_
  omega
 have HNL:(dH (cZ (eB u.h))).length<=1000000:=by
  have h1:=Pn (cZ (eB u.h))
  rw[xH]at h1
  have h2:=Oo u.h 1000 (fun x hx=>by have:=(hb.c x hx).f;omega)
  have h3:=hb.nc
  have h4:u.h.length*1000<=12*1000:=Nat.mul_le_mul_right _ h3
  omega
 have hnf:=hb.nf
 have HVL:Hid (∀f∈u.fs,f.vars.length<=1000):=fun f hf=>by have:=(hb.f f hf).v;omega
 clear h hf hb
 generalize bL u=L at *
 generalize dH (cZ (eB u.h))=N at *
 unfold bZ at *
 go_enter Tryz.func15,Tryz.ntmps15
 go_upto_region 1 with (fail)
 generalize w.alloc _=W at *
 have k0:∀o:WB W,o.u.cell? ⟨w.heap.size,0,none⟩=some (.slice ha u.h.length hc):=fun o=>(U0.out.below o.h).cells.1
 have k1:∀o:WB W,o.u.cell? ⟨w.heap.size,1,none⟩=some (.slice fa u.fs.length fc):=fun o=>(U0.out.below o.h).cells.2.1
 have k2:∀o:WB W,o.u.cell? ⟨w.heap.size,2,none⟩=some (.int .i64 u.main):=fun o=>(U0.out.below o.h).cells.2.2
 have hne0:Nonempty (WB W):=⟨⟨W,Below.refl _ _⟩⟩
 have h0:Below W.heap.size W W.drew:=(Below.refl _ _).drew
 refine dC (fun w'=>∃o:WB W,w' = o.u) (by kernel_rfl) ?_
 change bO _ _ _ _ _ _ _ _ W.drew
 generalize W.drew=V0 at *
 refine af 0 rfl (by kernel_rfl) (fun _ _ _ _ h=>h) ⟨⟨_,h0⟩,rfl⟩ (fun K hK=>?_);go_simp;refine hK _ ?_;clear hK K
 refine af 1 rfl (by kernel_rfl) (fun _ _ _ _ h=>h) ⟨⟨_,h0⟩,rfl⟩ (fun K hK=>?_);go_simp;refine hK _ ?_;clear hK K
 clear k0 k1 k2
 have hlo:w.heap.size+1<=W.heap.size:=by
  have:=U0.out.b1
  unfold ah at this
  exact(Array.getElem?_eq_some_iff.1 this).1
 change bO _ _ _ _ _ (6+3) (oQ false (fun _=>false)) (Act.six _ 13 false undef (fun _=>false) (fun _=>undef)) V0
 refine IC _ 13 (w.heap.size+1) (fun v w1=>∃sa sc,v = .slice sa L.length sc/\qJ w1 sa L) _ 29 #[.agg #[.slice ha u.h.length hc,.slice fa u.fs.length fc,.int .i64 u.main]] ?hm rfl rfl rfl (by intro cs b e;cases e) ?h2o ?hrun ?hr ?hcall ?hC ?hlo ?hD ?hfin 6 false undef (fun _=>false) (fun _=>undef) V0 rfl ?hj
 case hm =>
  intro i hi
  rcases(show i=0∨i=1∨i=2∨i=3∨i=4 by omega)with rfl | rfl | rfl | rfl | rfl
  all_goals exact⟨_,_,rfl,rfl,rfl,rfl⟩
 case h2o=>kernel_rfl
 case hrun =>
  intro w1 _
  kernel_rfl
 case hr =>
  intro b2 b
  unfold oQ iL
  generalize b 0=c0
  generalize b 1=c1
  generalize b 2=c2
  generalize b 3=c3
  generalize b 4=c4
  cases b2<;>cases c0<;>cases c1<;>cases c2<;>cases c3<;>cases c4
  all_goals intro h
  case true.true.true.true.true.true=>exact absurd rfl h
  all_goals kernel_rfl
 case hcall =>
  rintro w1 ⟨o,rfl⟩
  refine(HS.out _ (U0.out.below o.h).h (U0.out.below o.h).f).mono ?_
  rintro e w2 ⟨hb2,sa,sc,rfl,ow2⟩
  exact⟨_,rfl,hb2,o.step hb2,sa,sc,rfl,SS ow2⟩
 case hC =>
  rintro w1 ⟨o,rfl⟩
  exact o.step (av ..)
 case hlo =>
  rintro w1 ⟨o,rfl⟩
  exact Nat.le_trans hlo o.h.size
 case hD =>
  rintro v w1 ⟨sa,sc,e,h⟩
  exact⟨sa,sc,e,h.keep fun b cs fr e=>(av w1 _).block b (Array.getElem?_eq_some_iff.1 e).1⟩
 case hj=>exact⟨⟨⟨V0,h0⟩,rfl⟩,fun e=>(by cases e),fun i hi e=>(by cases e),fun i j _ _ _ e=>(by cases e)⟩
 case hfin =>
  rintro v2 b v w1 ⟨b0,b1,b2,b3,b4⟩ ⟨⟨o,rfl⟩,jd,jm,jn⟩
  obtain⟨sa,sc,rfl,hs⟩:=jd rfl
  obtain⟨g0,e0,l0,m0⟩:=jm 0 (by omega) b0
  obtain⟨g1,e1,l1,m1⟩:=jm 1 (by omega) b1
  obtain⟨g2,e2,l2,m2⟩:=jm 2 (by omega) b2
  obtain⟨g3,e3,l3,m3⟩:=jm 3 (by omega) b3
  obtain⟨g4,e4,l4,m4⟩:=jm 4 (by omega) b4
  have n01:=jn 0 1 (by omega) (by omega) (by omega) b0 b1
  have n02:=jn 0 2 (by omega) (by omega) (by omega) b0 b2
  have n03:=jn 0 3 (by omega) (by omega) (by omega) b0 b3
  have n04:=jn 0 4 (by omega) (by omega) (by omega) b0 b4
  have n12:=jn 1 2 (by omega) (by omega) (by omega) b1 b2
  have n13:=jn 1 3 (by omega) (by omega) (by omega) b1 b3
  have n14:=jn 1 4 (by omega) (by omega) (by omega) b1 b4
  have n23:=jn 2 3 (by omega) (by omega) (by omega) b2 b3
  have n24:=jn 2 4 (by omega) (by omega) (by omega) b2 b4
  have n34:=jn 3 4 (by omega) (by omega) (by omega) b3 b4
  unfold oQ Act.six Act.pi
  rw[b0,b1,b2,b3,b4,e0,e1,e2,e3,e4]
  rw[e0,e1]at n01
  rw[e0,e2]at n02
  rw[e0,e3]at n03
  rw[e0,e4]at n04
  rw[e1,e2]at n12
  rw[e1,e3]at n13
  rw[e1,e4]at n14
  rw[e2,e3]at n23
  rw[e2,e4]at n24
  rw[e3,e4]at n34
  simp only[ne_eq,Value.map.injEq,Option.some.injEq]at n01 n02 n03 n04 n12 n13 n14 n23 n24 n34
  have HB:=Lib.hid o.h
  generalize o.u=V1 at *
  have N0:Hid (NB u ha hc fa fc L sa sc ⟨V1.heap.size,g0,g1,g2,g3,g4⟩ (kS L 0) (jR N 0) (iE u.fs 0) none 0 w (V1.alloc (.cells (uH.row ⟨V1.heap.size,g0,g1,g2,g3,g4⟩ u ha hc fa fc L sa sc none 0 0) 81))):=by
   have hob:=av V1 (.cells (uH.row ⟨V1.heap.size,g0,g1,g2,g3,g4⟩ u ha hc fa fc L sa sc none 0 0) 81)
   have hw1:w.heap.size<V1.heap.size:=Nat.lt_of_lt_of_le hlo HB.out.size
   exact⟨(U0.out.below HB.out).below hob,aL ..,hs.keep fun b cs fr e=>hob.block b (Array.getElem?_eq_some_iff.1 e).1,World.ownsRow_nil _ _ _ _,⟨0,(bC.made m0).below hob⟩,⟨0,(bC.made m1).below hob⟩,⟨0,(bC.made m2).below hob⟩,⟨0,(bC.made m3).below hob⟩,⟨0,(bC.made m4).below hob⟩,⟨⟨n01,n02,n03,n04⟩,⟨n12,n13,n14⟩,⟨n23,n24⟩,n34⟩,⟨hw1,l0,l1,l2,l3,l4⟩⟩
  have HCL:Hid (∃o:WB W,V1=o.u):=⟨⟨V1,HB.out⟩,rfl⟩
  have HCL2:Hid (∃o:WB W,V1.alloc (.cells (uH.row ⟨V1.heap.size,g0,g1,g2,g3,g4⟩ u ha hc fa fc L sa sc none 0 0) 81)=o.u):=⟨⟨_,HB.out.trans ((av ..).mono HB.out.size)⟩,rfl⟩
  clear jm jn hs m0 m1 m2 m3 m4 n01 n02 n03 n04 n12 n13 n14 n23 n24 n34 l0 l1 l2 l3 l4 e0 e1 e2 e3 e4 b0 b1 b2 b3 b4 HS
  simp only[if_true]
  refine aP (fuel:=2) 8 rfl (by kernel_rfl) ?_
  go_wp2
  refine⟨HCL.out,?_⟩
  refine aP 9 rfl (by kernel_rfl) ?_
  go_wp2
  refine⟨HCL2.out,?_⟩
  refine aP 10 rfl (by kernel_rfl) ?_
  go_wp2
  refine⟨HCL2.out,?_⟩
  refine dh (by kernel_rfl) ?_ _
  clear HCL HCL2 hlo U0 h0 hne0 HB
  generalize V1.alloc _=V2 at *
  generalize V1.heap.size=R at *
  obtain⟨z3,-,-,-⟩:=N0.out.cells
  go_wp2
  clear z3
  go_loopw[26] (fun v wl=>∃k:Nat,k<=L.length/\v = .int .i64 k/\Hid (NB u ha hc fa fc L sa sc ⟨R,g0,g1,g2,g3,g4⟩ (kS L k) (jR N 0) (iE u.fs 0) none 0 w wl)) (fun v _=>L.length-(intOf v).toNat)
  case atStart=>exact⟨0,Nat.zero_le _,rfl,N0.out⟩
  case round =>
   clear N0
   obtain⟨k,hk,rfl,S⟩:=hrel
   by_cases hlt:k<L.length
   case pos =>
    have HST:=Lib.hid (SY hlt)
    obtain⟨b,off,he,c0,c1,c2⟩:=S.out.s.1 k hlt
    subst he
    generalize L[k]=x at *
    have BZ:Hid (ah (wr.alloc (.cells #[.int .i64 0,.int .i64 0,.string ⟨#[]⟩] 101)) wr.heap.size _ 101):=aL ..
    go_upto_region 5 with (refine JU rfl _ _ rfl wr.heap.size x.f x.i x.c rfl rfl _ BZ.out rfl ?_)
    have hrow:=bP (av wr (.cells #[.int .i64 0,.int .i64 0,.string ⟨#[]⟩] 101)) (Nat.le_refl wr.heap.size) #[.int .i64 x.f,.int .i64 x.i,.string x.c]
    have B2:=Lib.hid (BZ.out.setRow #[.int .i64 x.f,.int .i64 x.i,.string x.c])
    have S2:=Lib.hid (S.out.below hrow)
    clear S BZ hrow c0 c1 c2
    generalize (wr.alloc _).setRow wr.heap.size _=W2 at *
    generalize wr.heap.size=n5 at *
    obtain⟨z3,z4,-,-⟩:=S2.out.cells
    have y0:=B2.out.cell 0 (by simp)
    have y1:=B2.out.cell 1 (by simp)
    simp only[List.getElem_toArray,List.getElem_cons_zero,List.getElem_cons_succ]at y0 y1
    have k4:∀o:WB W2,o.u.cell? ⟨R,4,none⟩=some (.map (some g0)):=fun o=>cell_below o.h z4
    have q0:∀o:WB W2,o.u.cell? ⟨n5,0,none⟩=some (.int .i64 x.f):=fun o=>cell_below o.h y0
    have q1:∀o:WB W2,o.u.cell? ⟨n5,1,none⟩=some (.int .i64 x.i):=fun o=>cell_below o.h y1
    have hq0:Below W2.heap.size W2 W2.drew:=(Below.refl _ _).drew
    have hne:Nonempty (WB W2):=⟨⟨W2,Below.refl _ _⟩⟩
    clear z3 z4 y0 y1
    refine QT (fun w'=>∃o:WB W2,w' = o.u) 10 (by kernel_rfl) ?_
    change iT _ _ _ _ _ _ _ _ _ W2.drew
    have S3:=Lib.hid (S2.out.below hq0)
    generalize W2.drew=V5 at *
    refine oK 0 rfl (by kernel_rfl) (by kernel_rfl) (fun _ _ _ _ h=>h) ⟨⟨_,hq0⟩,rfl⟩ (fun K hK=>?_);go_simp;refine hK _ ?_;clear hK K
    refine oK 1 rfl (by kernel_rfl) (by kernel_rfl) (fun _ _ _ _ h=>h) ⟨⟨_,hq0⟩,rfl⟩ (fun K hK=>?_);go_simp;refine hK _ ?_;clear hK K
    refine oK 2 rfl (by kernel_rfl) (by kernel_rfl) (fun _ _ _ _ h=>h) ⟨⟨_,hq0⟩,rfl⟩ (fun K hK=>?_);go_simp;refine hK _ ?_;clear hK K
    refine oK 3 rfl (by kernel_rfl) (by kernel_rfl) (fun _ _ _ _ h=>h) ⟨⟨_,hq0⟩,rfl⟩ (fun K hK=>?_);go_simp;refine hK _ ?_;clear hK K
    refine oK 4 rfl (by kernel_rfl) (by kernel_rfl) (fun _ _ _ _ h=>h) ⟨⟨_,hq0⟩,rfl⟩ (fun K hK=>?_);go_simp;refine hK _ ?_;clear hK K
    refine oK 5 rfl (by kernel_rfl) (by kernel_rfl) (fun _ _ _ _ h=>h) ⟨⟨_,hq0⟩,rfl⟩ (fun K hK=>?_);go_simp;refine hK _ ?_;clear hK K
    refine oK 6 rfl (by kernel_rfl) (by kernel_rfl) (fun _ _ _ _ h=>h) ⟨⟨_,hq0⟩,rfl⟩ (fun K hK=>?_);go_simp;refine hK _ ?_;clear hK K
    refine oK 7 rfl (by kernel_rfl) (by kernel_rfl) (fun _ _ _ _ h=>h) ⟨⟨_,hq0⟩,rfl⟩ (fun K hK=>?_);go_simp;refine hK _ ?_;clear hK K
    refine oK 8 rfl (by kernel_rfl) (by kernel_rfl) (fun _ _ _ _ h=>h) ⟨⟨_,hq0⟩,rfl⟩ (fun K hK=>?_);go_simp;refine hK _ ?_;clear hK K
    refine oK 9 rfl (by kernel_rfl) (by kernel_rfl) (fun _ _ _ _ h=>h) ⟨⟨_,hq0⟩,rfl⟩ (fun K hK=>?_);go_simp;refine hK _ ?_;clear hK K
    obtain⟨nq,hmq⟩:=S3.out.ms
    have HMQ:=Lib.hid hmq
    clear hmq k4 q0 q1
    refine QZ rfl (by kernel_rfl) ?_
    refine jW rfl _ _ _ _ rfl Nj Js g0 rfl HMQ.out (x.f,x.i) rfl (.int .i64 (k:Int)) rfl ?_
    intro w6 hm6 hg6 hs6
    rw[<-HST.out]at hm6
    have S4:=Lib.hid (S3.out.Uq HM.out.1 HM.out.2 hg6 ⟨_,hm6⟩)
    clear hm6 hg6 hs6 HMQ S3 S2 B2 HST
    go_wp2
    refine Q0 (by kernel_rfl) ?_ _
    clear hq0 hne
    go_wp2
    go_roundw
    case rel=>exact⟨k+1,by omega,by go_num,S4.out⟩
    case measure=>simp[intOf];omega
   case neg =>
    have hkl:k=L.length:=by omega
    subst hkl
    obtain⟨z0,z1,z2⟩:=S.out.ub.cells
    go_wp2
    obtain⟨wo,rfl⟩:∃wo,wo=wr:=⟨_,rfl⟩
    clear z0 z1 z2
    go_loopw[6,45] (fun n v wl=>∃(k:Nat) (ba:Option Addr) (bc:Nat),k<=u.fs.length/\n = .int .i64 (gy u.fs k:Nat)/\v = .int .i64 k/\Hid (NB u ha hc fa fc L sa sc ⟨R,g0,g1,g2,g3,g4⟩ (kS L L.length) (jR N 0) (iE u.fs k) ba bc w wl)) (fun _ v _=>u.fs.length-(intOf v).toNat)
    case atStart=>exact⟨0,none,0,Nat.zero_le _,rfl,rfl,S.out⟩
    case round =>
     clear S
     obtain⟨k,ba,bc,hk,rfl,rfl,S⟩:=hrel
     by_cases hlt:k<u.fs.length
     case pos =>
      have HBN:=Lib.hid (Ht hlt)
      have hbl:gy u.fs k<=k*1002:=Cu HVL.out hk
      have hvl:=HVL.out _ (List.getElem_mem hlt)
      have HBL:=Lib.hid (y1H u.fs k)
      have hb8:(iE u.fs k).length<=1000000:=by rw[Cv];omega
      obtain⟨b,off,va,vc,ca,cc,he,m0,m1,m2,m3,m4,m5,m6,-,-⟩:=S.out.ub.f k hlt
      subst he
      generalize u.fs[k]=f at *
      have BZ:Hid (ah (wr.alloc jE) wr.heap.size _ 51):=aL ..
      go_upto_region 11 with (refine xD rfl rfl _ _ rfl wr.heap.size f va vc ca cc rfl rfl _ BZ.out rfl ?_)
      have hrow:=bP (av wr jE) (Nat.le_refl wr.heap.size) #[.string f.cls,.string f.name,.bool f.stat,.int .i64 f.params,.slice va f.vars.length vc,.string f.result,.slice ca f.code.length cc]
      have B2:=Lib.hid (BZ.out.setRow #[.string f.cls,.string f.name,.bool f.stat,.int .i64 f.params,.slice va f.vars.length vc,.string f.result,.slice ca f.code.length cc])
      have S2:=Lib.hid (S.out.below hrow)
      clear S BZ hrow m0 m1 m2 m3 m4 m5 m6
      generalize (wr.alloc jE).setRow wr.heap.size _=W2 at *
      generalize wr.heap.size=n5 at *
      generalize hB9:gy u.fs (k+1)=n9 at *
      generalize gy u.fs k=n8 at *
      generalize hL9:iE u.fs (k+1)=bs9 at *
      generalize iE u.fs k=bs8 at *
      have HB9:=Lib.hid hB9
      have HL9:=Lib.hid hL9
      clear hB9 hL9
      obtain⟨-,-,z5,-⟩:=S2.out.cells
      have S3:=Lib.hid (S2.out.below (av W2 (.cells #[.int .i64 (n8:Nat)] 3)))
      have B3:=Lib.hid (B2.out.below (av W2 (.cells #[.int .i64 (n8:Nat)] 3)))
      have hbs:w.heap.size+1<=(W2.alloc (.cells #[.int .i64 (n8:Nat)] 3)).heap.size:=by
       have:=S3.out.ub.b1
       unfold ah at this
       exact(Array.getElem?_eq_some_iff.1 this).1
      go_upto_region 12 with ((at_builtin;refine uE rfl _ _ rfl (w.heap.size+1) _ bs8 rfl S3.out.ob _ 1 [((n8:Nat):Int)] rfl (tZ _ _) hb8 (by simp) hbs ?_;intro v7 W7 own7 hg7;obtain⟨-,oa7,oc7,rfl,-,-⟩:=jK own7;have R7:=S3.out.rb.grown hg7 (gD S3.out.ob S3.out.rb (by decide));have q1:=R7.cell 5 (by simp);have q2:=R7.free 5;simp only[List.getElem_toArray,List.getElem_cons_zero,List.getElem_cons_succ]at q1))
      have S5:=Lib.hid (S3.out.base HM.out.1 HM.out.2 own7 hg7)
      rw[<-HBL.out]at S5
      have hn9:n9=n8+(f.vars.length+2):=HBN.out
      have B7:=B3.out.grown hg7 (gD S3.out.ob B3.out (by decide))
      have B8:=Lib.hid (B7.grown (vY W7 R 5 (.slice oa7 bs9.length oc7)) (Hg B7 R7 (by decide)))
      have y4:=B8.out.cell 4 (by simp)
      simp only[List.getElem_toArray,List.getElem_cons_zero,List.getElem_cons_succ]at y4
      have hl9:bs9.length=bs8.length+1:=by rw[HBL.out];simp
      rw[hl9]at S5 y4
      have HN9:=Lib.hid hn9
      clear hl9 hn9 B7 B8 B3 B2 S2 S3 own7 hg7 R7 q1 q2 z5 hbs
      generalize W7.setCell _ _=W8 at *
      go_wp2
      go_roundw
      case rel=>exact⟨k+1,oa7,oc7,by omega,by rw[HB9.out,HN9.out];go_num,by go_num,by rw[HL9.out];exact S5.out⟩
      case measure=>simp[intOf];omega
     case neg =>
      have hkl:k=u.fs.length:=by omega
      subst hkl
      have HFX:=Lib.hid (HFD.out _ S.out.ub.h S.out.ub.f)
      obtain⟨z0,z1,z2⟩:=S.out.ub.cells
      go_wp2_with fail
      refine HFX.out.mono ?_
      rintro e w3 ⟨hb3,na,nc,rfl,own3⟩
      have S3:=Lib.hid (S.out.below hb3)
      have NS:=Lib.hid (vC own3).2
      clear hb3 own3 S HFX z0 z1 z2
      go_wp2
      clear HFD
      obtain⟨wo2,rfl⟩:∃wo,wo=w3:=⟨_,rfl⟩
      go_loopw[69] (fun v wl=>∃k:Nat,k<=N.length/\v = .int .i64 k/\Hid (NB u ha hc fa fc L sa sc ⟨R,g0,g1,g2,g3,g4⟩ (kS L L.length) (jR N k) (iE u.fs u.fs.length) ba bc w wl)/\Hid (bF wl na N)) (fun v _=>N.length-(intOf v).toNat)
      case atStart=>exact⟨0,Nat.zero_le _,rfl,S3.out,NS.out⟩
      case round =>
       clear S3 NS
       obtain⟨k,hk,rfl,S,NS⟩:=hrel
       by_cases hlt:k<N.length
       case pos =>
        have HST:=Lib.hid (Y1 hlt)
        obtain⟨b,off,he,c0⟩:=NS.out k hlt
        subst he
        obtain⟨nq,hmq⟩:=S.out.mf
        have HMQ:=Lib.hid hmq
        clear hmq
        generalize N[k]=x at *
        obtain⟨-,-,-,z6⟩:=S.out.cells
        go_wp2_with (at_mapUpdate;refine jW rfl _ _ _ _ rfl iy pO g1 rfl HMQ.out x rfl (.int .i64 (k:Int)) rfl ?_;intro w6 hm6 hg6 hs6)
        rw[<-HST.out]at hm6
        have NS4:=Lib.hid (JR NS.out S.out.mf hg6)
        have S4:=Lib.hid (S.out.Ut HM.out.1 HM.out.2 hg6 ⟨_,hm6⟩)
        go_roundw
        case rel=>exact⟨k+1,by omega,by go_num,S4.out,NS4.out⟩
        case measure=>simp[intOf];omega
       case neg =>
        have hkl:k=N.length:=by omega
        subst hkl
        have HQ:=Lib.hid (S.out.done HM.out.1 HM.out.2)
        go_wp2
        go_ret
        exact⟨_,rfl,⟨rfl,rfl,rfl,rfl,rfl,rfl⟩,HQ.out⟩
end Go.Proofs.YtjnbddedmbhiaaaGreatDoor
