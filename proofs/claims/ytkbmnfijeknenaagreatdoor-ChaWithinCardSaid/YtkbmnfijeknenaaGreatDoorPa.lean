/-
  The program's rapid type analysis. (Printed by pre.py.)
-/
import Derived.Test.YtkbmnfijeknenaaGreatDoorPD
import Derived.Test.YtkbmnfijeknenaaGreatDoorHX
namespace Go.Proofs.YtkbmnfijeknenaaGreatDoor
open Go.RowKit Go.Unit0 Go.AM

theorem makeNone (t:TypeId) (w:World):(Instr.makeMap t none).run Tryz.prog w = .ok (.map (some w.heap.size)) (w.alloc (.map #[] 0)):=by
 simp [Instr.makeMap,newObj,Sem.run]
structure VL (u:Unt) (ha:Option Addr) (hc:Nat) (fa:Option Addr) (fc:Nat) (b:RB) (ig:Str × Str→Nat) (st:RpS) (ed:Cal→Prop) (oa:Option Addr) (oc:Nat) (rv nv:Nat) (Fv:Int × Int→Option Value) (left:List ((Int × Int) × Value)) (w wr:World):Prop where
 rm:RM u ha hc fa fc b ig (st.edg ed) oa oc w wr
 it:IterF wr rv b.gv encP Fv nv left
 lo:w.heap.size≤rv
theorem VL.below {u:Unt} {ha:Option Addr} {hc:Nat} {fa:Option Addr} {fc:Nat} {b:RB} {ig:Str × Str→Nat} {st:RpS} {ed:Cal→Prop} {oa:Option Addr} {oc:Nat} {rv nv:Nat} {Fv:Int × Int→Option Value} {left:List ((Int × Int) × Value)} {w wr w':World} (k:VL u ha hc fa fc b ig st ed oa oc rv nv Fv left w wr) (hb:Below wr.heap.size wr w'):VL u ha hc fa fc b ig st ed oa oc rv nv Fv left w w' :=
 ⟨k.rm.below hb,k.it.below hb,k.lo⟩
structure VI (u:Unt) (ha:Option Addr) (hc:Nat) (fa:Option Addr) (fc:Nat) (b:RB) (ig:Str × Str→Nat) (st:RpS) (ed:Cal→Prop) (oa:Option Addr) (oc:Nat) (rv nv:Nat) (Fv:Int × Int→Option Value) (left:List ((Int × Int) × Value)) (gp:Nat) (p:Int × Int) (m:Str × Str) (L:List Int) (ri ni:Nat) (li:List (Int × Value)) (w wr:World):Prop where
 vl:VL u ha hc fa fc b ig st ed oa oc rv nv Fv left w wr
 bp:Blk wr gp #[.int .i64 p.1,.int .i64 p.2] 123
 ii:IterF wr ri (ig m) (Value.int .i64) (setF L) ni li
 lt:rv < ri
theorem VI.below {u:Unt} {ha:Option Addr} {hc:Nat} {fa:Option Addr} {fc:Nat} {b:RB} {ig:Str × Str→Nat} {st:RpS} {ed:Cal→Prop} {oa:Option Addr} {oc:Nat} {rv nv:Nat} {Fv:Int × Int→Option Value} {left:List ((Int × Int) × Value)} {gp:Nat} {p:Int × Int} {m:Str × Str} {L:List Int} {ri ni:Nat} {li:List (Int × Value)} {w wr w':World} (k:VI u ha hc fa fc b ig st ed oa oc rv nv Fv left gp p m L ri ni li w wr) (hb:Below wr.heap.size wr w'):VI u ha hc fa fc b ig st ed oa oc rv nv Fv left gp p m L ri ni li w w' :=
 ⟨k.vl.below hb,k.bp.below hb,k.ii.below hb,k.lt⟩
theorem RM.other {u:Unt} {ha:Option Addr} {hc:Nat} {fa:Option Addr} {fc:Nat} {b:RB} {ig:Str × Str→Nat} {st:RpS} {oa:Option Addr} {oc:Nat} {w wr w':World} (k:RM u ha hc fa fc b ig st oa oc w wr) {e s n:Nat} {v:Value} {xs:List Value} (o:wr.ownsRow w.heap.size e s v n xs) (h1:119 ≠ e) (h2:3 ≠ e) (hg:wr.grownBy w' v.ownBlock):RM u ha hc fa fc b ig st oa oc w w':=by
 obtain ⟨E,e1,e2⟩:=k.me
 have hne:∀ {κ':Type} [DecidableEq κ'] {g':Nat} {enc':κ'→Value} {F':κ'→Option Value},MapE wr g' enc' F'→MapE w' g' enc' F':=fun ⟨n',h⟩=>⟨n',h.grown hg (owns_mapF o h)⟩
 exact ⟨k.hb.grown hg k.hb.size (fun q hq=>(o.lt q hq).1),k.rb.grown hg (owns_ne o k.rb h1),k.mr.grown hg (owns_mapF o k.mr),hne k.mc,hne k.mt,hne k.mv,⟨E,hne e1,e2⟩,fun m L e=>hne (k.mi m L e),owns_kept2 k.ow o h2 hg,k.od,k.ih,k.ij⟩
structure EL (u:Unt) (ha:Option Addr) (hc:Nat) (fa:Option Addr) (fc:Nat) (b:RB) (ig:Str × Str→Nat) (st:RpS) (oa:Option Addr) (oc:Nat) (re ne:Nat) (F:Cky→Option Value) (left:List (Cky × Value)) (l:List Cal) (ea:Option Addr) (ec:Nat) (w wr:World):Prop where
 rm:RM u ha hc fa fc b ig st oa oc w wr
 it:IterF wr re b.ge encK F ne left
 ow:wr.ownsRow w.heap.size 51 3 (.slice ea l.length ec) l.length (flatC l)
 lo:w.heap.size≤re
theorem EL.below {u:Unt} {ha:Option Addr} {hc:Nat} {fa:Option Addr} {fc:Nat} {b:RB} {ig:Str × Str→Nat} {st:RpS} {oa:Option Addr} {oc:Nat} {re ne:Nat} {F:Cky→Option Value} {left:List (Cky × Value)} {l:List Cal} {ea:Option Addr} {ec:Nat} {w wr w':World} (k:EL u ha hc fa fc b ig st oa oc re ne F left l ea ec w wr) (hb:Below wr.heap.size wr w'):EL u ha hc fa fc b ig st oa oc re ne F left l ea ec w w' :=
 ⟨k.rm.below hb,k.it.below hb,owns_below k.ow hb,k.lo⟩
theorem ve_at {st:RpS} {p:Int × Int} {m:Str × Str} {L:List Int} (h1:st.vt p=some m) (h2:st.tg m=some L) {e:Cal} (he:(e.f,e.i)=p):VE st e ↔ e.c ∈ L:=by
 constructor
 ·rintro ⟨m',L',k1,k2,k3⟩
  rw [he,h1] at k1
  cases k1
  rw [h2] at k2
  cases k2
  exact k3
 ·intro k
  exact ⟨m,L,by rw [he];exact h1,h2,k⟩
set_option maxRecDepth 100000 in
set_option maxHeartbeats 16000000 in
theorem rapidP (u:Unt) (ha:Option Addr) (hc:Nat) (fa:Option Addr) (fc:Nat) (w:World) (h:ClssAt w ha u.h) (hf:FncsAt w fa u.fs) (hb:FitOk u 150) :
 Calls Tryz.prog 23 #[unV u ha hc fa fc] w (RapPost u w):=by
 have hbd:=fitOk_bnd hb (by omega)
 have hl:u.fs.length≤1000:=by have:=hb.nf;omega
 have HRE:Hid (∀ (b:RB) (ig:Str × Str→Nat) (st':RpS) (oa':Option Addr) (oc':Nat) (W w1:World) (f:Int),RM u ha hc fa fc b ig st' oa' oc' W w1→st'.T.length≤1000→Calls Tryz.prog 61 #[.pointer (some ⟨b.R,0,none⟩),.int .i64 f] w1 (RPost u ha hc fa fc b ig (st'.push u.fs.length f) (chR b (.slice oa' st'.T.length oc')) (.slice oa' st'.T.length oc') W w1)):=fun b ig st' oa' oc' W w1 f k1 h1=>reachRP f k1 hl h1
 have HIN:Hid (∀ (b:RB) (ig:Str × Str→Nat) (st':RpS) (oa':Option Addr) (oc':Nat) (w1:World) (f q:Int) (x:Ins) (ga:Option Addr) (gc:Nat),RM u ha hc fa fc b ig st' oa' oc' (w.alloc (unC u ha hc fa fc)) w1→RInv u f q (fun _ _=>True) st'→InsAt u.fs f q x→Calls Tryz.prog 62 #[.pointer (some ⟨b.R,0,none⟩),.agg #[.int .i64 f,.int .i64 q],inV x ga gc] w1 (IPostR u ha hc fa fc b st' f q (w.alloc (unC u ha hc fa fc)))):=fun b ig st' oa' oc' w1 f q x ga gc k1 iv hi=>instrP f q x ga gc k1 iv hi (h.below (one_below ..)) (hf.below (one_below ..)) hbd hl
 have HFU:Hid (∀ (F:Int→Option Value) (g m:Nat) (w1:World),MapF w1 g (Value.int .i64) F m→m≤1000000→Calls Tryz.prog 51 #[.map (some g)] w1 (SetPost (fun x=>0≤x∧(F x).isSome=true) w1)):=fun F g m w1 h1 h2=>functionsP F g m w1 h1 h2
 have HCB:Hid (∀ x ∈ u.fs,x.code.length≤150):=fun x hx=>(hb.f x hx).c
 have HKL:Hid (sumC u.fs * u.fs.length≤1000000):=by
  have:=Nat.mul_le_mul hb.t hb.nf
  show _≤_
  omega
 have HM:Hid (ClssAt w ha u.h∧FncsAt w fa u.fs):=⟨h,hf⟩
 have HBW:Hid (Below w.heap.size w (w.alloc (unC u ha hc fa fc))):=one_below ..
 have HUB:Hid (∀ (b:RB) (ig:Str × Str→Nat) (st:RpS) (oa:Option Addr) (oc:Nat) (wr:World),RM u ha hc fa fc b ig st oa oc (w.alloc (unC u ha hc fa fc)) wr→UB u ha hc fa fc w wr):=fun b ig st oa oc wr k=>k.unit h hf
 have S00:=Lib.hid (UB.start (hc:=hc) (fc:=fc) h hf)
 have R00:=Lib.hid (RM.init u ha hc fa fc (w.alloc (unC u ha hc fa fc)))
 have HSL:Hid (∀ (f q:Int) (X:Str × Str→Str→Prop) (st':RpS),RInv u f q X st'→st'.T.length≤u.fs.length∧st'.S.length≤u.fs.length):=fun f q X st' k=>⟨k.tlen,k.slen⟩
 clear h hf hb hbd
 unfold unV inV at *
 go_enter Tryz.func23,Tryz.ntmps23
 go_upto_region 1 with (fail)
 generalize w.alloc _=W at *
 obtain ⟨z0,z1,z2⟩:=S00.out.cells
 have mk1:=makeNone 95
 have mk2:=makeNone 114
 have mk3:=makeNone 115
 have mk4:=makeNone 116
 have mk5:=makeNone 117
 go_upto_region 2 with (fail)
 clear mk1 mk2 mk3 mk4 mk5 z0 z1 z2 S00
 obtain ⟨b,hbq⟩:∃ b:RB,b=⟨W.heap.size + 5,W.heap.size,W.heap.size + 1,W.heap.size + 2,W.heap.size + 3,W.heap.size + 4⟩:=⟨_,rfl⟩
 have hbR:W.heap.size + 5=b.R:=by rw [hbq]
 rw [← hbq] at R00
 try rw [hbR]
 clear hbR hbq
 generalize (((((W.alloc _).alloc _).alloc _).alloc _).alloc _).alloc _=W1 at *
 obtain ⟨z0,z1,z2⟩:=(HUB.out _ _ _ _ _ _ R00.out).cells
 go_wp2_with fail
 refine (HRE.out _ _ _ _ _ _ _ u.main R00.out (by show 0≤_;omega)).mono ?_
 rintro e w2 ⟨rfl,oa0,oc0,R2q,-,-⟩
 have INV0:Hid (RInv u (-1) 0 (fun _ _=>True) (RpS.none.push u.fs.length u.main)):=RInv.start u
 have R2:=Lib.hid R2q
 clear R00 z0 z1 z2 R2q
 generalize RpS.none.push u.fs.length u.main=st0 at *
 generalize hig0:(fun _:Str × Str=>(0:Nat))=ig0 at *
 clear hig0
 go_wp2
 go_loopw [] (fun wr=>∃ (ig:Str × Str→Nat) (st:RpS) (oa:Option Addr) (oc:Nat),Hid (RM u ha hc fa fc b ig st oa oc W wr)∧Hid (RInv u (-1) 0 (fun _ _=>True) st)) (fun wr=>2 * (u.fs.length - mapN wr b.gr) + todoN wr b.R)
 case atStart=>exact ⟨ig0,st0,oa0,oc0,R2.out,INV0.out⟩
 case round =>
  clear R2 INV0 oa0 oc0
  obtain ⟨ig,st,oa,oc,R,IV⟩:=hrel
  have hcn:=R.out.count IV.out
  have htd:=R.out.todo
  obtain ⟨htl,hsl⟩:=HSL.out _ _ _ _ IV.out
  obtain ⟨y0,y1,y2,y3,y4,y5,y6,y7,y8⟩:=R.out.cells
  by_cases hT:0 < st.T.length
  case pos =>
   have t1:decide ((0:Int) < (st.T.length:Int))=true:=decide_eq_true (by omega)
   obtain ⟨T,x,hTe⟩:=last_of hT
   have hxs:=IV.out.rs x (IV.out.ts x (by rw [hTe];simp))
   obtain ⟨fN,rfl⟩:∃ fN:Nat,x=fN:=⟨x.toNat,by have:=hxs.lt;omega⟩
   have hfn:fN < u.fs.length:=by have:=hxs.lt;omega
   have hTl:st.T.length=T.length + 1:=by rw [hTe];simp
   have INP:=Lib.hid (IV.out.pop (by omega) hTe)
   have hoI:=owns_ints' R.out.ow
   have hcap:=hoI.1
   obtain ⟨bT,oT,he,cx⟩:=hoI.2 T.length (by omega)
   subst he
   have cx2:wr.cell? ⟨bT,oT + T.length,none⟩=some (.int .i64 fN):=by
    rw [cx]
    have:st.T[T.length]'(by omega)=(fN:Int):=by simp [hTe]
    rw [this]
   have OT:Hid (wr.ownsRow W.heap.size 3 1 (.slice (some ⟨bT,oT,none⟩) T.length oc) T.length (T.map intV)):=by
    have:=owns_take R.out.ow (m:=T.length) (by omega) (by simp)
    rw [hTe,List.map_append,List.take_left' (by simp)] at this
    exact this
   rw [hTl] at y4 hcap t1
   have HTE:=Lib.hid hTe
   clear hoI cx hT hxs hTe
   have k0:∀ o:WB wr,o.u.cell? ⟨b.R,4,none⟩=some (.slice (some ⟨bT,oT,none⟩) (T.length + 1) oc):=fun o=>cell_below o.h y4
   have k1:∀ o:WB wr,o.u.cell? ⟨bT,oT + T.length,none⟩=some (.int .i64 fN):=fun o=>cell_below o.h cx2
   have hne:Nonempty (WB wr):=⟨⟨wr,Below.refl _ _⟩⟩
   go_upto_region 4 with (fail)
   clear y0 y1 y2 y3 y4 y5 y6 y7 y8 cx2 t1
   refine wp_region_WB wr (by kernel_rfl) ?_
   repeat (go_big_quiet_step (fail))
   refine wpQuiet_nil ?_
   intro _ hw'
   obtain ⟨o,rfl⟩:=hw'
   have R3:=Lib.hid (R.out.below o.h)
   have OT3:=Lib.hid (owns_below OT.out o.h)
   clear k0 k1 R OT hne
   generalize o.u=w3 at *
   go_upto_region 5 with (fail)
   have y4:=R3.out.cells.2.2.2.2.1
   rw [hTl] at y4
   have k0:∀ o:WB w3,o.u.cell? ⟨b.R,4,none⟩=some (.slice (some ⟨bT,oT,none⟩) (T.length + 1) oc):=fun o=>cell_below o.h y4
   have hne:Nonempty (WB w3):=⟨⟨w3,Below.refl _ _⟩⟩
   have h0:Below w3.heap.size w3 w3.drew:=(Below.refl _ _).drew
   have R4:=Lib.hid (R3.out.below h0)
   have OT4:=Lib.hid (owns_below OT3.out h0)
   clear y4
   have hwr:IntKind.i64.wrap (T.length:Int)=(T.length:Int):=IntWalk.i64_in _ (by omega)
   have hc1:(0:Int)≤(T.length:Int):=by omega
   have hc2:(T.length:Int)≤(oc:Int):=by omega
   refine wp_region_Z (fun w'=>∃ o:WB w3,w' = o.u) 14 (by kernel_rfl) ?_
   change wpAnyZ _ _ _ _ _ _ _ _ _ w3.drew
   generalize w3.drew=V1 at *
   refine wpAnyZ_take 0 rfl (by kernel_rfl) (by kernel_rfl) (fun _ _ _ _ h=>h) ⟨⟨_,h0⟩,rfl⟩ (fun K hK=>?_);go_simp;refine hK _ ?_;clear hK K
   refine wpAnyZ_take 1 rfl (by kernel_rfl) (by kernel_rfl) (fun _ _ _ _ h=>h) ⟨⟨_,h0⟩,rfl⟩ (fun K hK=>?_);go_simp;refine hK _ ?_;clear hK K
   refine wpAnyZ_take 2 rfl (by kernel_rfl) (by kernel_rfl) (fun _ _ _ _ h=>h) ⟨⟨_,h0⟩,rfl⟩ (fun K hK=>?_);go_simp;refine hK _ ?_;clear hK K
   refine wpAnyZ_take 3 rfl (by kernel_rfl) (by kernel_rfl) (fun _ _ _ _ h=>h) ⟨⟨_,h0⟩,rfl⟩ (fun K hK=>?_);go_simp;refine hK _ ?_;clear hK K
   refine wpAnyZ_take 4 rfl (by kernel_rfl) (by kernel_rfl) (fun _ _ _ _ h=>h) ⟨⟨_,h0⟩,rfl⟩ (fun K hK=>?_);go_simp;refine hK _ ?_;clear hK K
   refine wpAnyZ_take 5 rfl (by kernel_rfl) (by kernel_rfl) (fun _ _ _ _ h=>h) ⟨⟨_,h0⟩,rfl⟩ (fun K hK=>?_);go_simp;refine hK _ ?_;clear hK K
   refine wpAnyZ_take 6 rfl (by kernel_rfl) (by kernel_rfl) (fun _ _ _ _ h=>h) ⟨⟨_,h0⟩,rfl⟩ (fun K hK=>?_);go_simp;refine hK _ ?_;clear hK K
   refine wpAnyZ_take 7 rfl (by kernel_rfl) (by kernel_rfl) (fun _ _ _ _ h=>h) ⟨⟨_,h0⟩,rfl⟩ (fun K hK=>?_);go_simp;refine hK _ ?_;clear hK K
   refine wpAnyZ_take 8 rfl (by kernel_rfl) (by kernel_rfl) (fun _ _ _ _ h=>h) ⟨⟨_,h0⟩,rfl⟩ (fun K hK=>?_);go_simp;refine hK _ ?_;clear hK K
   refine wpAnyZ_take 9 rfl (by kernel_rfl) (by kernel_rfl) (fun _ _ _ _ h=>h) ⟨⟨_,h0⟩,rfl⟩ (fun K hK=>?_);go_simp;refine hK _ ?_;clear hK K
   refine wpAnyZ_take 10 rfl (by kernel_rfl) (by kernel_rfl) (fun _ _ _ _ h=>h) ⟨⟨_,h0⟩,rfl⟩ (fun K hK=>?_);go_simp;refine hK _ ?_;clear hK K
   refine wpAnyZ_take 11 rfl (by kernel_rfl) (by kernel_rfl) (fun _ _ _ _ h=>h) ⟨⟨_,h0⟩,rfl⟩ (fun K hK=>?_);go_simp;refine hK _ ?_;clear hK K
   refine wpAnyZ_one 12 rfl (by kernel_rfl) ?_
   go_wp2
   refine ⟨⟨⟨_,h0⟩,rfl⟩,?_⟩
   refine wpAnyZ_one 13 rfl (by kernel_rfl) ?_
   go_wp2
   refine ⟨⟨⟨_,h0⟩,rfl⟩,?_⟩
   have q1:=R4.out.rb.cell 4 (by simp)
   have q2:=R4.out.rb.free 4
   simp only [List.getElem_toArray,List.getElem_cons_zero,List.getElem_cons_succ] at q1
   refine wpAnyZ_last rfl (by kernel_rfl) ?_
   go_wp2
   refine wpAnyZ_done (by kernel_rfl) ?_ _
   have R5:=Lib.hid (RM.slot R4.out OT4.out (World.grownBy.refl _ _))
   clear k0 q1 q2 R3 R4 OT3 OT4 h0 hne hcap hwr hc1 hc2
   generalize V1.setCell ⟨b.R,4,none⟩ (.slice (some ⟨bT,oT,none⟩) T.length oc)=V2 at *
   have HS0:Hid (st.S.length≤u.fs.length):=hsl
   have HST:Hid (({ st with T:=T }:RpS).S=st.S∧({ st with T:=T }:RpS).T=T):=⟨rfl,rfl⟩
   generalize ({ st with T:=T }:RpS)=st1 at *
   obtain ⟨bF,oF,va,vc,ca,cc,he,-,-,-,-,-,-,m6,-,hcode⟩:=HM.out.2 fN hfn
   subst he
   have HCO:=Lib.hid hcode
   have HOV:Hid (∀ st',RInv u (fN:Int) (u.fs[fN].code.length:Nat) (fun _ _=>True) st'→RInv u (-1) 0 (fun _ _=>True) st'):=fun st' k=>k.over hfn (Int.le_refl _)
   have HIA:Hid (∀ (q:Nat) (hq:q < u.fs[fN].code.length),InsAt u.fs (fN:Int) (q:Int) u.fs[fN].code[q]):=fun q hq=>⟨fN,q,hfn,hq,rfl,rfl,rfl⟩
   have hb5:=(HUB.out _ _ _ _ _ _ R5.out).hb
   have hcl:=HCB.out _ (List.getElem_mem hfn)
   replace m6:=cell_below hb5 m6
   obtain ⟨z0,z1,z2⟩:=(HUB.out _ _ _ _ _ _ R5.out).cells
   clear hcode hb5
   generalize u.fs[fN].code=code at *
   go_wp2
   clear z0 z1 z2 m6
   obtain ⟨wo,rfl⟩:∃ wo,wo=V2:=⟨_,rfl⟩
   go_loopw [64] (fun i wr=>∃ (q:Nat) (ig:Str × Str→Nat) (st2:RpS) (oa:Option Addr) (oc:Nat),q≤code.length∧i = .int .i64 q∧Hid (RM u ha hc (some ⟨bF,oF,none⟩) fc b ig st2 oa oc W wr)∧Hid (RInv u (fN:Int) (q:Int) (fun _ _=>True) st2)∧Hid (Bal st1 st2)) (fun i _=>code.length - (intOf i).toNat)
   case atStart=>exact ⟨0,ig,st1,_,oc,Nat.zero_le _,rfl,R5.out,INP.out,Bal.refl _⟩
   case round =>
    clear R5 INP
    obtain ⟨q,ig2,st2,oa2,oc2,hq,rfl,R,IV2,BL⟩:=hrel
    by_cases hql:q < code.length
    case neg =>
     have IVN:=Lib.hid (HOV.out st2 (by rw [show code.length=q by omega];exact IV2.out))
     have hcn2:=R.out.count IVN.out
     have htd2:=R.out.todo
     have hls:=HSL.out _ _ _ _ IVN.out
     have hb1:=BL.out.le
     have hb2:=BL.out.eq
     rw [HST.out.1] at hb1 hb2
     rw [HST.out.2] at hb2
     clear IV2 HOV HIA HCO
     go_wp2
     go_roundw
     case rel=>exact ⟨ig2,st2,oa2,oc2,R.out,IVN.out⟩
     case measure =>
      rw [hcn2,htd2,hcn,htd]
      omega
    obtain ⟨b2,off2,ga,gc,he,m0,m1,m2,m3,m4,m5,m6,m7,m8,m9,-⟩:=(HCO.out.below (HUB.out _ _ _ _ _ _ R.out).hb) q hql
    subst he
    have HIQ:=Lib.hid (HIA.out q hql)
    generalize code[q]=x at *
    have BZ:Hid (Blk (wr.alloc zInC) wr.heap.size _ 57):=blk_new ..
    go_upto_region 9 with (refine storeInstr rfl rfl _ _ rfl wr.heap.size x ga gc rfl rfl _ BZ.out rfl ?_)
    have hrow:=below_row (one_below wr zInC) (Nat.le_refl wr.heap.size) #[.int .i64 x.op,.int .i64 x.dst,.int .i64 x.a,.int .i64 x.b,.int .i64 x.n,.string x.cls,.string x.name,.slice ga x.args.length gc,.int .i64 x.goto,.int .i64 x.catch_]
    have B2:=Lib.hid (BZ.out.setRow #[.int .i64 x.op,.int .i64 x.dst,.int .i64 x.a,.int .i64 x.b,.int .i64 x.n,.string x.cls,.string x.name,.slice ga x.args.length gc,.int .i64 x.goto,.int .i64 x.catch_])
    have R2:=Lib.hid (R.out.below hrow)
    clear R BZ hrow m0 m1 m2 m3 m4 m5 m6 m7 m8 m9
    generalize (wr.alloc zInC).setRow wr.heap.size _=W2 at *
    generalize wr.heap.size=gi at *
    have i0:=B2.out.cell 0 (by simp)
    have i1:=B2.out.cell 1 (by simp)
    have i2:=B2.out.cell 2 (by simp)
    have i3:=B2.out.cell 3 (by simp)
    have i4:=B2.out.cell 4 (by simp)
    have i5:=B2.out.cell 5 (by simp)
    have i6:=B2.out.cell 6 (by simp)
    have i7:=B2.out.cell 7 (by simp)
    have i8:=B2.out.cell 8 (by simp)
    have i9:=B2.out.cell 9 (by simp)
    simp only [List.getElem_toArray,List.getElem_cons_zero,List.getElem_cons_succ] at i0 i1 i2 i3 i4 i5 i6 i7 i8 i9
    go_wp2_with fail
    refine (HIN.out b ig2 st2 oa2 oc2 _ (fN:Int) (q:Int) x ga gc R2.out IV2.out HIQ.out).mono ?_
    rintro e w8 ⟨rfl,ig8,st8,oa8,oc8,R8,I8,B8⟩
    have R8:=Lib.hid R8
    have I8:=Lib.hid I8
    have BL8:=Lib.hid (BL.out.trans B8)
    clear B8 R2 B2 i0 i1 i2 i3 i4 i5 i6 i7 i8 i9 IV2 BL
    go_wp2
    go_roundw
    case rel=>exact ⟨q + 1,ig8,st8,oa8,oc8,by omega,by go_num,R8.out,(by show RInv _ _ _ _ _;rw [show ((q + 1:Nat):Int)=(q:Int) + 1 by omega];exact I8.out),BL8.out⟩
    case measure=>simp [intOf];omega
  case neg =>
   have hT0:st.T = []:=List.eq_nil_of_length_eq_zero (by omega)
   have HSA:Hid (∀ x,x ∈ st.S ↔ Rap u x):=IV.out.all hT0
   have HED:Hid (∀ e,(st.ed e ∨ VE st e) ↔ EdgS u (Rap u) e):=IV.out.edges hT0
   have HRV:Hid (∀ p m,st.vt p=some m→∃ L,st.tg m=some L):=fun p m e=>Option.isSome_iff_exists.1 (IV.out.rv p m e).2
   have t1:decide ((0:Int) < (st.T.length:Int))=false:=decide_eq_false (by omega)
   obtain ⟨nv,hmv⟩:=R.out.mv
   obtain ⟨Fv,hFv⟩:∃ Fv:Int × Int→Option Value,Fv=fun p=>(st.vt p).map encM:=⟨_,rfl⟩
   have hmv2:MapF wr b.gv encP Fv nv:=by rw [hFv];exact hmv
   have HFV:Hid (∀ p v,Fv p=some v→∃ m,st.vt p=some m∧v=encM m):=fun p v e=>by
    rw [hFv] at e
    cases h:st.vt p with
    | none=>simp only [h] at e;cases e
    | some m=>simp only [h] at e;cases e;exact ⟨m,rfl,rfl⟩
   go_wp2_with (at_range;refine wpList_rangeF rfl _ _ rfl undMPM b.gv rfl hmv2 ?_;intro w4 left0 hit hall hln hb4 hs4)
   have V0:Hid (VL u ha hc fa fc b ig st st.ed oa oc wr.heap.size nv Fv left0 W w4):=⟨R.out.below hb4,hit,R.out.hb.size⟩
   have HAL:Hid (∀ p m,st.vt p=some m→p ∈ left0.map (·.1)):=fun p m e=>List.mem_map.2 ⟨(p,encM m),hall p _ (by rw [hFv];simp only [e];rfl),rfl⟩
   clear hit hall hln hb4 hs4 hmv hmv2 hFv R IV hcn htd htl hT0 hT t1 y0 y1 y2 y3 y4 y5 y6 y7 y8
   generalize wr.heap.size=rv at *
   go_frame
   go_loopw [] (fun wr=>∃ (left:List ((Int × Int) × Value)) (done:List (Int × Int)) (ed:Cal→Prop),Hid (VL u ha hc fa fc b ig st ed oa oc rv nv Fv left W wr)∧Hid ((done ++ left.map (·.1)).Perm (left0.map (·.1)))∧Hid (∀ e,ed e ↔ (st.ed e ∨ ((e.f,e.i) ∈ done∧VE st e)))) (fun wr=>leftN wr rv)
   case atStart=>exact ⟨left0,[],st.ed,V0.out,List.Perm.refl _,fun e=>⟨.inl,fun k=>by
    rcases k with k | ⟨k,_⟩
    ·exact k
    ·cases k⟩⟩
   case round =>
    clear V0
    obtain ⟨left,done,ed,V,PM,HD⟩:=hrel
    go_wp2_with (at_next;refine wpList_nextF rfl _ rfl rv b.gv left rfl V.out.it ?_ ?_)
    ·intro h0
     subst h0
     have HEE:Hid (∀ e,ed e ↔ EdgS u (Rap u) e):=fun e=>by
      rw [← HED.out e,HD.out e]
      constructor
      ·rintro (k | ⟨_,k⟩)
       ·exact .inl k
       ·exact .inr k
      ·rintro (k | k)
       ·exact .inl k
       ·refine .inr ⟨?_,k⟩
        obtain ⟨m,L,k1,k2,k3⟩:=k
        have h:=PM.out
        rw [List.map_nil,List.append_nil] at h
        exact h.mem_iff.2 (HAL.out _ m k1)
     have RE:=Lib.hid V.out.rm
     clear V PM HD HED HAL HRV
     obtain ⟨y0,y1,y2,y3,y4,y5,y6,y7,y8⟩:=RE.out.cells
     obtain ⟨F,⟨ne,hme⟩,hF⟩:=RE.out.me
     have HF:Hid (∀ e,(F e).isSome=true ↔ EdgS u (Rap u) (calK e)):=fun e=>(hF e).trans (HEE.out _)
     go_wp2_with (at_range;refine wpList_rangeF rfl _ _ rfl undMCB b.ge rfl hme ?_;intro w5 le0 hit5 hall5 hln5 hb5 hs5)
     have E0:Hid (EL u ha hc fa fc b ig (st.edg ed) oa oc wr.heap.size ne F le0 [] none 0 W w5):=⟨RE.out.below hb5,hit5,World.ownsRow_nil _ _ _ _,RE.out.hb.size⟩
     have HAE:Hid ((∀ e,e ∈ le0.map (·.1) ↔ EdgS u (Rap u) (calK e))∧(le0.map (·.1)).Nodup):=by
      refine ⟨fun e=>?_,hit5.holds.2⟩
      rw [← HF.out e]
      constructor
      ·intro he
       obtain ⟨p,hp,rfl⟩:=List.mem_map.1 he
       rw [hit5.holds.1 p hp];rfl
      ·intro he
       obtain ⟨v,hv⟩:=Option.isSome_iff_exists.1 he
       exact List.mem_map.2 ⟨(e,v),hall5 e v hv,rfl⟩
     have HLE:Hid (le0.length≤1000000):=by
      have:=keys_len HAE.out.2 (fun e he=>(HAE.out.1 e).1 he)
      rw [List.length_map] at this
      exact Nat.le_trans this HKL.out
     clear hit5 hall5 hln5 hb5 hs5 hme hF HF HEE RE y0 y1 y2 y3 y4 y5 y6 y7 y8
     generalize wr.heap.size=re at *
     go_frame
     go_loopw [11] (fun v wr=>∃ (left:List (Cky × Value)) (done:List Cky) (ea:Option Addr) (ec:Nat),v = .slice ea done.length ec∧Hid (EL u ha hc fa fc b ig (st.edg ed) oa oc re ne F left (done.map calK) ea ec W wr)∧Hid ((done ++ left.map (·.1)).Perm (le0.map (·.1)))) (fun _ wr=>leftN wr re)
     case atStart=>exact ⟨le0,[],none,0,rfl,E0.out,List.Perm.refl _⟩
     case round =>
      clear E0
      obtain ⟨left,done,ea,ec,rfl,E,PM⟩:=hrel
      have hdl:=perm_len PM.out
      have hle:=HLE.out
      go_wp2_with (at_next;refine wpList_nextF rfl _ rfl re b.ge left rfl E.out.it ?_ ?_)
      ·intro h0
       subst h0
       have HPD:Hid (done.Perm (le0.map (·.1))):=by
        have h:=PM.out
        rw [List.map_nil,List.append_nil] at h
        exact h
       have hln:(done.map calK).length=done.length:=List.length_map ..
       have OW:=Lib.hid E.out.ow
       go_wp2_with fail
       have HSO:=sortC_own (done.map calK) ea ec W.heap.size _ E.out.ow (by omega)
       rw [hln] at HSO
       refine HSO.mono ?_
       rintro e w6 ⟨rfl,hg6,own6⟩
       have R6:=Lib.hid (E.out.rm.other E.out.ow (by decide) (by decide) (by rw [hln];exact hg6))
       have O6:=Lib.hid own6
       clear HSO E OW hg6 own6 PM
       obtain ⟨y0,y1,y2,y3,y4,y5,y6,y7,y8⟩:=R6.out.cells
       have hsl2:st.S.length≤1000000:=by omega
       go_wp2_with fail
       refine (HFU.out (setF st.S) b.gr st.S.length _ R6.out.mr hsl2).mono ?_
       rintro e w7 ⟨hb7,L,la,lc,rfl,hp7,hm7,ow7⟩
       have HBE:=Lib.hid (HBW.out.trans ((R6.out.hb.trans (hb7.mono R6.out.hb.size)).mono HBW.out.size))
       have HI7:=Lib.hid (owns_ints' ow7).2
       have hls:=sortC_len (done.map calK)
       rw [hln] at hls
       have O7:=owns_below O6.out hb7
       rw [← hls] at O7
       have HC7:=Lib.hid (ownsC' O7).2
       have HRF:Hid (RapF u L):=⟨hp7,fun x=>(hm7 x).trans ⟨fun h=>(HSA.out x).1 ((setF_some _ _).1 h.2),fun h=>⟨h.lt.1,(setF_some _ _).2 ((HSA.out x).2 h)⟩⟩⟩
       have HRE2:Hid (RapE u (sortC (done.map calK))):=rapE_sorted (HPD.out.nodup_iff.2 HAE.out.2) (fun e=>(HPD.out.mem_iff).trans (HAE.out.1 e))
       have HLS:=Lib.hid hls
       clear hb7 hp7 hm7 ow7 O7 R6 O6 y0 y1 y2 y3 y4 y5 y6 y7 y8 hls
       go_wp2
       refine bodyPost_ret (v:=.tuple #[.slice la L.length lc,.slice ea done.length ec]) (by simp [results,Tryz.results23,go_sem]) rfl ?_
       exact ⟨HBE.out,L,sortC (done.map calK),la,lc,ea,ec,by rw [HLS.out],HRF.out,HRE2.out,HI7.out,HC7.out⟩
      ·intro e1 e2 e3 pv j w6 hp hF hit6 hg6 hs6 hen
       have PM2:=Lib.hid (perm_next PM.out hp)
       have hel:=(perm_erase hp).length_eq
       have hm4:=E.out.it.leftN
       have E6:Hid (EL u ha hc fa fc b ig (st.edg ed) oa oc re ne F (left.eraseIdx j) (done.map calK) ea ec W w6):=⟨E.out.rm.iter E.out.it hg6 E.out.lo,hit6,E.out.ow.kept hg6 (.inr (fun e=>owns_iter E.out.ow E.out.it e.symm)),E.out.lo⟩
       clear E PM hF hit6 hg6 hs6 hp
       try simp only [encK] at hen
       have BZ:Hid (Blk (w6.alloc (.cells #[.int .i64 0,.int .i64 0,.int .i64 0] 51)) w6.heap.size _ 51):=blk_new ..
       have hsz:w6.heap.size≤w6.heap.size:=Nat.le_refl _
       go_upto_region 22 with (refine storeCal rfl _ _ rfl w6.heap.size _ _ _ rfl rfl _ BZ.out rfl ?_)
       have HB7:=Lib.hid (below_row (one_below w6 (.cells #[.int .i64 0,.int .i64 0,.int .i64 0] 51)) hsz #[.int .i64 e1,.int .i64 e2,.int .i64 e3])
       have B7:=Lib.hid (BZ.out.setRow #[.int .i64 e1,.int .i64 e2,.int .i64 e3])
       have E7:=Lib.hid (E6.out.below HB7.out)
       clear E6 BZ HB7 hsz hen
       generalize (w6.alloc _).setRow w6.heap.size _=W7 at *
       generalize w6.heap.size=n7 at *
       have x0:=B7.out.cell 0 (by simp)
       have x1:=B7.out.cell 1 (by simp)
       have x2:=B7.out.cell 2 (by simp)
       simp only [List.getElem_toArray,List.getElem_cons_zero,List.getElem_cons_succ] at x0 x1 x2
       have E8:=Lib.hid (E7.out.below (one_below W7 (.cells #[.int .i64 e1,.int .i64 e2,.int .i64 e3] 51)))
       have B8:Hid (Blk (W7.alloc (.cells #[.int .i64 e1,.int .i64 e2,.int .i64 e3] 51)) W7.heap.size #[.int .i64 e1,.int .i64 e2,.int .i64 e3] 51):=blk_new ..
       have hbs:=E8.out.rm.hb.size
       have hoc:(done.map calK).length≤1000000:=by rw [List.length_map];omega
       go_wp2_with (at_builtin;refine appC rfl _ _ rfl W.heap.size (.slice ea (done.map calK).length ec) (done.map calK) (by rw [List.length_map] <;> rfl) E8.out.ow W7.heap.size ⟨e1,e2,e3⟩ rfl B8.out hoc hbs ?_;intro v9 W9 own9 hg9;obtain ⟨-,oa9,oc9,rfl,-,-⟩:=ownsC own9)
       have hmp:done.map calK ++ [(⟨e1,e2,e3⟩:Cal)]=(done ++ [((e1,e2,e3):Cky)]).map calK:=by rw [List.map_append];rfl
       have E9:Hid (EL u ha hc fa fc b ig (st.edg ed) oa oc re ne F (left.eraseIdx j) ((done ++ [((e1,e2,e3):Cky)]).map calK) oa9 oc9 W W9):=by
        rw [hmp] at own9
        exact ⟨E8.out.rm.other E8.out.ow (by decide) (by decide) hg9,E8.out.it.grown hg9 (owns_mapF E8.out.ow E8.out.it.map) (owns_iter E8.out.ow E8.out.it),own9,E8.out.lo⟩
       clear own9 hg9 E8 B8 E7 B7 x0 x1 x2
       have hm8:=E9.out.it.leftN
       go_roundw
       case rel=>exact ⟨left.eraseIdx j,done ++ [((e1,e2,e3):Cky)],oa9,oc9,(by first | rfl | simp),E9.out,PM2.out⟩
       case measure =>
        rw [hm8,hm4]
        simp at hel
        omega
    ·intro p1 p2 pv j w5 hp hF hit5 hg5 hs5 hen
     have PM2:=Lib.hid (perm_next PM.out hp)
     have hel:=(perm_erase hp).length_eq
     have hm4:=V.out.it.leftN
     obtain ⟨m,hvm,hpv⟩:=HFV.out _ _ hF
     subst hpv
     obtain ⟨L,hL⟩:=HRV.out _ m hvm
     have HVL:Hid (∀ e:Cal,(e.f,e.i)=(p1,p2)→(VE st e ↔ e.c ∈ L)):=fun e he=>ve_at hvm hL he
     have HLL:=Lib.hid hL
     have V5:Hid (VL u ha hc fa fc b ig st ed oa oc rv nv Fv (left.eraseIdx j) W w5):=⟨V.out.rm.iter V.out.it hg5 V.out.lo,hit5,V.out.lo⟩
     clear V PM hF hit5 hg5 hs5 hp hvm hL
     obtain ⟨mc,mn⟩:=m
     try simp only [encP,encM] at hen
     have B8:Hid (Blk ((w5.alloc (.cells #[.int .i64 0,.int .i64 0] 123)).alloc (.cells #[.string ⟨#[]⟩,.string ⟨#[]⟩] 102)) w5.heap.size #[.int .i64 0,.int .i64 0] 123):=(blk_new ..).below (one_below ..)
     have B9:Hid (Blk ((w5.alloc (.cells #[.int .i64 0,.int .i64 0] 123)).alloc (.cells #[.string ⟨#[]⟩,.string ⟨#[]⟩] 102)) (w5.heap.size + 1) #[.string ⟨#[]⟩,.string ⟨#[]⟩] 102):=blk_new2 ..
     have B9':Hid (Blk (((w5.alloc (.cells #[.int .i64 0,.int .i64 0] 123)).alloc (.cells #[.string ⟨#[]⟩,.string ⟨#[]⟩] 102)).setRow w5.heap.size #[.int .i64 p1,.int .i64 p2]) (w5.heap.size + 1) #[.string ⟨#[]⟩,.string ⟨#[]⟩] 102):=B9.out.setRow_ne (by omega) _
     have hsz:w5.heap.size≤w5.heap.size:=Nat.le_refl _
     have hsz1:w5.heap.size≤w5.heap.size + 1:=Nat.le_succ _
     have HB7:=Lib.hid (below_row (below_row (two_below w5 (.cells #[.int .i64 0,.int .i64 0] 123) (.cells #[.string ⟨#[]⟩,.string ⟨#[]⟩] 102)) hsz #[.int .i64 p1,.int .i64 p2]) hsz1 #[.string mc,.string mn])
     have BP:=Lib.hid ((B8.out.setRow #[.int .i64 p1,.int .i64 p2]).setRow_ne (show w5.heap.size ≠ w5.heap.size + 1 by omega) #[.string mc,.string mn])
     have BM:=Lib.hid (B9'.out.setRow #[.string mc,.string mn])
     go_upto_region 14 with (first | (refine storePlace rfl _ _ rfl w5.heap.size _ _ rfl rfl _ B8.out rfl ?_) | (refine storeMeth rfl _ _ rfl (w5.heap.size + 1) _ _ rfl rfl _ B9'.out rfl ?_))
     have V7:=Lib.hid (V5.out.below HB7.out)
     clear V5 B8 B9 B9' HB7 hsz hsz1 hen
     generalize ((((w5.alloc _).alloc _).setRow w5.heap.size _).setRow (w5.heap.size + 1) _)=W7 at *
     generalize w5.heap.size + 1=gm at *
     generalize w5.heap.size=gp at *
     have k0:∀ o:WB W7,o.u.cell? ⟨b.R,6,none⟩=some (.map (some b.gt)):=fun o=>(V7.out.below o.h).rm.cells.2.2.2.2.2.2.1
     have k1:∀ o:WB W7,o.u.cell? ⟨gm,0,none⟩=some (.string mc):=fun o=>(BM.out.below o.h).cell 0 (by simp)
     have k2:∀ o:WB W7,o.u.cell? ⟨gm,1,none⟩=some (.string mn):=fun o=>(BM.out.below o.h).cell 1 (by simp)
     have hlk:∀ o:WB W7,(Instr.lookup 115 (.map (some b.gt)) (.agg #[.string mc,.string mn]) false).run Tryz.prog o.u = .ok (.map (some (ig (mc,mn)))) o.u:=fun o=>by
      obtain ⟨n,hm⟩:=(V7.out.below o.h).rm.mt
      have:=hm.lookup keyM undMMM (zeroMIB o.u) (mc,mn) false
      rw [show (st.edg ed).tg (mc,mn)=some L from HLL.out] at this
      exact this
     have hne:Nonempty (WB W7):=⟨⟨W7,Below.refl _ _⟩⟩
     have h0:Below W7.heap.size W7 W7.drew:=(Below.refl _ _).drew
     have V8:=Lib.hid (V7.out.below h0)
     have BP8:=Lib.hid (BP.out.below h0)
     obtain ⟨ni,hmi⟩:=V8.out.rm.mi (mc,mn) L HLL.out
     refine wp_region_Y (fun w'=>∃ o:WB W7,w' = o.u) (by kernel_rfl) ?_
     change wpAnyY _ _ _ _ _ _ _ _ W7.drew
     generalize W7.drew=V1 at *
     refine wpAnyY_take 0 rfl (by kernel_rfl) (fun _ _ _ _ h=>h) ⟨⟨_,h0⟩,rfl⟩ (fun K hK=>?_);go_simp;refine hK _ ?_;clear hK K
     refine wpAnyY_take 1 rfl (by kernel_rfl) (fun _ _ _ _ h=>h) ⟨⟨_,h0⟩,rfl⟩ (fun K hK=>?_);go_simp;refine hK _ ?_;clear hK K
     refine wpAnyY_take 2 rfl (by kernel_rfl) (fun _ _ _ _ h=>h) ⟨⟨_,h0⟩,rfl⟩ (fun K hK=>?_);go_simp;refine hK _ ?_;clear hK K
     refine wpAnyY_take 3 rfl (by kernel_rfl) (fun _ _ _ _ h=>h) ⟨⟨_,h0⟩,rfl⟩ (fun K hK=>?_);go_simp;refine hK _ ?_;clear hK K
     refine wpAnyY_take 4 rfl (by kernel_rfl) (fun _ _ _ _ h=>h) ⟨⟨_,h0⟩,rfl⟩ (fun K hK=>?_);go_simp;refine hK _ ?_;clear hK K
     refine wpAnyY_take 5 rfl (by kernel_rfl) (fun _ _ _ _ h=>h) ⟨⟨_,h0⟩,rfl⟩ (fun K hK=>?_);go_simp;refine hK _ ?_;clear hK K
     refine wpAnyY_one 6 rfl (by kernel_rfl) ?_
     refine wpList_rangeF rfl _ _ rfl undMIB (ig (mc,mn)) rfl hmi ?_
     intro w9 li0 hit9 hall9 hln9 hb9 hs9
     go_wp2
     refine ⟨⟨⟨_,h0.trans (hb9.mono h0.size)⟩,rfl⟩,?_⟩
     refine wpAnyY_done (by kernel_rfl) ?_ _
     have I0:Hid (VI u ha hc fa fc b ig st ed oa oc rv nv Fv (left.eraseIdx j) gp (p1,p2) (mc,mn) L V1.heap.size ni li0 W w9):=⟨V8.out.below hb9,BP8.out.below hb9,hit9,V8.out.it.lt⟩
     have HLI:Hid (∀ x,x ∈ li0.map (·.1) ↔ x ∈ L):=fun x=>by
      constructor
      ·intro he
       obtain ⟨p,hp,rfl⟩:=List.mem_map.1 he
       exact (setF_some _ _).1 (by rw [hit9.holds.1 p hp];rfl)
      ·intro he
       obtain ⟨v,hv⟩:=Option.isSome_iff_exists.1 ((setF_some _ _).2 he)
       exact List.mem_map.2 ⟨(x,v),hall9 x v hv,rfl⟩
     clear hit9 hall9 hln9 hb9 hs9 hmi V7 V8 BP BP8 BM k0 k1 k2 hlk hne h0
     generalize V1.heap.size=ri at *
     go_wp2
     go_loopw [] (fun wr=>∃ (li:List (Int × Value)) (dn:List Int) (ed2:Cal→Prop),Hid (VI u ha hc fa fc b ig st ed2 oa oc rv nv Fv (left.eraseIdx j) gp (p1,p2) (mc,mn) L ri ni li W wr)∧Hid ((dn ++ li.map (·.1)).Perm (li0.map (·.1)))∧Hid (∀ e,ed2 e ↔ (ed e ∨ ((e.f,e.i)=(p1,p2)∧e.c ∈ dn)))) (fun wr=>leftN wr ri)
     case atStart=>exact ⟨li0,[],ed,I0.out,List.Perm.refl _,fun e=>⟨.inl,fun k=>by
      rcases k with k | ⟨_,k⟩
      ·exact k
      ·cases k⟩⟩
     case round =>
      clear I0
      obtain ⟨li,dn,ed2,I,PI,HE2⟩:=hrel
      have hm6:=I.out.vl.it.leftN
      go_wp2_with (at_next;refine wpList_nextF rfl _ rfl ri (ig (mc,mn)) li rfl I.out.ii ?_ ?_)
      ·intro h0
       subst h0
       have HD2:Hid (∀ e,ed2 e ↔ (st.ed e ∨ ((e.f,e.i) ∈ done ++ [(p1,p2)]∧VE st e))):=fun e=>by
        have h:=PI.out
        rw [List.map_nil,List.append_nil] at h
        rw [HE2.out e,HD.out e,h.mem_iff,HLI.out]
        constructor
        ·rintro ((k | ⟨k1,k2⟩) | ⟨k1,k2⟩)
         ·exact .inl k
         ·exact .inr ⟨List.mem_append_left _ k1,k2⟩
         ·exact .inr ⟨List.mem_append_right _ (List.mem_singleton.2 k1),(HVL.out e k1).2 k2⟩
        ·rintro (k | ⟨k1,k2⟩)
         ·exact .inl (.inl k)
         ·rcases List.mem_append.1 k1 with k1 | k1
          ·exact .inl (.inr ⟨k1,k2⟩)
          ·have k1:=List.mem_singleton.1 k1
           exact .inr ⟨k1,(HVL.out e k1).1 k2⟩
       have VV:=Lib.hid I.out.vl
       clear I PI HE2
       go_wp2
       go_roundw
       case rel=>exact ⟨left.eraseIdx j,done ++ [(p1,p2)],ed2,VV.out,PM2.out,HD2.out⟩
       case measure =>
        rw [hm6,hm4]
        simp at hel
        omega
      ·intro g pv2 j2 w10 hp hF hit10 hg10 hs10 hen2
       have PI2:=Lib.hid (perm_next PI.out hp)
       have hel2:=(perm_erase hp).length_eq
       have hm9:=I.out.ii.leftN
       have hlt:=I.out.lt
       have I10:Hid (VI u ha hc fa fc b ig st ed2 oa oc rv nv Fv (left.eraseIdx j) gp (p1,p2) (mc,mn) L ri ni (li.eraseIdx j2) W w10) :=
        ⟨⟨I.out.vl.rm.iter I.out.ii hg10 (Nat.le_trans I.out.vl.lo (Nat.le_of_lt hlt)),IterF.apart I.out.vl.it I.out.ii hg10 (by omega),I.out.vl.lo⟩,I.out.bp.grown hg10 (blk_iter I.out.bp I.out.ii),hit10,hlt⟩
       clear I PI hF hit10 hg10 hs10 hp hlt
       go_upto_region 17 with (fail)
       clear hen2
       have k0:∀ o:WB w10,o.u.cell? ⟨b.R,8,none⟩=some (.map (some b.ge)):=fun o=>(I10.out.below o.h).vl.rm.cells.2.2.2.2.2.2.2.2
       have k1:∀ o:WB w10,o.u.cell? ⟨gp,0,none⟩=some (.int .i64 p1):=fun o=>(I10.out.below o.h).bp.cell 0 (by simp)
       have k2:∀ o:WB w10,o.u.cell? ⟨gp,1,none⟩=some (.int .i64 p2):=fun o=>(I10.out.below o.h).bp.cell 1 (by simp)
       have hne:Nonempty (WB w10):=⟨⟨w10,Below.refl _ _⟩⟩
       have h0:Below w10.heap.size w10 w10.drew:=(Below.refl _ _).drew
       have I11:=Lib.hid (I10.out.below h0)
       refine wp_region_Z (fun w'=>∃ o:WB w10,w' = o.u) 10 (by kernel_rfl) ?_
       change wpAnyZ _ _ _ _ _ _ _ _ _ w10.drew
       generalize w10.drew=V2 at *
       refine wpAnyZ_take 0 rfl (by kernel_rfl) (by kernel_rfl) (fun _ _ _ _ h=>h) ⟨⟨_,h0⟩,rfl⟩ (fun K hK=>?_);go_simp;refine hK _ ?_;clear hK K
       refine wpAnyZ_take 1 rfl (by kernel_rfl) (by kernel_rfl) (fun _ _ _ _ h=>h) ⟨⟨_,h0⟩,rfl⟩ (fun K hK=>?_);go_simp;refine hK _ ?_;clear hK K
       refine wpAnyZ_take 2 rfl (by kernel_rfl) (by kernel_rfl) (fun _ _ _ _ h=>h) ⟨⟨_,h0⟩,rfl⟩ (fun K hK=>?_);go_simp;refine hK _ ?_;clear hK K
       refine wpAnyZ_take 3 rfl (by kernel_rfl) (by kernel_rfl) (fun _ _ _ _ h=>h) ⟨⟨_,h0⟩,rfl⟩ (fun K hK=>?_);go_simp;refine hK _ ?_;clear hK K
       refine wpAnyZ_take 4 rfl (by kernel_rfl) (by kernel_rfl) (fun _ _ _ _ h=>h) ⟨⟨_,h0⟩,rfl⟩ (fun K hK=>?_);go_simp;refine hK _ ?_;clear hK K
       refine wpAnyZ_take 5 rfl (by kernel_rfl) (by kernel_rfl) (fun _ _ _ _ h=>h) ⟨⟨_,h0⟩,rfl⟩ (fun K hK=>?_);go_simp;refine hK _ ?_;clear hK K
       refine wpAnyZ_take 6 rfl (by kernel_rfl) (by kernel_rfl) (fun _ _ _ _ h=>h) ⟨⟨_,h0⟩,rfl⟩ (fun K hK=>?_);go_simp;refine hK _ ?_;clear hK K
       refine wpAnyZ_take 7 rfl (by kernel_rfl) (by kernel_rfl) (fun _ _ _ _ h=>h) ⟨⟨_,h0⟩,rfl⟩ (fun K hK=>?_);go_simp;refine hK _ ?_;clear hK K
       refine wpAnyZ_take 8 rfl (by kernel_rfl) (by kernel_rfl) (fun _ _ _ _ h=>h) ⟨⟨_,h0⟩,rfl⟩ (fun K hK=>?_);go_simp;refine hK _ ?_;clear hK K
       refine wpAnyZ_take 9 rfl (by kernel_rfl) (by kernel_rfl) (fun _ _ _ _ h=>h) ⟨⟨_,h0⟩,rfl⟩ (fun K hK=>?_);go_simp;refine hK _ ?_;clear hK K
       obtain ⟨E,⟨n0,hme⟩,hE⟩:=I11.out.vl.rm.me
       refine wpAnyZ_last rfl (by kernel_rfl) ?_
       refine wpList_mapF rfl _ _ _ _ rfl keyC undMCB b.ge rfl hme (p1,p2,g) rfl (.bool true) rfl ?_
       intro w12 hm12 hg12 hs12
       go_wp2
       refine wpAnyZ_done (by kernel_rfl) ?_ _
       have hod:=I11.out.vl.rm.od
       have hih:=I11.out.vl.rm.ih (mc,mn) (by rw [show (st.edg ed2).tg (mc,mn)=some L from HLL.out];rfl)
       have R12:RM u ha hc fa fc b ig (st.edg (fun x=>x=⟨p1,p2,g⟩ ∨ ed2 x)) oa oc W w12:=I11.out.vl.rm.putE hE hme hm12 hg12
       have I12:Hid (VI u ha hc fa fc b ig st (fun x=>x=⟨p1,p2,g⟩ ∨ ed2 x) oa oc rv nv Fv (left.eraseIdx j) gp (p1,p2) (mc,mn) L ri ni (li.eraseIdx j2) W w12) :=
        ⟨⟨R12,IterF.kept I11.out.vl.it hme hg12 (by omega),I11.out.vl.lo⟩,I11.out.bp.grown hg12 (blk_mapF I11.out.bp hme),IterF.kept I11.out.ii hme hg12 (by omega),I11.out.lt⟩
       have HE3:Hid (∀ e:Cal,(e=⟨p1,p2,g⟩ ∨ ed2 e) ↔ (ed e ∨ ((e.f,e.i)=(p1,p2)∧e.c ∈ dn ++ [g]))):=fun e=>by
        rw [HE2.out e]
        constructor
        ·rintro (k | k | ⟨k1,k2⟩)
         ·subst k;exact .inr ⟨rfl,by simp⟩
         ·exact .inl k
         ·exact .inr ⟨k1,List.mem_append_left _ k2⟩
        ·rintro (k | ⟨k1,k2⟩)
         ·exact .inr (.inl k)
         ·rcases List.mem_append.1 k2 with k2 | k2
          ·exact .inr (.inr ⟨k1,k2⟩)
          ·left
           have h1:e.f=p1:=congrArg Prod.fst k1
           have h2:e.i=p2:=congrArg Prod.snd k1
           exact cal_ext h1 h2 (List.mem_singleton.1 k2)
       clear hm12 hg12 hs12 hme hE R12 I10 I11 k0 k1 k2 hne h0 hod hih HE2
       have hm13:=I12.out.ii.leftN
       go_wp2
       go_roundw
       case rel=>exact ⟨li.eraseIdx j2,dn ++ [g],_,I12.out,PI2.out,HE3.out⟩
       case measure =>
        rw [hm13,hm9]
        simp at hel2
        omega
end Go.Proofs.YtkbmnfijeknenaaGreatDoor
