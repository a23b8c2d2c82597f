/-
  The reference's numbered.
  The reference's whole.
  The reference's Check of a unit.
  The reference's Fit.
  The reference's Small: it returns, and where it says yes the unit is short and valid.
-/
import Derived.Test.YtffcklfigpmlgaaGreatDoorWE
import Derived.Test.YtffcklfigpmlgaaGreatDoorUA
namespace Go.Proofs.YtffcklfigpmlgaaGreatDoor
open Go.RowKit Go.Unit0

def zSgV:Value:=.agg #[.string ⟨#[]⟩,.bool false,.slice none 0 0,.string ⟨#[]⟩]
def NumPost (r:Option (Str × Sgn)) (w:World) (e:Ending) (w':World):Prop:=Below w.heap.size w w' ∧
 ((r=none∧e = .returned (.tuple #[.string ⟨#[]⟩,zSgV,.bool false])) ∨
  ∃ x g pa pc,r=some (x,g)∧e = .returned (.tuple #[.string x,sgV g pa pc,.bool true])∧StrsAt w pa g.params)
structure HZ (h:List Cls) (a:Option Addr) (c:Nat) (w wr:World):Prop where
 hb:Below w.heap.size w wr
 bh:Blk wr w.heap.size #[.slice a h.length c] 24
 s:Blk wr (w.heap.size + 1) #[.string ⟨#[]⟩,.bool false,.slice none 0 0,.string ⟨#[]⟩] 87
set_option maxRecDepth 100000 in
set_option maxHeartbeats 4000000 in
theorem numbered134 (h:List Cls) (a:Option Addr) (c:Nat) (n:Nat) (w:World) (hc:ClssAt w a h) (hb:Bnd h) (hn:n≤100000) :
 Calls Tryz.prog 69 #[.agg #[.slice a h.length c],.int .i64 n] w (NumPost (numF h n) w):=by
 have b0:Blk (w.alloc (hiC h a c)) w.heap.size #[.slice a h.length c] 24:=blk_new ..
 have S0:Hid (HZ h a c w ((w.alloc (hiC h a c)).alloc zSgC)):=⟨two_below ..,b0.below (one_below ..),blk_new2 ..⟩
 have C0:=Lib.hid hc
 have HBN:=Lib.hid hb
 have hl:=hb.l
 clear hc hb b0
 go_enter Tryz.func69,Tryz.ntmps69
 go_wp2
 generalize (w.alloc _).alloc _=W at *
 have x0:=S0.out.bh.cell 0 (by simp)
 go_loop [1,7] (fun m k=>∃ q p:Nat,q≤h.length∧p≤n∧m = .int .i64 p∧k = .int .i64 q∧Hid (numF (h.drop q) p=numF h n)) (fun _ k=>h.length - (intOf k).toNat)
 case atStart=>exact ⟨0,n,Nat.zero_le _,Nat.le_refl _,rfl,rfl,rfl⟩
 case round =>
  obtain ⟨q,p,hq,hp,rfl,rfl,HI⟩:=hrel
  by_cases hlt:q < h.length
  case neg =>
   have HF:Hid (numF h n=none):=by show _=_;rw [← HI.out,numF_end (by omega)]
   go_wp2_with (refine storeSig rfl rfl _ _ rfl (w.heap.size + 1) zSg none 0 rfl rfl _ S0.out.s rfl ?_)
   refine bodyPost_ret (v:=.tuple #[.string ⟨#[]⟩,zSgV,.bool false]) (results_tct Tryz.results69 _ _ (w.heap.size + 1) _ _ _ _ rfl rfl rfl (S0.out.s.setRow _) Tryz.underlying87 rfl (by kernel_rfl)) rfl ?_
   exact ⟨below_row S0.out.hb (by omega) _,.inl ⟨HF.out,rfl⟩⟩
  obtain ⟨b,off,fa,fc,ma,mc,rfl,m0,m1,m2,m3,-,hs⟩:=C0.out q hlt
  have hml:=HBN.out.m _ (List.getElem_mem hlt)
  have m0':=cell_below S0.out.hb m0
  have m3':=cell_below S0.out.hb m3
  have HM:=Lib.hid hs
  have HIT:=Lib.hid (@numF_hit h q p hlt)
  have HMI:=Lib.hid (@numF_miss h q p hlt)
  clear m1 m2 hs
  have hbn:b ≠ w.heap.size + 1:=by have:=World.block_lt_of_cell? w _ m0;simp at this;omega
  clear m0 m3
  generalize h[q]=x at *
  by_cases hpl:p < x.methods.length
  case neg =>
   have HN:=Lib.hid ((HMI.out (by omega)).symm.trans HI.out)
   clear HIT HMI HI
   go_wp2
   go_round
   case rel=>exact ⟨q + 1,p - x.methods.length,by omega,by omega,by go_num,by go_num,HN.out⟩
   case measure=>simp [intOf];omega
  have HF:=Lib.hid (HI.out.symm.trans (HIT.out hpl))
  clear HIT HMI HI
  obtain ⟨b2,o2,pa,pc,rfl,n0,n1,n2,n3,hst⟩:=HM.out p hpl
  have HST:=Lib.hid hst
  have hbn2:b2 ≠ w.heap.size + 1:=by have:=World.block_lt_of_cell? w _ n0;simp at this;omega
  replace n0:=cell_below S0.out.hb n0
  replace n1:=cell_below S0.out.hb n1
  replace n2:=cell_below S0.out.hb n2
  replace n3:=cell_below S0.out.hb n3
  clear hst HM
  generalize x.methods[p]=g at *
  go_upto_region 6 with (fail)
  have hne:Nonempty (WG W (w.heap.size + 1)):=⟨⟨W,fun _ _ _=>rfl⟩⟩
  have k0:∀ o:WG W (w.heap.size + 1),o.u.cell? ⟨b2,o2 + p * 4,none⟩=some (.string g.name):=fun o=>o.cell n0 hbn2
  have k1:∀ o:WG W (w.heap.size + 1),o.u.cell? ⟨b2,o2 + p * 4 + 1,none⟩=some (.bool g.stat):=fun o=>o.cell n1 hbn2
  have k2:∀ o:WG W (w.heap.size + 1),o.u.cell? ⟨b2,o2 + p * 4 + 2,none⟩=some (.slice pa g.params.length pc):=fun o=>o.cell n2 hbn2
  have k3:∀ o:WG W (w.heap.size + 1),o.u.cell? ⟨b2,o2 + p * 4 + 3,none⟩=some (.string g.result):=fun o=>o.cell n3 hbn2
  have k4:∀ o:WG W (w.heap.size + 1),o.u.cell? ⟨b,off + q * 4,none⟩=some (.string x.name):=fun o=>o.cell m0' hbn
  have k5:∀ o:WG W (w.heap.size + 1),o.u.cell? ⟨w.heap.size,0,none⟩=some (.slice (some ⟨b,off,none⟩) h.length c):=fun o=>o.cell x0 (by omega)
  have hcur:∀ k,k < W.heap.size→k ≠ w.heap.size + 1→W.drew.heap[k]? = W.heap[k]?:=fun _ _ _=>rfl
  have D4:Hid (Blk W.drew (w.heap.size + 1) #[.string ⟨#[]⟩,.bool false,.slice none 0 0,.string ⟨#[]⟩] 87):=S0.out.s
  have hcur2:∀ k,k < W.heap.size→k ≠ w.heap.size + 1→(W.drew.setRow (w.heap.size + 1) #[.string g.name,.bool g.stat,.slice pa g.params.length pc,.string g.result]).heap[k]? = W.heap[k]?:=fun k _ hk2=>setRow_other W.drew (w.heap.size + 1) k _ hk2
  have HFB:Hid (Below w.heap.size w (W.drew.setRow (w.heap.size + 1) #[.string g.name,.bool g.stat,.slice pa g.params.length pc,.string g.result])):=below_row S0.out.hb.drew (by omega) _
  clear n0 n1 n2 n3 m0' m3' x0
  refine wp_region_Y (fun w'=>∃ o:WG W (w.heap.size + 1),w' = o.u) (by kernel_rfl) ?_
  change wpAnyY _ _ _ _ _ _ _ _ W.drew
  refine wpAnyY_take 0 rfl (by kernel_rfl) (fun _ _ _ _ h=>h) ⟨⟨_,hcur⟩,rfl⟩ (fun K hK=>?_);go_simp;refine hK _ ?_;clear hK K
  refine wpAnyY_take 1 rfl (by kernel_rfl) (fun _ _ _ _ h=>h) ⟨⟨_,hcur⟩,rfl⟩ (fun K hK=>?_);go_simp;refine hK _ ?_;clear hK K
  refine wpAnyY_take 2 rfl (by kernel_rfl) (fun _ _ _ _ h=>h) ⟨⟨_,hcur⟩,rfl⟩ (fun K hK=>?_);go_simp;refine hK _ ?_;clear hK K
  refine wpAnyY_take 3 rfl (by kernel_rfl) (fun _ _ _ _ h=>h) ⟨⟨_,hcur⟩,rfl⟩ (fun K hK=>?_);go_simp;refine hK _ ?_;clear hK K
  refine wpAnyY_take 4 rfl (by kernel_rfl) (fun _ _ _ _ h=>h) ⟨⟨_,hcur⟩,rfl⟩ (fun K hK=>?_);go_simp;refine hK _ ?_;clear hK K
  refine wpAnyY_take 5 rfl (by kernel_rfl) (fun _ _ _ _ h=>h) ⟨⟨_,hcur⟩,rfl⟩ (fun K hK=>?_);go_simp;refine hK _ ?_;clear hK K
  refine wpAnyY_take 6 rfl (by kernel_rfl) (fun _ _ _ _ h=>h) ⟨⟨_,hcur⟩,rfl⟩ (fun K hK=>?_);go_simp;refine hK _ ?_;clear hK K
  refine wpAnyY_take 7 rfl (by kernel_rfl) (fun _ _ _ _ h=>h) ⟨⟨_,hcur⟩,rfl⟩ (fun K hK=>?_);go_simp;refine hK _ ?_;clear hK K
  refine wpAnyY_take 8 rfl (by kernel_rfl) (fun _ _ _ _ h=>h) ⟨⟨_,hcur⟩,rfl⟩ (fun K hK=>?_);go_simp;refine hK _ ?_;clear hK K
  refine wpAnyY_take 9 rfl (by kernel_rfl) (fun _ _ _ _ h=>h) ⟨⟨_,hcur⟩,rfl⟩ (fun K hK=>?_);go_simp;refine hK _ ?_;clear hK K
  refine wpAnyY_one 10 rfl (by kernel_rfl) ?_
  go_wp2
  refine ⟨⟨⟨_,hcur⟩,rfl⟩,?_⟩
  refine wpAnyY_one 11 rfl (by kernel_rfl) ?_
  go_wp2_with (refine storeSig rfl rfl _ _ rfl (w.heap.size + 1) g pa pc rfl rfl _ D4.out rfl ?_)
  refine ⟨⟨⟨_,hcur2⟩,rfl⟩,?_⟩
  refine wpAnyY_one 12 rfl (by kernel_rfl) ?_
  go_wp2
  refine ⟨⟨⟨_,hcur2⟩,rfl⟩,?_⟩
  refine wpAnyY_done (by kernel_rfl) ?_ _
  go_wp2
  refine bodyPost_ret (v:=.tuple #[.string x.name,sgV g pa pc,.bool true]) (results_tct Tryz.results69 _ _ (w.heap.size + 1) _ _ _ _ rfl rfl rfl (D4.out.setRow _) Tryz.underlying87 rfl (by kernel_rfl)) rfl ?_
  exact ⟨HFB.out,.inr ⟨_,_,_,_,HF.out,rfl,HST.out⟩⟩
end Go.Proofs.YtffcklfigpmlgaaGreatDoor
namespace Go.Proofs.YtffcklfigpmlgaaGreatDoor
open Go.RowKit Go.Unit0

def unV (u:Unt) (ha:Option Addr) (hc:Nat) (fa:Option Addr) (fc:Nat):Value:=.agg #[.slice ha u.h.length hc,.slice fa u.fs.length fc,.int .i64 u.main]
abbrev unC (u:Unt) (ha:Option Addr) (hc:Nat) (fa:Option Addr) (fc:Nat):Obj:=.cells #[.slice ha u.h.length hc,.slice fa u.fs.length fc,.int .i64 u.main] 27
structure UB (u:Unt) (ha:Option Addr) (hc:Nat) (fa:Option Addr) (fc:Nat) (w wr:World):Prop where
 hb:Below w.heap.size w wr
 b1:Blk wr w.heap.size #[.slice ha u.h.length hc,.slice fa u.fs.length fc,.int .i64 u.main] 27
 h:ClssAt wr ha u.h
 f:FncsAt wr fa u.fs
section
variable {u:Unt} {ha:Option Addr} {hc:Nat} {fa:Option Addr} {fc:Nat} {w wr w':World}
theorem UB.below (k:UB u ha hc fa fc w wr) (hb:Below wr.heap.size wr w'):UB u ha hc fa fc w w':=⟨k.hb.trans (hb.mono k.hb.size),k.b1.below hb,k.h.below hb,k.f.below hb⟩
theorem UB.start (h:ClssAt w ha u.h) (f:FncsAt w fa u.fs):UB u ha hc fa fc w (w.alloc (unC u ha hc fa fc)) :=
 ⟨one_below ..,blk_new ..,h.below (one_below ..),f.below (one_below ..)⟩
theorem UB.cells (k:UB u ha hc fa fc w wr):wr.cell? ⟨w.heap.size,0,none⟩=some (.slice ha u.h.length hc)∧wr.cell? ⟨w.heap.size,1,none⟩=some (.slice fa u.fs.length fc)∧wr.cell? ⟨w.heap.size,2,none⟩=some (.int .i64 u.main) :=
 ⟨k.b1.cell 0 (by simp),k.b1.cell 1 (by simp),k.b1.cell 2 (by simp)⟩
end
theorem storeFunc {ops:Array Oper} {rest:List Oper} {o:Oper} {a:Act} {w:World} {Q:Exit→Act→World→Prop} (hgd:o.guard=none) (hd:o.dst=none) (x y:Operand) (ho:o.op = .store 90 x y)
 (g:Nat) (f:Fnc) (va:Option Addr) (vc:Nat) (ca:Option Addr) (cc:Nat) (hx:a.eval x = .pointer (some ⟨g,0,none⟩)) (hy:a.eval y=fnV f va vc ca cc)
 (old:Array Value) (hg:Blk w g old 90) (hold:old.size=7)
 (h:wpList Tryz.prog ops Q rest a (w.setRow g #[.string f.cls,.string f.name,.bool f.stat,.int .i64 f.params,.slice va f.vars.length vc,.string f.result,.slice ca f.code.length cc])):wpList Tryz.prog ops Q (o :: rest) a w :=
 wpList_store_row hgd 90 x y ho g _ hx hy 90 old hg (by kernel_rfl) hold (by simp [Value.oneCell']) (by rw [hd];exact h)
abbrev zFnC:Obj:=.cells #[.string ⟨#[]⟩,.string ⟨#[]⟩,.bool false,.int .i64 0,.slice none 0 0,.string ⟨#[]⟩,.slice none 0 0] 90
structure WholeOk (u:Unt):Prop where
 h:(checkH identB u.h).2=0
 l:u.fs.length≤256
 s:sumM u.h=u.fs.length
 m:0≤u.main∧u.main < u.fs.length
set_option maxRecDepth 100000 in
set_option maxHeartbeats 4000000 in
theorem whole133 (u:Unt) (ha:Option Addr) (hc:Nat) (fa:Option Addr) (fc:Nat) (w:World) (h:ClssAt w ha u.h) (f:FncsAt w fa u.fs) (hb:Bnd u.h) (hfl:u.fs.length≤100000) :
 Calls Tryz.prog 68 #[unV u ha hc fa fc] w (IPost (fun n=>n=0→WholeOk u) w):=by
 have S0:=Lib.hid (UB.start (hc:=hc) (fc:=fc) h f)
 have HBN:=Lib.hid hb
 have hl:=hb.l
 have HK:Hid (∀ h1 h2 h3 h4,WholeOk u):=fun h1 h2 h3 h4=>⟨h1,h2,h3,h4⟩
 have HSB:Hid (∀ k,sumM (u.h.take k)≤k * 100000):=fun k=>sumM_le hb.m
 have HSS:Hid (∀ k (hk:k < u.h.length),sumM (u.h.take (k + 1))=sumM (u.h.take k) + u.h[k].methods.length):=fun k hk=>sumM_snoc hk
 clear h f hb
 unfold unV
 generalize WholeOk u=R at *
 go_enter Tryz.func68,Tryz.ntmps68
 go_upto_region 1 with (fail)
 generalize w.alloc _=W at *
 obtain ⟨z0,z1,z2⟩:=S0.out.cells
 go_wp2_with fail
 refine (check142 u.h ha hc _ S0.out.h HBN.out).mono ?_
 rintro e w' ⟨rfl,hb'⟩
 have S1:=Lib.hid (S0.out.below hb')
 clear S0 hb' z0 z1 z2
 generalize (checkH identB u.h).1=c1 at *
 generalize (checkH identB u.h).2=c2 at *
 by_cases h1:c2=0
 case neg =>
  have t1:(c2 != 0)=true:=by simpa using h1
  have HN:=Lib.hid h1
  clear h1
  go_wp2
  go_ret
  exact ⟨S1.out.hb,_,rfl,fun e=>absurd e HN.out⟩
 subst h1
 obtain ⟨z0,z1,z2⟩:=S1.out.cells
 by_cases h2:256 < u.fs.length
 case pos =>
  have t1:decide ((256:Int) < (u.fs.length:Int))=true:=by simp;omega
  clear h2
  go_wp2
  go_ret
  exact ⟨S1.out.hb,_,rfl,fun e=>by cases e⟩
 have t1:decide ((256:Int) < (u.fs.length:Int))=false:=by simp;omega
 have h256:u.fs.length≤256:=by omega
 clear h2
 go_wp2
 clear t1
 go_loop [5,6] (fun s k=>∃ q p:Nat,q≤u.h.length∧p≤q * 100000∧s = .int .i64 p∧k = .int .i64 q∧Hid (p=sumM (u.h.take q))) (fun _ k=>u.h.length - (intOf k).toNat)
 case atStart=>exact ⟨0,0,Nat.zero_le _,Nat.zero_le _,rfl,rfl,(by show _=_;simp [sumM])⟩
 case round =>
  obtain ⟨q,p,hq,hp,rfl,rfl,HI⟩:=hrel
  by_cases hlt:q < u.h.length
  case pos =>
   obtain ⟨b,off,fa',fc',ma,mc,rfl,-,-,-,m3,-,-⟩:=S1.out.h q hlt
   have hml:=HBN.out.m _ (List.getElem_mem hlt)
   have HS:=Lib.hid (HSS.out q hlt)
   generalize u.h[q]=x at *
   go_wp2
   go_round
   case rel=>exact ⟨q + 1,p + x.methods.length,by omega,by omega,by go_num,by go_num,(by show _=_;rw [HS.out,HI.out])⟩
   case measure=>simp [intOf];omega
  have HP:Hid (p=sumM u.h):=by show _=_;rw [HI.out,List.take_of_length_le (by omega)]
  clear HI HSS HSB
  by_cases h3:p=u.fs.length
  case neg =>
   have t1:((p:Int) != (u.fs.length:Int))=true:=by simp;omega
   clear h3
   go_wp2
   go_ret
   exact ⟨S1.out.hb,_,rfl,fun e=>by cases e⟩
  have t1:((p:Int) != (u.fs.length:Int))=false:=by simp;omega
  have HPL:=Lib.hid h3
  have hple:p≤u.fs.length:=by omega
  have hpge:u.fs.length≤p:=by omega
  clear h3
  go_upto_region 13 with (fail)
  clear t1
  by_cases h4:0≤u.main
  case neg =>
   have t1:decide (u.main < 0)=true:=by simp;omega
   clear h4
   go_wp2
   go_ret
   exact ⟨S1.out.hb,_,rfl,fun e=>by cases e⟩
  have t1:decide (u.main < 0)=false:=by simp;omega
  by_cases h5:u.main < (p:Int)
  case neg =>
   have t2:decide ((p:Int)≤u.main)=true:=by simp;omega
   clear h4 h5
   go_wp2
   go_ret
   exact ⟨S1.out.hb,_,rfl,fun e=>by cases e⟩
  have t2:decide ((p:Int)≤u.main)=false:=by simp;omega
  obtain ⟨mq,hmq⟩:∃ mq:Nat,u.main=mq:=⟨u.main.toNat,by omega⟩
  have hmn:mq < u.fs.length:=by omega
  have HRR:Hid R:=HK.out trivial h256 (by rw [← HP.out,HPL.out]) ⟨h4,by omega⟩
  rw [hmq] at t1 t2 z2
  obtain ⟨b,off,va,vc,ca,cc,he,n0,n1,n2,n3,n4,n5,n6,-,-⟩:=S1.out.f mq hmn
  subst he
  have hbb:=one_below w' zFnC
  have BZ:Hid (Blk (w'.alloc zFnC) w'.heap.size _ 90):=blk_new ..
  have HB2:=Lib.hid (S1.out.hb.trans (hbb.mono S1.out.hb.size))
  have hsz:=S1.out.hb.size
  generalize u.fs[mq]=f at *
  clear h4 h5 hmq hbb
  go_upto_region 16 with (refine storeFunc rfl rfl _ _ rfl w'.heap.size f va vc ca cc rfl rfl _ BZ.out rfl ?_)
  have B2:=Lib.hid (BZ.out.setRow #[.string f.cls,.string f.name,.bool f.stat,.int .i64 f.params,.slice va f.vars.length vc,.string f.result,.slice ca f.code.length cc])
  have HB3:=Lib.hid (below_row HB2.out hsz #[.string f.cls,.string f.name,.bool f.stat,.int .i64 f.params,.slice va f.vars.length vc,.string f.result,.slice ca f.code.length cc])
  clear S1 BZ HB2 n0 n1 n2 n3 n4 n5 n6 z0 z1 z2 t1 t2
  generalize (w'.alloc zFnC).setRow w'.heap.size _=W2 at *
  have y0:=B2.out.cell 0 (by simp)
  have y1:=B2.out.cell 1 (by simp)
  have y2:=B2.out.cell 2 (by simp)
  have y3:=B2.out.cell 3 (by simp)
  have y5:=B2.out.cell 5 (by simp)
  clear B2
  simp only [List.getElem_toArray,List.getElem_cons_zero,List.getElem_cons_succ] at y0 y1 y2 y3 y5
  obtain ⟨st,hst⟩:∃ st,f.stat=st:=⟨_,rfl⟩
  rw [hst] at y2
  clear hst
  cases e1:(f.cls.toList == ([77,97,105,110]:List UInt8)) <;> cases e2:(f.name.toList == ([109,97,105,110]:List UInt8)) <;> cases st <;> cases e3:(f.params != 0) <;> cases e4:(f.result.toList == ([]:List UInt8))
  all_goals
   go_wp2
   go_ret
   exact ⟨HB3.out,_,rfl,fun _=>HRR.out⟩
end Go.Proofs.YtffcklfigpmlgaaGreatDoor
namespace Go.Proofs.YtffcklfigpmlgaaGreatDoor
open Go.RowKit Go.Unit0

structure BndU (u:Unt):Prop where
 h:Bnd u.h
 l:u.fs.length≤100000
 f:∀ f ∈ u.fs,BndF f
structure UnitOk (u:Unt):Prop where
 w:WholeOk u
 f:∀ i (h:i < u.fs.length),∃ x g,numF u.h i=some (x,g)∧FitsOk u.fs[i] x g
 c:∀ i (h:i < u.fs.length) j (hj:j < u.fs[i].code.length),CallOk u.h u.fs[i].code[j]
def I3Post (P:Int→Prop) (w:World) (e:Ending) (w':World):Prop:=Below w.heap.size w w'∧∃ m k n,e = .returned (.tuple #[.int .i64 m,.int .i64 k,.int .i64 n])∧P n
set_option maxRecDepth 100000 in
set_option maxHeartbeats 4000000 in
theorem checkU89 (u:Unt) (ha:Option Addr) (hc:Nat) (fa:Option Addr) (fc:Nat) (w:World) (h:ClssAt w ha u.h) (f:FncsAt w fa u.fs) (hb:BndU u) :
 Calls Tryz.prog 39 #[unV u ha hc fa fc] w (I3Post (fun n=>n=0→UnitOk u) w):=by
 have S0:=Lib.hid (UB.start (hc:=hc) (fc:=fc) h f)
 have HBN:=Lib.hid hb
 have hl:=hb.l
 have HW:Hid (∀ w1,ClssAt w1 ha u.h→FncsAt w1 fa u.fs→Calls Tryz.prog 68 #[unV u ha hc fa fc] w1 (IPost (fun n=>n=0→WholeOk u) w1)):=fun w1 h1 h2=>whole133 u ha hc fa fc w1 h1 h2 hb.h hb.l
 have HK:Hid (∀ (_:WholeOk u) (_:∀ i (h:i < u.fs.length),∃ x g,numF u.h i=some (x,g)∧FuncOk u.h u.fs[i] x g),UnitOk u):=fun h1 h2=>⟨h1,fun i h=>(h2 i h).imp fun _ k=>k.imp fun _ k=>⟨k.1,k.2.k⟩,fun i h=>by obtain ⟨_,_,_,k⟩:=h2 i h;exact k.c⟩
 clear h f hb
 unfold unV at *
 generalize UnitOk u=R at *
 go_enter Tryz.func39,Tryz.ntmps39
 go_upto_region 1 with (fail)
 generalize w.alloc _=W at *
 obtain ⟨z0,z1,z2⟩:=S0.out.cells
 go_wp2_with fail
 refine (HW.out _ S0.out.h S0.out.f).mono ?_
 rintro e w' ⟨hb',n,rfl,hr⟩
 have HWO:=Lib.hid hr
 have S1:=Lib.hid (S0.out.below hb')
 clear S0 hb' z0 z1 z2 hr HW
 by_cases h1:n=0
 case neg =>
  have t1:(n != 0)=true:=by simpa using h1
  have HN:=Lib.hid h1
  clear h1
  go_wp2
  refine bodyPost_ret (v:=.tuple #[.int .i64 (-1),.int .i64 (-1),.int .i64 n]) (by simp [results,Tryz.results39,go_sem]) rfl ?_
  exact ⟨S1.out.hb,_,_,_,rfl,fun e=>absurd e HN.out⟩
 subst h1
 replace HWO:=Lib.hid (HWO.out rfl)
 have h256:=HWO.out.l
 go_wp2
 go_loopw [6,7] (fun s k wr=>∃ q p:Nat,q≤u.fs.length∧p≤q * 100000∧s = .int .i64 p∧k = .int .i64 q∧Hid (∀ i (h:i < u.fs.length),i < q→∃ x g,numF u.h i=some (x,g)∧FuncOk u.h u.fs[i] x g)∧Hid (UB u ha hc fa fc w wr)) (fun _ k _=>u.fs.length - (intOf k).toNat)
 case atStart=>exact ⟨0,0,Nat.zero_le _,Nat.zero_le _,rfl,rfl,(fun i h hi=>absurd hi (by omega)),S1.out⟩
 case round =>
  clear S1
  obtain ⟨q,p,hq,hp,rfl,rfl,HI,S⟩:=hrel
  obtain ⟨z0,z1,z2⟩:=S.out.cells
  by_cases hlt:q < u.fs.length
  case neg =>
   have HR:Hid R:=HK.out HWO.out fun i h=>HI.out i h (by omega)
   by_cases h3:1024 < p
   ·have t1:decide ((1024:Int) < (p:Int))=true:=by simp;omega
    clear h3
    go_wp2
    refine bodyPost_ret (v:=.tuple #[.int .i64 (-1),.int .i64 (-1),.int .i64 3]) (by simp [results,Tryz.results39,go_sem]) rfl ?_
    exact ⟨S.out.hb,_,_,_,rfl,fun e=>by cases e⟩
   ·have t1:decide ((1024:Int) < (p:Int))=false:=by simp;omega
    clear h3
    go_wp2
    refine bodyPost_ret (v:=.tuple #[.int .i64 0,.int .i64 0,.int .i64 0]) (by simp [results,Tryz.results39,go_sem]) rfl ?_
    exact ⟨S.out.hb,_,_,_,rfl,fun _=>HR.out⟩
  obtain ⟨x,g,hnum⟩:=numF_some (l:=u.h) (n:=q) (by rw [HWO.out.s];exact hlt)
  have hgl:g.params.length≤100000:=by
   obtain ⟨c,h1,-,h2⟩:=numF_mem hnum
   exact HBN.out.h.p c h1 g h2
  have HNU:=Lib.hid hnum
  clear hnum
  go_wp2_with fail
  refine (numbered134 u.h ha hc q _ S.out.h HBN.out.h (by omega)).mono ?_
  rintro e w1 ⟨hb',hres⟩
  obtain ⟨pa,pc,rfl,hst⟩:∃ pa pc,e = .returned (.tuple #[.string x,sgV g pa pc,.bool true])∧StrsAt wr pa g.params:=by
   rcases hres with ⟨e1,-⟩ | ⟨x',g',pa,pc,e1,e2,h3⟩
   ·rw [HNU.out] at e1;cases e1
   ·rw [HNU.out] at e1;cases e1;exact ⟨pa,pc,e2,h3⟩
  clear hres
  have S2:=Lib.hid (S.out.below hb')
  have B2:Hid (Blk (w1.alloc zSgC) w1.heap.size #[.string ⟨#[]⟩,.bool false,.slice none 0 0,.string ⟨#[]⟩] 87):=blk_new ..
  have hb3:Below wr.heap.size wr (w1.alloc zSgC):=hb'.trans ((one_below w1 zSgC).mono hb'.size)
  have hge:wr.heap.size≤w1.heap.size:=hb'.size
  have HB4:=Lib.hid (below_row hb3 hge #[.string g.name,.bool g.stat,.slice pa g.params.length pc,.string g.result])
  have B3:=Lib.hid (B2.out.setRow #[.string g.name,.bool g.stat,.slice pa g.params.length pc,.string g.result])
  have S3:=Lib.hid (S.out.below HB4.out)
  have ST3:=Lib.hid (hst.below HB4.out)
  clear hb3 hst hb' z0 z1 z2
  go_upto_region 9 with (refine storeSig rfl rfl _ _ rfl w1.heap.size g pa pc rfl rfl _ B2.out rfl ?_)
  clear S2 S B2 HB4
  generalize (w1.alloc zSgC).setRow w1.heap.size _=W3 at *
  generalize w1.heap.size=n9 at *
  obtain ⟨z0,z1,z2⟩:=S3.out.cells
  obtain ⟨b,off,va,vc,ca,cc,he,n0,n1,n2,n3,n4,n5,n6,hv,hi⟩:=S3.out.f q hlt
  subst he
  have HBF:=Lib.hid (HBN.out.f _ (List.getElem_mem hlt))
  have HBH:=Lib.hid HBN.out.h
  have HCF:Hid (∀ o:WB W3,Calls Tryz.prog 70 #[.agg #[.slice ha u.h.length hc],fnV u.fs[q] va vc ca cc,.string x,sgV g pa pc] o.u (I2Post (fun _ n=>n=0→FuncOk u.h u.fs[q] x g) o.u)):=fun o=>checkFunc135 u.h ha hc u.fs[q] va vc ca cc x g pa pc o.u (S3.out.h.below o.h) (hv.below o.h) (hi.below o.h) (ST3.out.below o.h) HBH.out HBF.out hgl
  have s0:=B3.out.cell 0 (by simp)
  have s1:=B3.out.cell 1 (by simp)
  have s2:=B3.out.cell 2 (by simp)
  have s3:=B3.out.cell 3 (by simp)
  simp only [List.getElem_toArray,List.getElem_cons_zero,List.getElem_cons_succ] at s0 s1 s2 s3
  have hne:Nonempty (WB W3):=⟨⟨W3,Below.refl _ _⟩⟩
  have HNEXT:Hid (FuncOk u.h u.fs[q] x g→∀ i (h:i < u.fs.length),i < q + 1→∃ x g,numF u.h i=some (x,g)∧FuncOk u.h u.fs[i] x g):=fun e i h hi=>by
   by_cases e2:i < q
   ·exact HI.out i h e2
   ·obtain rfl:i=q:=by omega
    exact ⟨x,g,HNU.out,e⟩
  have hcode:=HBF.out.c
  clear HI HNU B3 ST3 hv hi
  have HFQ:Hid (FncsAt W3 (some ⟨b,off,none⟩) u.fs):=S3.out.f
  unfold fnV sgV at HCF
  have HLEN:Hid (∀ j,j < u.fs[q].code.length→True):=fun _ _=>trivial
  generalize hfq:u.fs[q]=fq at HCF n0 n1 n2 n3 n4 n5 n6 HNEXT hcode
  have k0:∀ o:WB W3,o.u.cell? ⟨w.heap.size,0,none⟩=some (.slice ha u.h.length hc):=fun o=>cell_below o.h z0
  have k1:∀ o:WB W3,o.u.cell? ⟨w.heap.size,1,none⟩=some (.slice (some ⟨b,off,none⟩) u.fs.length fc):=fun o=>cell_below o.h z1
  have m0:∀ o:WB W3,o.u.cell? ⟨b,off + q * 7,none⟩=some (.string fq.cls):=fun o=>cell_below o.h n0
  have m1:∀ o:WB W3,o.u.cell? ⟨b,off + q * 7 + 1,none⟩=some (.string fq.name):=fun o=>cell_below o.h n1
  have m2:∀ o:WB W3,o.u.cell? ⟨b,off + q * 7 + 2,none⟩=some (.bool fq.stat):=fun o=>cell_below o.h n2
  have m3:∀ o:WB W3,o.u.cell? ⟨b,off + q * 7 + 3,none⟩=some (.int .i64 fq.params):=fun o=>cell_below o.h n3
  have m4:∀ o:WB W3,o.u.cell? ⟨b,off + q * 7 + 4,none⟩=some (.slice va fq.vars.length vc):=fun o=>cell_below o.h n4
  have m5:∀ o:WB W3,o.u.cell? ⟨b,off + q * 7 + 5,none⟩=some (.string fq.result):=fun o=>cell_below o.h n5
  have m6:∀ o:WB W3,o.u.cell? ⟨b,off + q * 7 + 6,none⟩=some (.slice ca fq.code.length cc):=fun o=>cell_below o.h n6
  have j0:∀ o:WB W3,o.u.cell? ⟨n9,0,none⟩=some (.string g.name):=fun o=>cell_below o.h s0
  have j1:∀ o:WB W3,o.u.cell? ⟨n9,1,none⟩=some (.bool g.stat):=fun o=>cell_below o.h s1
  have j2:∀ o:WB W3,o.u.cell? ⟨n9,2,none⟩=some (.slice pa g.params.length pc):=fun o=>cell_below o.h s2
  have j3:∀ o:WB W3,o.u.cell? ⟨n9,3,none⟩=some (.string g.result):=fun o=>cell_below o.h s3
  have hcur:Below W3.heap.size W3 W3.drew:=(Below.refl _ _).drew
  clear z0 z1 z2 n0 n1 n2 n3 n4 n5 n6 s0 s1 s2 s3
  refine wp_region_Y (fun w'=>∃ o:WB W3,w' = o.u) (by kernel_rfl) ?_
  change wpAnyY _ _ _ _ _ _ _ _ W3.drew
  refine wpAnyY_take 0 rfl (by kernel_rfl) (fun _ _ _ _ h=>h) ⟨⟨_,hcur⟩,rfl⟩ (fun K hK=>?_);go_simp;refine hK _ ?_;clear hK K
  refine wpAnyY_take 1 rfl (by kernel_rfl) (fun _ _ _ _ h=>h) ⟨⟨_,hcur⟩,rfl⟩ (fun K hK=>?_);go_simp;refine hK _ ?_;clear hK K
  refine wpAnyY_take 2 rfl (by kernel_rfl) (fun _ _ _ _ h=>h) ⟨⟨_,hcur⟩,rfl⟩ (fun K hK=>?_);go_simp;refine hK _ ?_;clear hK K
  refine wpAnyY_take 3 rfl (by kernel_rfl) (fun _ _ _ _ h=>h) ⟨⟨_,hcur⟩,rfl⟩ (fun K hK=>?_);go_simp;refine hK _ ?_;clear hK K
  refine wpAnyY_take 4 rfl (by kernel_rfl) (fun _ _ _ _ h=>h) ⟨⟨_,hcur⟩,rfl⟩ (fun K hK=>?_);go_simp;refine hK _ ?_;clear hK K
  refine wpAnyY_take 5 rfl (by kernel_rfl) (fun _ _ _ _ h=>h) ⟨⟨_,hcur⟩,rfl⟩ (fun K hK=>?_);go_simp;refine hK _ ?_;clear hK K
  refine wpAnyY_take 6 rfl (by kernel_rfl) (fun _ _ _ _ h=>h) ⟨⟨_,hcur⟩,rfl⟩ (fun K hK=>?_);go_simp;refine hK _ ?_;clear hK K
  refine wpAnyY_take 7 rfl (by kernel_rfl) (fun _ _ _ _ h=>h) ⟨⟨_,hcur⟩,rfl⟩ (fun K hK=>?_);go_simp;refine hK _ ?_;clear hK K
  refine wpAnyY_take 8 rfl (by kernel_rfl) (fun _ _ _ _ h=>h) ⟨⟨_,hcur⟩,rfl⟩ (fun K hK=>?_);go_simp;refine hK _ ?_;clear hK K
  refine wpAnyY_one 9 rfl (by kernel_rfl) ?_
  go_wp2_with fail
  refine (HCF.out ⟨_,hcur⟩).mono ?_
  rintro e w2 ⟨hb2,m,n,rfl,hfit⟩
  have hcur2:Below W3.heap.size W3 w2:=hcur.trans (hb2.mono hcur.size)
  have HFIT:=Lib.hid hfit
  clear hfit
  go_wp2
  refine ⟨⟨⟨_,hcur2⟩,rfl⟩,?_⟩
  refine wpAnyY_take 10 rfl (by kernel_rfl) (fun _ _ _ _ h=>h) ⟨⟨_,hcur2⟩,rfl⟩ (fun K hK=>?_);go_simp;refine hK _ ?_;clear hK K
  refine wpAnyY_take 11 rfl (by kernel_rfl) (fun _ _ _ _ h=>h) ⟨⟨_,hcur2⟩,rfl⟩ (fun K hK=>?_);go_simp;refine hK _ ?_;clear hK K
  refine wpAnyY_take 12 rfl (by kernel_rfl) (fun _ _ _ _ h=>h) ⟨⟨_,hcur2⟩,rfl⟩ (fun K hK=>?_);go_simp;refine hK _ ?_;clear hK K
  refine wpAnyY_one 13 rfl (by kernel_rfl) ?_
  go_wp2
  refine ⟨⟨⟨_,hcur2⟩,rfl⟩,?_⟩
  refine wpAnyY_one 14 rfl (by kernel_rfl) ?_
  go_wp2
  refine ⟨⟨⟨_,hcur2⟩,rfl⟩,?_⟩
  refine wpAnyY_done (by kernel_rfl) ?_ _
  have S4:=Lib.hid (S3.out.below hcur2)
  clear k0 k1 m0 m1 m2 m3 m4 m5 m6 j0 j1 j2 j3 hcur hcur2 S3 hb2 HCF HFQ HLEN
  by_cases hn:n=0
  case neg =>
   have t1:(n != 0)=true:=by simpa using hn
   have HN:=Lib.hid hn
   clear hn
   go_wp2
   refine bodyPost_ret (v:=.tuple #[.int .i64 q,.int .i64 m,.int .i64 n]) (by simp [results,Tryz.results39,go_sem]) rfl ?_
   exact ⟨S4.out.hb,_,_,_,rfl,fun e=>absurd e HN.out⟩
  subst hn
  have HNX:=Lib.hid (HNEXT.out (HFIT.out rfl))
  have HFQ:=Lib.hid hfq
  clear HNEXT HFIT hfq
  go_wp2
  go_loop [6,13] (fun s k=>∃ r j:Nat,j≤fq.code.length∧r≤q * 100000 + j∧s = .int .i64 r∧k = .int .i64 j) (fun _ k=>fq.code.length - (intOf k).toNat)
  case atStart=>exact ⟨p,0,Nat.zero_le _,Nat.le_trans hp (Nat.le_add_right _ _),rfl,rfl⟩
  case round =>
   obtain ⟨r,j,hj,hr,rfl,rfl⟩:=hrel
   obtain ⟨z0,z1,z2⟩:=S4.out.cells
   obtain ⟨b',off',va',vc',ca',cc',he,-,-,-,-,-,-,n6,-,hi⟩:=S4.out.f q hlt
   cases he
   rw [HFQ.out] at n6
   rw [HFQ.out] at hi
   by_cases hjl:j < fq.code.length
   case neg =>
    clear hi
    go_wp2
    go_roundw
    case rel=>exact ⟨q + 1,r,by omega,by omega,by go_num,rfl,HNX.out,S4.out⟩
    case measure=>simp [intOf];omega
   obtain ⟨b3,o3,ga,gc,rfl,c0,-⟩:=hi j hjl
   generalize fq.code[j].op=oj at c0
   clear hi
   cases e1:(oj == 6)
   all_goals
    go_wp2
    go_round
    case rel=>first | exact ⟨r,j + 1,by omega,by omega,rfl,by go_num⟩ | exact ⟨r + 1,j + 1,by omega,by omega,by go_num,by go_num⟩
    case measure=>simp [intOf];omega
end Go.Proofs.YtffcklfigpmlgaaGreatDoor
namespace Go.Proofs.YtffcklfigpmlgaaGreatDoor
open Go.RowKit Go.Unit0

theorem storeCls {ops:Array Oper} {rest:List Oper} {o:Oper} {a:Act} {w:World} {Q:Exit→Act→World→Prop} (hgd:o.guard=none) (hd:o.dst=none) (x y:Operand) (ho:o.op = .store 85 x y)
 (g:Nat) (k:Cls) (fa:Option Addr) (fc:Nat) (ma:Option Addr) (mc:Nat) (hx:a.eval x = .pointer (some ⟨g,0,none⟩)) (hy:a.eval y = .agg #[.string k.name,.string k.super,.slice fa k.fields.length fc,.slice ma k.methods.length mc])
 (old:Array Value) (hg:Blk w g old 85) (hold:old.size=4)
 (h:wpList Tryz.prog ops Q rest a (w.setRow g #[.string k.name,.string k.super,.slice fa k.fields.length fc,.slice ma k.methods.length mc])):wpList Tryz.prog ops Q (o :: rest) a w :=
 wpList_store_row hgd 85 x y ho g _ hx hy 85 old hg (by kernel_rfl) hold (by simp [Value.oneCell']) (by rw [hd];exact h)
abbrev zClC:Obj:=.cells #[.string ⟨#[]⟩,.string ⟨#[]⟩,.slice none 0 0,.slice none 0 0] 85
set_option maxRecDepth 100000 in
set_option maxHeartbeats 4000000 in
theorem fit38 (u:Unt) (ha:Option Addr) (hc:Nat) (fa:Option Addr) (fc:Nat) (most:Nat) (w:World) (h:ClssAt w ha u.h) (f:FncsAt w fa u.fs) (hmo:most≤1000) :
 Calls Tryz.prog 11 #[unV u ha hc fa fc,.int .i64 most] w (BPost (fun b=>b=true→FitOk u most) w):=by
 have S0:=Lib.hid (UB.start (hc:=hc) (fc:=fc) h f)
 have HK:Hid (∀ h1 h2 h3 h4 h5,FitOk u most):=fun h1 h2 h3 h4 h5=>⟨h1,h2,h3,h4,h5⟩
 clear h f
 unfold unV
 generalize FitOk u most=R at *
 go_enter Tryz.func11,Tryz.ntmps11
 go_upto_region 1 with (fail)
 generalize w.alloc _=W at *
 obtain ⟨z0,z1,z2⟩:=S0.out.cells
 by_cases h1:20 < u.fs.length
 ·have t1:decide ((20:Int) < (u.fs.length:Int))=true:=by simp;omega
  clear h1
  go_wp2
  go_ret
  exact ⟨S0.out.hb,_,rfl,fun e=>by cases e⟩
 have t1:decide ((20:Int) < (u.fs.length:Int))=false:=by simp;omega
 by_cases h2:12 < u.h.length
 ·have t2:decide ((12:Int) < (u.h.length:Int))=true:=by simp;omega
  clear h1 h2
  go_wp2
  go_ret
  exact ⟨S0.out.hb,_,rfl,fun e=>by cases e⟩
 have t2:decide ((12:Int) < (u.h.length:Int))=false:=by simp;omega
 have hf20:u.fs.length≤20:=by omega
 have hc12:u.h.length≤12:=by omega
 clear h1 h2
 replace HK:=Lib.hid (HK.out hf20 hc12)
 go_wp2
 clear t1 t2 z0 z1 z2
 go_loopw [5] (fun i wr=>∃ q:Nat,q≤u.h.length∧i = .int .i64 q∧Hid (∀ j (h:j < u.h.length),j < q→FitC u.h[j])∧Hid (UB u ha hc fa fc w wr)) (fun i _=>u.h.length - (intOf i).toNat)
 case atStart=>exact ⟨0,Nat.zero_le _,rfl,(fun j h hj=>absurd hj (by omega)),S0.out⟩
 case round =>
  clear S0
  obtain ⟨q,hq,rfl,HI,S⟩:=hrel
  obtain ⟨z0,z1,z2⟩:=S.out.cells
  by_cases hlt:q < u.h.length
  case pos =>
   obtain ⟨b,off,fa',fc',ma,mc,he,m0,m1,m2,m3,-,hs⟩:=S.out.h q hlt
   subst he
   have HS:=Lib.hid hs
   have HNX:Hid (FitC u.h[q]→∀ j (h:j < u.h.length),j < q + 1→FitC u.h[j]):=fun e j h hj=>by
    by_cases e2:j < q
    ·exact HI.out j h e2
    ·obtain rfl:j=q:=by omega
     exact e
   generalize u.h[q]=x at *
   have BZ:Hid (Blk (wr.alloc zClC) wr.heap.size _ 85):=blk_new ..
   have hsz:wr.heap.size≤wr.heap.size:=Nat.le_refl _
   clear hs
   go_upto_region 7 with (refine storeCls rfl rfl _ _ rfl wr.heap.size x fa' fc' ma mc rfl rfl _ BZ.out rfl ?_)
   have HB2:=Lib.hid (below_row (one_below wr zClC) hsz #[.string x.name,.string x.super,.slice fa' x.fields.length fc',.slice ma x.methods.length mc])
   have B2:=Lib.hid (BZ.out.setRow #[.string x.name,.string x.super,.slice fa' x.fields.length fc',.slice ma x.methods.length mc])
   have S2:=Lib.hid (S.out.below HB2.out)
   have HS2:=Lib.hid (HS.out.below HB2.out)
   clear S BZ HB2 HS m0 m1 m2 m3 z0 z1 z2 hsz
   generalize (wr.alloc zClC).setRow wr.heap.size _=W2 at *
   generalize wr.heap.size=n2 at *
   have y2:=B2.out.cell 2 (by simp)
   have y3:=B2.out.cell 3 (by simp)
   simp only [List.getElem_toArray,List.getElem_cons_zero,List.getElem_cons_succ] at y2 y3
   by_cases h1:20 < x.fields.length
   ·have t1:decide ((20:Int) < (x.fields.length:Int))=true:=by simp;omega
    clear h1
    go_wp2
    go_ret
    exact ⟨S2.out.hb,_,rfl,fun e=>by cases e⟩
   have t1:decide ((20:Int) < (x.fields.length:Int))=false:=by simp;omega
   by_cases h2:20 < x.methods.length
   ·have t2:decide ((20:Int) < (x.methods.length:Int))=true:=by simp;omega
    clear h1 h2
    go_wp2
    go_ret
    exact ⟨S2.out.hb,_,rfl,fun e=>by cases e⟩
   have t2:decide ((20:Int) < (x.methods.length:Int))=false:=by simp;omega
   have hxf:x.fields.length≤20:=by omega
   have hxm:x.methods.length≤20:=by omega
   clear h1 h2
   go_wp2
   clear t1 t2 y2
   go_loop [7] (fun i=>∃ k:Nat,k≤x.methods.length∧i = .int .i64 k∧Hid (∀ j (h:j < x.methods.length),j < k→x.methods[j].params.length≤20)) (fun i=>x.methods.length - (intOf i).toNat)
   case atStart=>exact ⟨0,Nat.zero_le _,rfl,fun j h hj=>absurd hj (by omega)⟩
   case round =>
    obtain ⟨k,hk,rfl,HJ⟩:=hrel
    by_cases hkl:k < x.methods.length
    case neg =>
     have HNN:=Lib.hid (HNX.out ⟨hxf,hxm,fun m hm=>by
      obtain ⟨j,hj,rfl⟩:=List.getElem_of_mem hm
      exact HJ.out j hj (by omega)⟩)
     go_wp2
     go_roundw
     case rel=>exact ⟨q + 1,by omega,by go_num,HNN.out,S2.out⟩
     case measure=>simp [intOf];omega
    obtain ⟨b3,o3,pa,pc,he,-,-,p2,-,-⟩:=HS2.out k hkl
    subst he
    have HN:Hid (x.methods[k].params.length≤20→∀ j (h:j < x.methods.length),j < k + 1→x.methods[j].params.length≤20):=fun e j h hj=>by
     by_cases e2:j < k
     ·exact HJ.out j h e2
     ·obtain rfl:j=k:=by omega
      exact e
    generalize x.methods[k].params.length=pl at *
    by_cases h1:20 < pl
    ·have t1:decide ((20:Int) < (pl:Int))=true:=by simp;omega
     clear h1
     go_wp2
     go_ret
     exact ⟨S2.out.hb,_,rfl,fun e=>by cases e⟩
    have t1:decide ((20:Int) < (pl:Int))=false:=by simp;omega
    have HNN:=Lib.hid (HN.out (by omega))
    clear h1
    go_wp2
    go_round
    case rel=>exact ⟨k + 1,by omega,by go_num,HNN.out⟩
    case measure=>simp [intOf];omega
  have HCC:Hid (∀ x ∈ u.h,FitC x):=fun x hx=>by
   obtain ⟨j,hj,rfl⟩:=List.getElem_of_mem hx
   exact HI.out j hj (by omega)
  replace HK:=Lib.hid (HK.out HCC.out)
  have HSS:Hid (∀ k (hk:k < u.fs.length),sumC (u.fs.take (k + 1))=sumC (u.fs.take k) + u.fs[k].code.length):=fun k hk=>sumC_snoc hk
  clear HI HCC
  go_wp2
  go_loop [8,9] (fun s i=>∃ q p:Nat,q≤u.fs.length∧p≤q * 1000∧s = .int .i64 p∧i = .int .i64 q∧Hid (p=sumC (u.fs.take q))∧Hid (∀ j (h:j < u.fs.length),j < q→FitF most u.fs[j])) (fun _ i=>u.fs.length - (intOf i).toNat)
  case atStart=>exact ⟨0,0,Nat.zero_le _,Nat.zero_le _,rfl,rfl,(by show _=_;simp [sumC]),(fun j h hj=>absurd hj (by omega))⟩
  case round =>
   obtain ⟨q,p,hq,hp,rfl,rfl,HP,HI⟩:=hrel
   obtain ⟨z0,z1,z2⟩:=S.out.cells
   by_cases hqf:q < u.fs.length
   case neg =>
    have HFF:Hid (∀ f ∈ u.fs,FitF most f):=fun x hx=>by
     obtain ⟨j,hj,rfl⟩:=List.getElem_of_mem hx
     exact HI.out j hj (by omega)
    have HPS:Hid (p=sumC u.fs):=by show _=_;rw [HP.out,List.take_of_length_le (by omega)]
    have HR:=Lib.hid (fun e:p≤most=>HK.out HFF.out (by rw [← HPS.out];exact e))
    clear HI HP
    by_cases h1:p≤most
    ·have t1:decide (p≤most)=true:=by simp;omega
     have HRR:=Lib.hid (HR.out h1)
     clear h1
     go_wp2
     go_ret
     exact ⟨S.out.hb,_,rfl,fun _=>HRR.out⟩
    ·have t1:decide (p≤most)=false:=by simp;omega
     clear h1
     go_wp2
     go_ret
     exact ⟨S.out.hb,_,rfl,fun e=>by cases e⟩
   obtain ⟨b,off,va,vc,ca,cc,he,-,-,-,-,m4,-,m6,-,hi⟩:=S.out.f q hqf
   subst he
   have HC:=Lib.hid hi
   have HSQ:=Lib.hid (HSS.out q hqf)
   have HNX:Hid (FitF most u.fs[q]→∀ j (h:j < u.fs.length),j < q + 1→FitF most u.fs[j]):=fun e j h hj=>by
    by_cases e2:j < q
    ·exact HI.out j h e2
    ·obtain rfl:j=q:=by omega
     exact e
   generalize u.fs[q]=x at *
   clear hi
   by_cases h1:most < x.code.length
   ·have t1:decide (most < x.code.length)=true:=by simp;omega
    clear h1
    go_wp2
    go_ret
    exact ⟨S.out.hb,_,rfl,fun e=>by cases e⟩
   have t1:decide (most < x.code.length)=false:=by simp;omega
   by_cases h2:most < x.vars.length
   ·have t2:decide (most < x.vars.length)=true:=by simp;omega
    clear h1 h2
    go_wp2
    go_ret
    exact ⟨S.out.hb,_,rfl,fun e=>by cases e⟩
   have t2:decide (most < x.vars.length)=false:=by simp;omega
   have hxc:x.code.length≤most:=by omega
   have hxv:x.vars.length≤most:=by omega
   clear h1 h2
   have HPN:Hid (p + x.code.length=sumC (u.fs.take (q + 1))):=by show _=_;rw [HSQ.out,HP.out]
   go_wp2
   clear t1 t2 m4 m6
   go_loop [11] (fun i=>∃ k:Nat,k≤x.code.length∧i = .int .i64 k∧Hid (∀ j (h:j < x.code.length),j < k→x.code[j].args.length≤20)) (fun i=>x.code.length - (intOf i).toNat)
   case atStart=>exact ⟨0,Nat.zero_le _,rfl,fun j h hj=>absurd hj (by omega)⟩
   case round =>
    obtain ⟨k,hk,rfl,HJ⟩:=hrel
    by_cases hkl:k < x.code.length
    case neg =>
     have HNN:=Lib.hid (HNX.out ⟨hxc,hxv,fun m hm=>by
      obtain ⟨j,hj,rfl⟩:=List.getElem_of_mem hm
      exact HJ.out j hj (by omega)⟩)
     go_wp2
     go_round
     case rel=>exact ⟨q + 1,p + x.code.length,by omega,by omega,by go_num,by go_num,HPN.out,HNN.out⟩
     case measure=>simp [intOf];omega
    obtain ⟨b3,o3,ga,gc,he,-,-,-,-,-,-,-,p7,-⟩:=HC.out k hkl
    subst he
    have HN:Hid (x.code[k].args.length≤20→∀ j (h:j < x.code.length),j < k + 1→x.code[j].args.length≤20):=fun e j h hj=>by
     by_cases e2:j < k
     ·exact HJ.out j h e2
     ·obtain rfl:j=k:=by omega
      exact e
    generalize x.code[k].args.length=pl at *
    by_cases h1:20 < pl
    ·have t1:decide ((20:Int) < (pl:Int))=true:=by simp;omega
     clear h1
     go_wp2
     go_ret
     exact ⟨S.out.hb,_,rfl,fun e=>by cases e⟩
    have t1:decide ((20:Int) < (pl:Int))=false:=by simp;omega
    have HNN:=Lib.hid (HN.out (by omega))
    clear h1
    go_wp2
    go_round
    case rel=>exact ⟨k + 1,by omega,by go_num,HNN.out⟩
    case measure=>simp [intOf];omega
end Go.Proofs.YtffcklfigpmlgaaGreatDoor
namespace Go.Proofs.YtffcklfigpmlgaaGreatDoor
open Go.RowKit Go.Unit0

theorem fitOk_bnd {u:Unt} {most:Nat} (h:FitOk u most) (hm:most≤1000):BndU u :=
 ⟨⟨by have:=h.nc;omega,fun x hx=>by have:=(h.c x hx).f;omega,fun x hx=>by have:=(h.c x hx).m;omega,fun x hx y hy=>by have:=(h.c x hx).p y hy;omega⟩,by have:=h.nf;omega,
   fun f hf=>⟨by have:=(h.f f hf).v;omega,by have:=(h.f f hf).c;omega,fun x hx=>by have:=(h.f f hf).a x hx;omega⟩⟩
set_option maxRecDepth 100000 in
set_option maxHeartbeats 4000000 in
theorem check13 (u:Unt) (ha:Option Addr) (hc:Nat) (fa:Option Addr) (fc:Nat) (w:World) (h:ClssAt w ha u.h) (f:FncsAt w fa u.fs) (hb:BndU u) :
 Calls Tryz.prog 12 #[unV u ha hc fa fc] w (I3Post (fun n=>n=0→UnitOk u) w):=by
 have S0:=Lib.hid (UB.start (hc:=hc) (fc:=fc) h f)
 have HC:Hid (∀ w1,ClssAt w1 ha u.h→FncsAt w1 fa u.fs→Calls Tryz.prog 39 #[unV u ha hc fa fc] w1 (I3Post (fun n=>n=0→UnitOk u) w1)):=fun w1 h1 h2=>checkU89 u ha hc fa fc w1 h1 h2 hb
 clear h f hb
 unfold unV at *
 go_enter Tryz.func12,Tryz.ntmps12
 go_upto_region 1 with (fail)
 generalize w.alloc _=W at *
 obtain ⟨z0,z1,z2⟩:=S0.out.cells
 go_wp2_with fail
 refine (HC.out _ S0.out.h S0.out.f).mono ?_
 rintro e w' ⟨hb',m,k,n,rfl,hr⟩
 have HR:=Lib.hid hr
 have S1:=Lib.hid (S0.out.below hb')
 clear S0 hb' z0 z1 z2 hr HC
 go_wp2
 refine bodyPost_ret (v:=.tuple #[.int .i64 m,.int .i64 k,.int .i64 n]) (by simp [results,Tryz.results12,go_sem]) rfl ?_
 exact ⟨S1.out.hb,_,_,_,rfl,HR.out⟩
set_option maxRecDepth 100000 in
set_option maxHeartbeats 4000000 in
theorem small11 (u:Unt) (ha:Option Addr) (hc:Nat) (fa:Option Addr) (fc:Nat) (most:Nat) (w:World) (h:ClssAt w ha u.h) (f:FncsAt w fa u.fs) (hmo:most≤1000) :
 Calls Tryz.prog 4 #[unV u ha hc fa fc,.int .i64 most] w (BPost (fun b=>b=true→FitOk u most∧UnitOk u) w):=by
 have S0:=Lib.hid (UB.start (hc:=hc) (fc:=fc) h f)
 have HF:Hid (∀ w1,ClssAt w1 ha u.h→FncsAt w1 fa u.fs→Calls Tryz.prog 11 #[unV u ha hc fa fc,.int .i64 most] w1 (BPost (fun b=>b=true→FitOk u most) w1)):=fun w1 h1 h2=>fit38 u ha hc fa fc most w1 h1 h2 hmo
 have HC:Hid (FitOk u most→∀ w1,ClssAt w1 ha u.h→FncsAt w1 fa u.fs→Calls Tryz.prog 12 #[unV u ha hc fa fc] w1 (I3Post (fun n=>n=0→UnitOk u) w1)):=fun hb w1 h1 h2=>check13 u ha hc fa fc w1 h1 h2 (fitOk_bnd hb hmo)
 clear h f
 unfold unV at *
 go_enter Tryz.func4,Tryz.ntmps4
 go_upto_region 1 with (fail)
 generalize w.alloc _=W at *
 obtain ⟨z0,z1,z2⟩:=S0.out.cells
 go_wp2_with fail
 refine (HF.out _ S0.out.h S0.out.f).mono ?_
 rintro e w' ⟨hb',d,rfl,hr⟩
 have S1:=Lib.hid (S0.out.below hb')
 have HR:=Lib.hid hr
 clear S0 hb' z0 z1 z2 hr HF
 cases d
 case false =>
  go_wp2
  go_ret
  exact ⟨S1.out.hb,_,rfl,fun e=>by cases e⟩
 obtain ⟨z0,z1,z2⟩:=S1.out.cells
 have HFO:=Lib.hid (HR.out rfl)
 go_wp2_with fail
 refine (HC.out HFO.out _ S1.out.h S1.out.f).mono ?_
 rintro e w' ⟨hb',m,k,n,rfl,hr⟩
 have S2:=Lib.hid (S1.out.below hb')
 have HR2:=Lib.hid hr
 clear S1 hb' z0 z1 z2 hr HC HR
 by_cases hn:n=0
 case neg =>
  have t1:(n == 0)=false:=by simpa using hn
  clear hn
  go_wp2
  go_ret
  exact ⟨S2.out.hb,_,rfl,fun e=>by cases e⟩
 subst hn
 have HR3:=Lib.hid (HR2.out rfl)
 clear HR2
 go_wp2
 go_ret
 exact ⟨S2.out.hb,_,rfl,fun _=>⟨HFO.out,HR3.out⟩⟩
end Go.Proofs.YtffcklfigpmlgaaGreatDoor
