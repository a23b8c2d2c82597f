/-
  The program's own and Own. (Printed by pre.py.)
-/
import Derived.Test.YthbialnddkboiaaGreatDoorXB
import Derived.Test.YthbialnddkboiaaGreatDoorXE
namespace Go.Proofs.YthbialnddkboiaaGreatDoor
open Go.RowKit Go.Unit0 Go.AM

theorem appCesF {ops:Array Oper} {rest:List Oper} {o:Oper} {a:Act} {Q:Exit→Act→World→Prop} {w:World} (hgd:o.guard=none) (s x:Operand)
 (ho:o.op = .call { callee:=.builtin .append,args:=#[s,x],argTypes:=#[40,40] })
 (base:Nat) (v:Value) (l:List Cel) (hs:a.eval s=v) (hown:w.ownsRow base 64 2 v l.length (flatCe l))
 (ad:Option Addr) (c:Nat) (m:List Cel) (hx:a.eval x = .slice ad m.length c) (hat:CelsAt w ad m)
 (hn:l.length≤1000000) (hm:m.length≤1000000) (hbase:base≤w.heap.size)
 (h:∀ v' w',w'.ownsRow base 64 2 v' (l ++ m).length (flatCe (l ++ m))→w.grownBy w' v.ownBlock→(v'.ownBlock=v.ownBlock ∨ v'.ownBlock=some w.heap.size)→wpList Tryz.prog ops Q rest (a.put o.dst v') w'):wpList Tryz.prog ops Q (o :: rest) a w:=by
 obtain ⟨i0,hi,hz0,hz1,hz2⟩:=info_parts infoCe
 by_cases hm0:m = []
 ·subst hm0
  refine wpList_plain hgd fun K hK=>?_
  have hrun:∀ ty,(Builtin.append_ #[40,40] ty #[v,.slice ad 0 c]).run Tryz.prog w = .ok v w:=fun ty=>by
   rcases hown.2 with ⟨rfl,_⟩ | ⟨g,cap,cur,rfl,_,_,hnc,_⟩ <;> cases ad
   ·simp [Builtin.append_,run_underlying Tryz.underlying40,sizeOf,typeInfo,hi,Builtin.lenOf,Builtin.firstCells]
   ·simp [Builtin.append_,run_underlying Tryz.underlying40,sizeOf,typeInfo,hi,Builtin.lenOf,Builtin.firstCells,loadCells,loadCellsFrom]
   ·simp [Builtin.append_,run_underlying Tryz.underlying40,sizeOf,typeInfo,hi,Builtin.lenOf,Builtin.firstCells,hnc,storeCells]
   ·simp [Builtin.append_,run_underlying Tryz.underlying40,sizeOf,typeInfo,hi,Builtin.lenOf,Builtin.firstCells,hnc,storeCells,loadCells,loadCellsFrom]
  have hx':a.eval x = .slice ad 0 c:=hx
  unfold Oper.wp
  simp [execOp,ho,resolve,invoke,builtin,hs,hx',hrun,Result.andThen]
  exact hK _ _ (h v w (by simpa using hown) (World.grownBy.refl w _) (.inl rfl))
 have hmp:0 < m.length:=List.length_pos_iff.2 hm0
 obtain ⟨b0,o0,he0,-⟩:=hat 0 hmp
 subst he0
 have hnews:∀ j u,(flatCe m)[j]? = some u→w.cell? ((⟨b0,o0,none⟩:Addr).add j)=some u:=by
  intro j u hu
  obtain ⟨hj,hju⟩:=List.getElem?_eq_some_iff.1 hu
  rw [flatCe_len] at hj
  have hj1:j / 2 < m.length:=by omega
  have hj2:j / 2 * 2 + j % 2=j:=by omega
  have hg:=flatCe_get m (j / 2) (j % 2) hj1 (Nat.mod_lt _ (by omega))
  rw [hj2,hu] at hg
  obtain ⟨b,off,he,h0,h1⟩:=hat (j / 2) hj1
  cases he
  rw [addr_add]
  rcases (show j % 2=0 ∨ j % 2=1 by omega) with e | e
  ·rw [e] at hg
   rw [show o0 + j=o0 + j / 2 * 2 by omega,h0]
   simpa [encCe] using hg.symm
  ·rw [e] at hg
   rw [show o0 + j=o0 + j / 2 * 2 + 1 by omega,h1]
   simpa [encCe] using hg.symm
 have h1:∀ u ∈ flatCe m,u.oneCell' = true:=by
  intro u hu
  unfold flatCe at hu
  obtain ⟨y,_,hy⟩:=List.mem_flatMap.1 hu
  simp [encCe] at hy
  rcases hy with rfl | rfl <;> rfl
 refine wpList_plain hgd fun K hK=>?_
 obtain ⟨v',w',hr,h2,h3,_⟩:=run_append_own (P:=Tryz.prog) w base 40 o.type 64 i0 (.agg #[.int .i64 0,.string ⟨#[]⟩]) 2 24 Tryz.underlying40 hi hz0 hz1 hz2 rfl (by decide) v l.length (flatCe l) hown ⟨b0,o0,none⟩ m.length c (flatCe m) (flatCe_len m) hnews h1 (by unfold maxLen;omega) (by omega) hbase
 have h4:=append_fresh w base 40 o.type 64 i0 (.agg #[.int .i64 0,.string ⟨#[]⟩]) 2 24 Tryz.underlying40 hi hz0 hz1 hz2 v l.length (flatCe l) hown ⟨b0,o0,none⟩ m.length c hmp (flatCe m) (flatCe_len m) hnews h1 (by unfold maxLen;omega) (by omega) hr
 unfold Oper.wp execOp
 simp only [ho,resolve,invoke,builtin,Sem.run_bind,Sem.run_pure,Result.andThen_ok,List.map_toArray,List.map_cons,List.map_nil,hs,hx,hr]
 refine hK _ _ (h v' w' ?_ h3 h4)
 unfold flatCe at *
 rw [List.flatMap_append,List.length_append]
 exact h2
structure PO (u:Unt) (ha:Option Addr) (hc:Nat) (fa:Option Addr) (fc:Nat) (r:Rsl) (p:RP) (M:List Cel) (ma:Option Addr) (mc:Nat) (N:List Cel) (na:Option Addr) (nc:Nat) (w wr:World):Prop where
 ub:URB u ha hc fa fc r p w wr
 b8:Blk wr (w.heap.size + 2) #[.slice none 0 0,.slice none 0 0] 42
 b9:Blk wr (w.heap.size + 3) #[.slice ma M.length mc,.slice na N.length nc] 42
 om:wr.ownsRow (w.heap.size + 4) 64 2 (.slice ma M.length mc) M.length (flatCe M)
 on:wr.ownsRow (w.heap.size + 4) 64 2 (.slice na N.length nc) N.length (flatCe N)
 ne:∀ q,(Value.slice ma M.length mc).ownBlock=some q→(Value.slice na N.length nc).ownBlock ≠ some q
section
variable {u:Unt} {ha:Option Addr} {hc:Nat} {fa:Option Addr} {fc:Nat} {r:Rsl} {p:RP} {M:List Cel} {ma:Option Addr} {mc:Nat} {N:List Cel} {na:Option Addr} {nc:Nat} {w wr w' w5:World}
theorem PO.below (k:PO u ha hc fa fc r p M ma mc N na nc w wr) (hb:Below wr.heap.size wr w'):PO u ha hc fa fc r p M ma mc N na nc w w' :=
 ⟨k.ub.below hb,k.b8.below hb,k.b9.below hb,owns_below k.om hb,owns_below k.on hb,k.ne⟩
theorem owns_ne' {W:World} {base e s n:Nat} {v:Value} {xs:List Value} (h:W.ownsRow base e s v n xs) {g:Nat} {cs:Array Value} {t:TypeId} (hg:Blk W g cs t) (hne:t ≠ e):v.ownBlock ≠ some g:=fun e'=>owns_ne h hg hne e'.symm
theorem PO.set0 {M':List Cel} {ma':Option Addr} {mc':Nat} (h0:ClssAt w ha u.h) (f0:FncsAt w fa u.fs) (r0:RslAt w p r) (k:PO u ha hc fa fc r p M ma mc N na nc w wr)
 (own:w5.ownsRow (w.heap.size + 4) 64 2 (.slice ma' M'.length mc') M'.length (flatCe M')) (hg:wr.grownBy w5 (Value.slice ma M.length mc).ownBlock) (hfr:(Value.slice ma' M'.length mc').ownBlock=(Value.slice ma M.length mc).ownBlock ∨ (Value.slice ma' M'.length mc').ownBlock=some wr.heap.size) :
 PO u ha hc fa fc r p M' ma' mc' N na nc w (w5.setCell ⟨w.heap.size + 3,0,none⟩ (.slice ma' M'.length mc')):=by
 have hq:∀ q,(Value.slice ma M.length mc).ownBlock=some q→w.heap.size + 4≤q:=fun q hq=>(k.om.lt q hq).1
 have hgs:=grown_set w5 (w.heap.size + 3) 0 (.slice ma' M'.length mc')
 have b95:=k.b9.grown hg (fun e=>by have:=hq _ e.symm;omega)
 have on5:=k.on.kept hg (by
  cases hv:(Value.slice ma M.length mc).ownBlock with
  | none =>
    cases hn:(Value.slice na N.length nc).ownBlock with
    | none=>exact .inl rfl
    | some q=>exact .inr (by simp)
  | some q=>exact .inr (k.ne q hv))
 refine ⟨(k.ub.grow h0 f0 r0 hg (fun q e=>by have:=hq q e;omega)).grow h0 f0 r0 hgs (fun q e=>by cases e;omega),(k.b8.grown hg (fun e=>by have:=hq _ e.symm;omega)).grown hgs (fun e=>by have:=Option.some.inj e;omega),by simpa using b95.set 0 (.slice ma' M'.length mc'),own.kept hgs (.inr (owns_ne' own b95 (by decide))),on5.kept hgs (.inr (owns_ne' on5 b95 (by decide))),fun q e=>?_⟩
 rcases hfr with h | h
 ·exact k.ne q (h ▸ e)
 ·rw [h] at e
  cases e
  intro e2
  have:=(k.on.lt _ e2).2
  omega
theorem PO.set1 {N':List Cel} {na':Option Addr} {nc':Nat} (h0:ClssAt w ha u.h) (f0:FncsAt w fa u.fs) (r0:RslAt w p r) (k:PO u ha hc fa fc r p M ma mc N na nc w wr)
 (own:w5.ownsRow (w.heap.size + 4) 64 2 (.slice na' N'.length nc') N'.length (flatCe N')) (hg:wr.grownBy w5 (Value.slice na N.length nc).ownBlock) (hfr:(Value.slice na' N'.length nc').ownBlock=(Value.slice na N.length nc).ownBlock ∨ (Value.slice na' N'.length nc').ownBlock=some wr.heap.size) :
 PO u ha hc fa fc r p M ma mc N' na' nc' w (w5.setCell ⟨w.heap.size + 3,1,none⟩ (.slice na' N'.length nc')):=by
 have hq:∀ q,(Value.slice na N.length nc).ownBlock=some q→w.heap.size + 4≤q:=fun q hq=>(k.on.lt q hq).1
 have hgs:=grown_set w5 (w.heap.size + 3) 1 (.slice na' N'.length nc')
 have b95:=k.b9.grown hg (fun e=>by have:=hq _ e.symm;omega)
 have om5:=k.om.kept hg (by
  cases hv:(Value.slice na N.length nc).ownBlock with
  | none =>
    cases hn:(Value.slice ma M.length mc).ownBlock with
    | none=>exact .inl rfl
    | some q=>exact .inr (by simp)
  | some q=>exact .inr (fun e=>k.ne q e hv))
 refine ⟨(k.ub.grow h0 f0 r0 hg (fun q e=>by have:=hq q e;omega)).grow h0 f0 r0 hgs (fun q e=>by cases e;omega),(k.b8.grown hg (fun e=>by have:=hq _ e.symm;omega)).grown hgs (fun e=>by have:=Option.some.inj e;omega),by simpa using b95.set 1 (.slice na' N'.length nc'),om5.kept hgs (.inr (owns_ne' om5 b95 (by decide))),own.kept hgs (.inr (owns_ne' own b95 (by decide))),fun q e e2=>?_⟩
 rcases hfr with h | h
 ·exact k.ne q e (h ▸ e2)
 ·rw [h] at e2
  cases e2
  have:=(k.om.lt _ e).2
  omega
end
structure OWk (u:Unt) (ha:Option Addr) (hc:Nat) (fa:Option Addr) (fc:Nat) (r:Rsl) (p:RP) (w:World) (g9:Nat) (c9:Array Value) (n2:Nat) (ci:Array Value) where
 W:World
 ub:URB u ha hc fa fc r p w W
 b9:Blk W g9 c9 42
 bi:Blk W n2 ci 74
structure EWk (g9:Nat) (c9:Array Value) where
 W:World
 b9:Blk W g9 c9 42
set_option maxRecDepth 100000 in
set_option maxHeartbeats 16000000 in
theorem ownP33 (u:Unt) (ha:Option Addr) (hc:Nat) (fa:Option Addr) (fc:Nat) (r:Rsl) (p:RP) (sa:Option Addr) (sc:Nat) (f:Int) (w:World) (h:ClssAt w ha u.h) (hf:FncsAt w fa u.fs) (hr:RslAt w p r) (hs:SitsAt w sa (sitL u)) (hk:UOk u fc r) :
 Calls Tryz.prog 21 #[unV u ha hc fa fc,rsV r p,.slice sa (sitL u).length sc,.int .i64 f] w (EffPost (celSet (ownL u r f 8)) (celSet (ownL u r f 7)) w):=by
 have S00:Hid (URB u ha hc fa fc r p w _):=URB.start (hc:=hc) (fc:=fc) h hf hr
 have HZ:Hid (((w.alloc (unC u ha hc fa fc)).alloc (rsC r p)).heap.size=w.heap.size + 2):=by show _=_;simp
 have HM:Hid (ClssAt w ha u.h∧FncsAt w fa u.fs∧RslAt w p r∧SitsAt w sa (sitL u)):=⟨h,hf,hr,hs⟩
 have HCE:Hid (∀ (v:Int) (fld:Str) w1,ClssAt w1 ha u.h→FncsAt w1 fa u.fs→RslAt w1 p r→SitsAt w1 sa (sitL u)→Calls Tryz.prog 28 #[unV u ha hc fa fc,rsV r p,.slice sa (sitL u).length sc,.int .i64 f,.int .i64 v,.string fld] w1 (CelsPost (celL u.h (sitL u) fld (ofP u r f v)) w1)):=fun v fld w1 h1 h2 h3 h4=>cellsP39 u ha hc fa fc r p sa sc f v fld w1 h1 h2 h3 h4 hk
 have HCL:Hid (∀ fld v,(celL u.h (sitL u) fld (ofP u r f v)).length≤4000):=fun fld v=>Nat.le_trans (celL_len _ _ _ _) (hk.ofl f v)
 have HCO:Hid (∀ x ∈ u.fs,x.code.length≤150):=fun x hx=>(hk.fit.f x hx).c
 have HQL:Hid (∀ op code q,(celQ u r f op code q).length≤q * 4000):=fun op code q=>celQ_len hk f op code q
 have HNE:Hid (f < 0→celSet (ownL u r f 8) = []∧celSet (ownL u r f 7) = []):=fun e=>by rw [ownL_neg e,ownL_neg e,celSet_nil];exact ⟨rfl,rfl⟩
 have HBI:Hid ((u.fs.length:Int)≤f→celSet (ownL u r f 8) = []∧celSet (ownL u r f 7) = []):=fun e=>by rw [ownL_big e,ownL_big e,celSet_nil];exact ⟨rfl,rfl⟩
 have HAT:Hid (∀ m (hm:m < u.fs.length),f=(m:Int)→celSet (ownL u r f 8)=celSet (celQ u r f 8 u.fs[m].code u.fs[m].code.length)∧celSet (ownL u r f 7)=celSet (celQ u r f 7 u.fs[m].code u.fs[m].code.length)):=fun m hm e=>by subst e;rw [ownL_at hm,ownL_at hm];exact ⟨rfl,rfl⟩
 have HST:Hid (∀ (op:Int) (code:List Ins) (q:Nat) (hq:q < code.length),code[q].op=op→celQ u r f op code q ++ celL u.h (sitL u) code[q].name (ofP u r f code[q].a)=celQ u r f op code (q + 1)):=fun op code q hq e=>by
  rw [celQ_succ hq]
  unfold celI
  rw [if_pos e]
 have HSK:Hid (∀ (op:Int) (code:List Ins) (q:Nat) (hq:q < code.length),¬ code[q].op=op→celQ u r f op code (q + 1)=celQ u r f op code q):=fun op code q hq e=>celSet_skip hq e
 have H00:Hid (∀ op code,celQ u r f op code 0 = []):=fun op code=>by show _=_;simp [celQ]
 have HRS:=Tryz.results21
 have hnf:=hk.fit.nf
 clear h hf hr hs hk
 generalize celSet (ownL u r f 8)=R8 at *
 generalize celSet (ownL u r f 7)=R7 at *
 obtain ⟨G,hG⟩:∃ G:Int→List Ins→Nat→List Cel,G=fun op code q=>celQ u r f op code q:=⟨_,rfl⟩
 have HG:Hid (∀ op code q,celQ u r f op code q=G op code q):=fun op code q=>by rw [hG]
 clear hG
 simp only [HG.out] at HQL HAT HST HSK H00
 obtain ⟨K,hK⟩:∃ K:Str→Int→List Cel,K=fun fld v=>celL u.h (sitL u) fld (ofP u r f v):=⟨_,rfl⟩
 have HK:Hid (∀ fld v,celL u.h (sitL u) fld (ofP u r f v)=K fld v):=fun fld v=>by rw [hK]
 clear hK
 simp only [HK.out] at HCE HCL HST
 clear HG HK
 generalize sitL u=SL at *
 unfold unV rsV at *
 go_enter Tryz.func21,Tryz.ntmps21
 go_upto_region 1 with (fail)
 have S0:Hid (URB u ha hc fa fc r p w (((w.alloc (unC u ha hc fa fc)).alloc (rsC r p)).alloc (.cells #[.slice none 0 0,.slice none 0 0] 42))∧Blk (((w.alloc (unC u ha hc fa fc)).alloc (rsC r p)).alloc (.cells #[.slice none 0 0,.slice none 0 0] 42)) (w.heap.size + 2) #[.slice none 0 0,.slice none 0 0] 42∧(((w.alloc (unC u ha hc fa fc)).alloc (rsC r p)).alloc (.cells #[.slice none 0 0,.slice none 0 0] 42)).heap.size=w.heap.size + 3):=by
  have h8:=blk_new ((w.alloc (unC u ha hc fa fc)).alloc (rsC r p)) #[.slice none 0 0,.slice none 0 0] 42
  rw [HZ.out] at h8
  exact ⟨S00.out.below (one_below ..),h8,by simp⟩
 clear S00 HZ
 generalize ((w.alloc _).alloc _).alloc _=W at *
 obtain ⟨⟨z0,z1,z2⟩,z3,z4,z5,z6⟩:=S0.out.1.now (Below.refl _ _)
 by_cases g1:f < 0
 case pos =>
  have t1:=decide_eq_true g1
  have HE:=Lib.hid (HNE.out g1)
  clear g1
  go_wp2_with (refine storeEff rfl _ _ rfl (w.heap.size + 2) _ _ _ _ _ _ rfl rfl _ S0.out.2.1 rfl ?_)
  refine bodyPost_ret (v:=.agg #[.slice none 0 0,.slice none 0 0]) (results_c HRS _ _ (w.heap.size + 2) _ _ rfl (S0.out.2.1.setRow _) Tryz.underlying42 rfl (by kernel_rfl)) rfl ?_
  rw [HE.out.1,HE.out.2]
  exact ⟨below_setRow S0.out.1.ub.hb (by omega) _,none,0,none,0,rfl,⟨Nat.le_refl _,fun k hk=>by simp at hk⟩,⟨Nat.le_refl _,fun k hk=>by simp at hk⟩⟩
 have t1:=decide_eq_false g1
 by_cases g2:(u.fs.length:Int)≤f
 case pos =>
  have t2:=decide_eq_true g2
  have HE:=Lib.hid (HBI.out g2)
  clear g1 g2
  go_wp2_with (refine storeEff rfl _ _ rfl (w.heap.size + 2) _ _ _ _ _ _ rfl rfl _ S0.out.2.1 rfl ?_)
  refine bodyPost_ret (v:=.agg #[.slice none 0 0,.slice none 0 0]) (results_c HRS _ _ (w.heap.size + 2) _ _ rfl (S0.out.2.1.setRow _) Tryz.underlying42 rfl (by kernel_rfl)) rfl ?_
  rw [HE.out.1,HE.out.2]
  exact ⟨below_setRow S0.out.1.ub.hb (by omega) _,none,0,none,0,rfl,⟨Nat.le_refl _,fun k hk=>by simp at hk⟩,⟨Nat.le_refl _,fun k hk=>by simp at hk⟩⟩
 have t2:=decide_eq_false g2
 obtain ⟨m,rfl⟩:∃ m:Nat,f=m:=⟨f.toNat,by omega⟩
 have hm:m < u.fs.length:=by omega
 have t2n:decide (u.fs.length≤m)=false:=by simp;omega
 have HE:=Lib.hid (HAT.out m hm rfl)
 have hcl:=HCO.out _ (List.getElem_mem hm)
 obtain ⟨b,off,va,vc,ca,cc,he,-,-,-,-,-,-,m6,-,hcode⟩:=HM.out.2.1 m hm
 subst he
 have HCC:Hid (∀ wx,Below w.heap.size w wx→wx.cell? ⟨b,off + m * 7 + 6,none⟩=some (.slice ca u.fs[m].code.length cc)∧InssAt wx ca u.fs[m].code):=fun wx hx=>⟨cell_below hx m6,hcode.below hx⟩
 clear m6 hcode HNE HBI HAT HCO
 generalize u.fs[m].code=code at *
 clear g1 g2
 go_upto_region 4 with (fail)
 have S1:Hid (PO u ha hc (some ⟨b,off,none⟩) fc r p [] none 0 [] none 0 w (W.alloc (.cells #[.slice none 0 0,.slice none 0 0] 42))):=by
  have hb:=one_below W (.cells #[.slice none 0 0,.slice none 0 0] 42)
  have h9:=blk_new W #[.slice none 0 0,.slice none 0 0] 42
  rw [S0.out.2.2] at h9
  exact ⟨S0.out.1.below hb,S0.out.2.1.below hb,h9,World.ownsRow_nil _ _ _ _,World.ownsRow_nil _ _ _ _,fun q e=>by cases e⟩
 have hsz:=S0.out.2.2
 rw [hsz]
 clear S0 z0 z1 z2 z3 z4 z5 z6 hsz
 generalize W.alloc _=W1 at *
 obtain ⟨⟨z0,z1,z2⟩,z3,z4,z5,z6⟩:=S1.out.ub.now (Below.refl _ _)
 obtain ⟨m6,-⟩:=HCC.out _ S1.out.ub.ub.hb
 go_wp2
 clear z0 z1 z2 z3 z4 z5 z6 m6 t2n
 go_loopw [29] (fun i wr=>∃ (q:Nat) (ma:Option Addr) (mc:Nat) (na:Option Addr) (nc:Nat),q≤code.length∧i = .int .i64 q∧Hid (PO u ha hc (some ⟨b,off,none⟩) fc r p (G 8 code q) ma mc (G 7 code q) na nc w wr)) (fun i _=>code.length - (intOf i).toNat)
 case atStart=>exact ⟨0,none,0,none,0,Nat.zero_le _,rfl,by rw [H00.out,H00.out];exact S1.out⟩
 case round =>
  clear S1 H00
  obtain ⟨q,ma,mc,na,nc,hq,rfl,S⟩:=hrel
  by_cases hql:q < code.length
  case neg =>
   obtain rfl:q=code.length:=by omega
   have hl8:(G 8 code code.length).length≤1000000:=by have:=HQL.out 8 code code.length;omega
   have hl7:(G 7 code code.length).length≤1000000:=by have:=HQL.out 7 code code.length;omega
   have k0:∀ o:EWk (w.heap.size + 3) #[.slice ma (G 8 code code.length).length mc,.slice na (G 7 code code.length).length nc],o.W.cell? ⟨w.heap.size + 3,0,none⟩=some (.slice ma (G 8 code code.length).length mc):=fun o=>o.b9.cell 0 (by simp)
   have k1:∀ o:EWk (w.heap.size + 3) #[.slice ma (G 8 code code.length).length mc,.slice na (G 7 code code.length).length nc],o.W.cell? ⟨w.heap.size + 3,1,none⟩=some (.slice na (G 7 code code.length).length nc):=fun o=>o.b9.cell 1 (by simp)
   have hne:Nonempty (EWk (w.heap.size + 3) #[.slice ma (G 8 code code.length).length mc,.slice na (G 7 code code.length).length nc]):=⟨⟨wr,S.out.b9⟩⟩
   have S4:Hid (PO u ha hc (some ⟨b,off,none⟩) fc r p (G 8 code code.length) ma mc (G 7 code code.length) na nc w wr.drew):=S.out.below ((Below.refl _ _).drew)
   go_upto_region 13 with (fail)
   refine wp_region_Y (fun w'=>∃ o:EWk (w.heap.size + 3) #[.slice ma (G 8 code code.length).length mc,.slice na (G 7 code code.length).length nc],w' = o.W) (by kernel_rfl) ?_
   change wpAnyY _ _ _ _ _ _ _ _ wr.drew
   clear S HCE HCL HST HSK
   generalize wr.drew=V0 at *
   refine wpAnyY_take 0 rfl (by kernel_rfl) (fun _ _ _ _ h=>h) ⟨⟨_,S4.out.b9⟩,rfl⟩ (fun K hK=>?_);go_simp;refine hK _ ?_;clear hK K
   refine wpAnyY_take 1 rfl (by kernel_rfl) (fun _ _ _ _ h=>h) ⟨⟨_,S4.out.b9⟩,rfl⟩ (fun K hK=>?_);go_simp;refine hK _ ?_;clear hK K
   refine wpAnyY_take 3 rfl (by kernel_rfl) (fun _ _ _ _ h=>h) ⟨⟨_,S4.out.b9⟩,rfl⟩ (fun K hK=>?_);go_simp;refine hK _ ?_;clear hK K
   refine wpAnyY_take 4 rfl (by kernel_rfl) (fun _ _ _ _ h=>h) ⟨⟨_,S4.out.b9⟩,rfl⟩ (fun K hK=>?_);go_simp;refine hK _ ?_;clear hK K
   refine wpAnyY_one 2 rfl (by kernel_rfl) ?_
   go_wp2_with fail
   refine (ascCe (G 8 code code.length) ma mc _ _ S4.out.om hl8).mono ?_
   rintro e w4 ⟨n8,hn8,rfl,hg4,own4⟩
   have hq4:∀ q',(Value.slice ma (G 8 code code.length).length mc).ownBlock=some q'→w.heap.size + 4≤q':=fun q' e=>(S4.out.om.lt q' e).1
   have ON4:=Lib.hid (S4.out.on.kept hg4 (by
    cases hv:(Value.slice ma (G 8 code code.length).length mc).ownBlock with
    | none =>
      cases hn:(Value.slice na (G 7 code code.length).length nc).ownBlock with
      | none=>exact .inl rfl
      | some q=>exact .inr (by simp)
    | some q=>exact .inr (S4.out.ne q hv)))
   have OM4:=Lib.hid own4
   have B94:=Lib.hid (S4.out.b9.grown hg4 (fun e=>by have:=hq4 _ e.symm;omega))
   have B84:=Lib.hid (S4.out.b8.grown hg4 (fun e=>by have:=hq4 _ e.symm;omega))
   have HB4:=Lib.hid (S4.out.ub.ub.hb.grown hg4 S4.out.ub.ub.hb.size (fun q' e=>by have:=hq4 q' e;omega))
   have HN8:=Lib.hid hn8
   have HEQ:Hid ((Value.slice ma n8 mc).ownBlock=(Value.slice ma (G 8 code code.length).length mc).ownBlock):=by
    show _=_
    cases ma <;> rfl
   clear hg4 own4 hn8 hq4
   go_wp2
   refine ⟨⟨⟨_,B94.out⟩,rfl⟩,?_⟩
   refine wpAnyY_one 5 rfl (by kernel_rfl) ?_
   go_wp2_with fail
   refine (ascCe (G 7 code code.length) na nc _ _ ON4.out hl7).mono ?_
   rintro e w5 ⟨n7,hn7,rfl,hg5,own5⟩
   have hq5:∀ q',(Value.slice na (G 7 code code.length).length nc).ownBlock=some q'→w.heap.size + 4≤q':=fun q' e=>(ON4.out.lt q' e).1
   have OM5:=Lib.hid (OM4.out.kept hg5 (by
    cases hv:(Value.slice na (G 7 code code.length).length nc).ownBlock with
    | none =>
      cases hn:(Value.slice ma n8 mc).ownBlock with
      | none=>exact .inl rfl
      | some q=>exact .inr (by simp)
    | some q=>exact .inr (fun e=>by rw [HEQ.out] at e;exact S4.out.ne q e hv)))
   have ON5:=Lib.hid own5
   have B95:=Lib.hid (B94.out.grown hg5 (fun e=>by have:=hq5 _ e.symm;omega))
   have B85:=Lib.hid (B84.out.grown hg5 (fun e=>by have:=hq5 _ e.symm;omega))
   have HB5:=Lib.hid (HB4.out.grown hg5 HB4.out.size (fun q' e=>by have:=hq5 q' e;omega))
   have HN7:=Lib.hid hn7
   clear hg5 own5 hn7 hq5 S4 ON4 OM4 B94 B84 HB4 k0 k1
   go_wp2
   refine ⟨⟨⟨_,B95.out⟩,rfl⟩,?_⟩
   refine wpAnyY_one 6 rfl (by kernel_rfl) ?_
   go_wp2
   refine ⟨⟨⟨_,B95.out⟩,rfl⟩,?_⟩
   refine wpAnyY_one 7 rfl (by kernel_rfl) ?_
   go_wp2_with (refine storeEff rfl _ _ rfl (w.heap.size + 2) _ _ _ _ _ _ rfl rfl _ B85.out rfl ?_)
   refine ⟨⟨⟨_,B95.out.setRow_ne (by omega) _⟩,rfl⟩,?_⟩
   refine wpAnyY_done (by kernel_rfl) ?_ _
   go_wp2
   refine bodyPost_ret (v:=.agg #[.slice ma n8 mc,.slice na n7 nc]) (results_c HRS _ _ (w.heap.size + 2) _ _ rfl (B85.out.setRow _) Tryz.underlying42 rfl (by kernel_rfl)) rfl ?_
   have hgr:=grown_row w5 (w.heap.size + 2) #[.slice ma n8 mc,.slice na n7 nc]
   have h8:=ownsCe' OM5.out
   have h7:=ownsCe' ON5.out
   rw [HN8.out] at h8
   rw [HN7.out] at h7
   rw [HE.out.1,HE.out.2]
   exact ⟨below_setRow HB5.out (by omega) _,ma,mc,na,nc,by rw [HN8.out,HN7.out],⟨h8.1,celsAt_set h8.2 B85.out hgr⟩,⟨h7.1,celsAt_set h7.2 B85.out hgr⟩⟩
  obtain ⟨-,hins⟩:=HCC.out _ S.out.ub.ub.hb
  obtain ⟨b2,off2,ga,gc,he,n0,n1,n3,n4,n5,n6,n7,n8,n9,n10,-⟩:=hins q hql
  subst he
  have HSTq:Hid (∀ op:Int,code[q].op=op→G op code q ++ K code[q].name code[q].a=G op code (q + 1)):=fun op e=>HST.out op code q hql e
  have HSKq:Hid (∀ op:Int,¬ code[q].op=op→G op code (q + 1)=G op code q):=fun op e=>HSK.out op code q hql e
  clear hins
  generalize code[q]=x at *
  have BZ:Hid (Blk (wr.alloc zInC) wr.heap.size _ 74):=blk_new ..
  go_upto_region 7 with (refine storeInstr rfl rfl _ _ rfl wr.heap.size x ga gc rfl rfl _ BZ.out rfl ?_)
  have hrow:=below_row (one_below wr zInC) (Nat.le_refl wr.heap.size) #[.int .i64 x.op,.int .i64 x.dst,.int .i64 x.a,.int .i64 x.b,.int .i64 x.n,.string x.cls,.string x.name,.slice ga x.args.length gc,.int .i64 x.goto,.int .i64 x.catch_]
  have B2:=Lib.hid (BZ.out.setRow #[.int .i64 x.op,.int .i64 x.dst,.int .i64 x.a,.int .i64 x.b,.int .i64 x.n,.string x.cls,.string x.name,.slice ga x.args.length gc,.int .i64 x.goto,.int .i64 x.catch_])
  have S2:=Lib.hid (S.out.below hrow)
  have hn2:w.heap.size + 4≤wr.heap.size:=S.out.b9.lt
  clear S BZ hrow n0 n1 n3 n4 n5 n6 n7 n8 n9 n10
  generalize (wr.alloc zInC).setRow wr.heap.size _=W2 at *
  generalize wr.heap.size=n2 at *
  have y0:=B2.out.cell 0 (by simp)
  simp only [List.getElem_toArray,List.getElem_cons_zero] at y0
  by_cases h8:x.op=8
  case pos =>
   have t8:(x.op == 8)=true:=by simpa using h8
   have HS8:=Lib.hid (HSTq.out 8 h8)
   have HO8:=Lib.hid (HSKq.out 7 (by omega))
   have hq8:=HQL.out 8 code q
   have hqm:q * 4000≤600000:=by have:=Nat.mul_le_mul_right 4000 (show q≤150 by omega);omega
   have hk8:=HCL.out x.name x.a
   obtain ⟨CI,hCI⟩:∃ CI:Array Value,CI = #[.int .i64 x.op,.int .i64 x.dst,.int .i64 x.a,.int .i64 x.b,.int .i64 x.n,.string x.cls,.string x.name,.slice ga x.args.length gc,.int .i64 x.goto,.int .i64 x.catch_]:=⟨_,rfl⟩
   have BI:Hid (Blk W2 n2 CI 74):=by show Blk _ _ _ _;rw [hCI];exact B2.out
   have HC2:Hid (∀ W':World,Blk W' n2 CI 74→W'.cell? ⟨n2,2,none⟩=some (.int .i64 x.a)∧W'.cell? ⟨n2,6,none⟩=some (.string x.name)):=fun W' h=>by rw [hCI] at h;exact ⟨h.cell 2 (by simp),h.cell 6 (by simp)⟩
   clear hCI
   have k0:∀ o:OWk u ha hc (some ⟨b,off,none⟩) fc r p w (w.heap.size + 3) #[.slice ma (G 8 code q).length mc,.slice na (G 7 code q).length nc] n2 CI,o.W.cell? ⟨w.heap.size + 3,0,none⟩=some (.slice ma (G 8 code q).length mc):=fun o=>o.b9.cell 0 (by simp)
   have k1:∀ o:OWk u ha hc (some ⟨b,off,none⟩) fc r p w (w.heap.size + 3) #[.slice ma (G 8 code q).length mc,.slice na (G 7 code q).length nc] n2 CI,o.W.cell? ⟨w.heap.size,0,none⟩=some (.slice ha u.h.length hc):=fun o=>(o.ub.now (Below.refl _ _)).1.1
   have k2:∀ o:OWk u ha hc (some ⟨b,off,none⟩) fc r p w (w.heap.size + 3) #[.slice ma (G 8 code q).length mc,.slice na (G 7 code q).length nc] n2 CI,o.W.cell? ⟨w.heap.size,1,none⟩=some (.slice (some ⟨b,off,none⟩) u.fs.length fc):=fun o=>(o.ub.now (Below.refl _ _)).1.2.1
   have k3:∀ o:OWk u ha hc (some ⟨b,off,none⟩) fc r p w (w.heap.size + 3) #[.slice ma (G 8 code q).length mc,.slice na (G 7 code q).length nc] n2 CI,o.W.cell? ⟨w.heap.size,2,none⟩=some (.int .i64 u.main):=fun o=>(o.ub.now (Below.refl _ _)).1.2.2
   have k4:∀ o:OWk u ha hc (some ⟨b,off,none⟩) fc r p w (w.heap.size + 3) #[.slice ma (G 8 code q).length mc,.slice na (G 7 code q).length nc] n2 CI,o.W.cell? ⟨w.heap.size + 1,0,none⟩=some (.slice p.ra r.reached p.rc):=fun o=>(o.ub.now (Below.refl _ _)).2.1
   have k5:∀ o:OWk u ha hc (some ⟨b,off,none⟩) fc r p w (w.heap.size + 3) #[.slice ma (G 8 code q).length mc,.slice na (G 7 code q).length nc] n2 CI,o.W.cell? ⟨w.heap.size + 1,1,none⟩=some (.slice p.ca r.calls.length p.cc):=fun o=>(o.ub.now (Below.refl _ _)).2.2.1
   have k6:∀ o:OWk u ha hc (some ⟨b,off,none⟩) fc r p w (w.heap.size + 3) #[.slice ma (G 8 code q).length mc,.slice na (G 7 code q).length nc] n2 CI,o.W.cell? ⟨w.heap.size + 1,2,none⟩=some (.slice p.va r.vars.length p.vc):=fun o=>(o.ub.now (Below.refl _ _)).2.2.2.1
   have k7:∀ o:OWk u ha hc (some ⟨b,off,none⟩) fc r p w (w.heap.size + 3) #[.slice ma (G 8 code q).length mc,.slice na (G 7 code q).length nc] n2 CI,o.W.cell? ⟨w.heap.size + 1,3,none⟩=some (.slice p.xa r.cells.length p.xc):=fun o=>(o.ub.now (Below.refl _ _)).2.2.2.2
   have k8:∀ o:OWk u ha hc (some ⟨b,off,none⟩) fc r p w (w.heap.size + 3) #[.slice ma (G 8 code q).length mc,.slice na (G 7 code q).length nc] n2 CI,o.W.cell? ⟨n2,2,none⟩=some (.int .i64 x.a):=fun o=>(HC2.out _ o.bi).1
   have k9:∀ o:OWk u ha hc (some ⟨b,off,none⟩) fc r p w (w.heap.size + 3) #[.slice ma (G 8 code q).length mc,.slice na (G 7 code q).length nc] n2 CI,o.W.cell? ⟨n2,6,none⟩=some (.string x.name):=fun o=>(HC2.out _ o.bi).2
   have hne:Nonempty (OWk u ha hc (some ⟨b,off,none⟩) fc r p w (w.heap.size + 3) #[.slice ma (G 8 code q).length mc,.slice na (G 7 code q).length nc] n2 CI):=⟨⟨W2,S2.out.ub,S2.out.b9,BI.out⟩⟩
   have h0:Below W2.heap.size W2 W2.drew:=(Below.refl _ _).drew
   have hn4:w.heap.size + 4≤n2:=hn2
   go_upto_region 9 with (fail)
   refine wp_region_Z (fun w'=>∃ o:OWk u ha hc (some ⟨b,off,none⟩) fc r p w (w.heap.size + 3) #[.slice ma (G 8 code q).length mc,.slice na (G 7 code q).length nc] n2 CI,w' = o.W) 13 (by kernel_rfl) ?_
   change wpAnyZ _ _ _ _ _ _ _ _ _ W2.drew
   have S4:=Lib.hid (S2.out.below h0)
   have B4:=Lib.hid (BI.out.below h0)
   clear h0
   generalize W2.drew=V0 at *
   refine wpAnyZ_take 0 rfl (by kernel_rfl) (by kernel_rfl) (fun _ _ _ _ h=>h) ⟨⟨_,S4.out.ub,S4.out.b9,B4.out⟩,rfl⟩ (fun K hK=>?_);go_simp;refine hK _ ?_;clear hK K
   refine wpAnyZ_take 1 rfl (by kernel_rfl) (by kernel_rfl) (fun _ _ _ _ h=>h) ⟨⟨_,S4.out.ub,S4.out.b9,B4.out⟩,rfl⟩ (fun K hK=>?_);go_simp;refine hK _ ?_;clear hK K
   refine wpAnyZ_take 2 rfl (by kernel_rfl) (by kernel_rfl) (fun _ _ _ _ h=>h) ⟨⟨_,S4.out.ub,S4.out.b9,B4.out⟩,rfl⟩ (fun K hK=>?_);go_simp;refine hK _ ?_;clear hK K
   refine wpAnyZ_take 3 rfl (by kernel_rfl) (by kernel_rfl) (fun _ _ _ _ h=>h) ⟨⟨_,S4.out.ub,S4.out.b9,B4.out⟩,rfl⟩ (fun K hK=>?_);go_simp;refine hK _ ?_;clear hK K
   refine wpAnyZ_take 4 rfl (by kernel_rfl) (by kernel_rfl) (fun _ _ _ _ h=>h) ⟨⟨_,S4.out.ub,S4.out.b9,B4.out⟩,rfl⟩ (fun K hK=>?_);go_simp;refine hK _ ?_;clear hK K
   refine wpAnyZ_take 5 rfl (by kernel_rfl) (by kernel_rfl) (fun _ _ _ _ h=>h) ⟨⟨_,S4.out.ub,S4.out.b9,B4.out⟩,rfl⟩ (fun K hK=>?_);go_simp;refine hK _ ?_;clear hK K
   refine wpAnyZ_take 6 rfl (by kernel_rfl) (by kernel_rfl) (fun _ _ _ _ h=>h) ⟨⟨_,S4.out.ub,S4.out.b9,B4.out⟩,rfl⟩ (fun K hK=>?_);go_simp;refine hK _ ?_;clear hK K
   refine wpAnyZ_take 7 rfl (by kernel_rfl) (by kernel_rfl) (fun _ _ _ _ h=>h) ⟨⟨_,S4.out.ub,S4.out.b9,B4.out⟩,rfl⟩ (fun K hK=>?_);go_simp;refine hK _ ?_;clear hK K
   refine wpAnyZ_take 8 rfl (by kernel_rfl) (by kernel_rfl) (fun _ _ _ _ h=>h) ⟨⟨_,S4.out.ub,S4.out.b9,B4.out⟩,rfl⟩ (fun K hK=>?_);go_simp;refine hK _ ?_;clear hK K
   refine wpAnyZ_take 9 rfl (by kernel_rfl) (by kernel_rfl) (fun _ _ _ _ h=>h) ⟨⟨_,S4.out.ub,S4.out.b9,B4.out⟩,rfl⟩ (fun K hK=>?_);go_simp;refine hK _ ?_;clear hK K
   refine wpAnyZ_one 10 rfl (by kernel_rfl) ?_
   go_wp2_with fail
   refine (HCE.out x.a x.name _ S4.out.ub.ub.h S4.out.ub.ub.f S4.out.ub.rb.m (HM.out.2.2.2.below S4.out.ub.ub.hb)).mono ?_
   rintro e w4 ⟨hb4,ka,kc,rfl,own4⟩
   have S5:=Lib.hid (S4.out.below hb4)
   have B5:=Lib.hid (B4.out.below hb4)
   have HKA:=Lib.hid (ownsCe' own4).2
   clear own4 hb4 S4 B4
   go_wp2
   refine ⟨⟨⟨_,S5.out.ub,S5.out.b9,B5.out⟩,rfl⟩,?_⟩
   refine wpAnyZ_one 11 rfl (by kernel_rfl) ?_
   have hbs5:w.heap.size + 4≤w4.heap.size:=Nat.le_trans hn4 (Nat.le_of_lt B5.out.lt)
   have hl1:(G 8 code q).length≤1000000:=by omega
   have hl2:(K x.name x.a).length≤1000000:=by omega
   refine appCesF rfl _ _ rfl (w.heap.size + 4) _ (G 8 code q) rfl S5.out.om ka kc (K x.name x.a) rfl HKA.out hl1 hl2 hbs5 ?_
   intro v7 W7 own7 hg7 hf7
   obtain ⟨-,qa,qc,rfl,-,-⟩:=ownsCe own7
   rw [HS8.out] at own7 hf7
   rw [HS8.out]
   have O7:=Lib.hid own7
   have G7:=Lib.hid hg7
   have F7:=Lib.hid hf7
   have hq7:∀ q',(Value.slice ma (G 8 code q).length mc).ownBlock=some q'→w.heap.size + 4≤q':=fun q' e=>(S5.out.om.lt q' e).1
   have U7:=Lib.hid (S5.out.ub.grow HM.out.1 HM.out.2.1 HM.out.2.2.1 hg7 (fun q' e=>by have:=hq7 q' e;omega))
   have C7:=Lib.hid (S5.out.b9.grown hg7 (fun e=>by have:=hq7 _ e.symm;omega))
   have D7:=Lib.hid (B5.out.grown hg7 (owns_ne S5.out.om B5.out (by decide)))
   clear own7 hg7 hf7 hq7
   go_wp2
   refine ⟨⟨⟨_,U7.out,C7.out,D7.out⟩,rfl⟩,?_⟩
   refine wpAnyZ_one 12 rfl (by kernel_rfl) ?_
   go_wp2
   refine ⟨⟨⟨_,U7.out,C7.out,D7.out⟩,rfl⟩,?_⟩
   have q1:=C7.out.cell 0 (by simp)
   have q2:=C7.out.free 0
   simp only [List.getElem_toArray,List.getElem_cons_zero] at q1
   clear k0 k1 k2 k3 k4 k5 k6 k7 k8 k9
   refine wpAnyZ_last rfl (by kernel_rfl) ?_
   go_wp2
   refine wpAnyZ_done (by kernel_rfl) ?_ _
   have S9:=Lib.hid (PO.set0 HM.out.1 HM.out.2.1 HM.out.2.2.1 S5.out O7.out G7.out F7.out)
   clear S5 B5 S2 B2 BI HC2 U7 C7 D7 O7 G7 F7 HKA q1 q2
   generalize W7.setCell _ _=W9 at *
   go_wp2
   go_roundw
   case rel=>exact ⟨q + 1,qa,qc,na,nc,by omega,by go_num,by rw [HO8.out];exact S9.out⟩
   case measure=>simp [intOf];omega
  case neg =>
   have t8:(x.op == 8)=false:=by simpa using h8
   by_cases h7:x.op=7
   case pos =>
    have t7:(x.op == 7)=true:=by simpa using h7
    have HS8:=Lib.hid (HSTq.out 7 h7)
    have HO8:=Lib.hid (HSKq.out 8 (by omega))
    have hq8:=HQL.out 7 code q
    have hqm:q * 4000≤600000:=by have:=Nat.mul_le_mul_right 4000 (show q≤150 by omega);omega
    have hk8:=HCL.out x.name x.a
    obtain ⟨CI,hCI⟩:∃ CI:Array Value,CI = #[.int .i64 x.op,.int .i64 x.dst,.int .i64 x.a,.int .i64 x.b,.int .i64 x.n,.string x.cls,.string x.name,.slice ga x.args.length gc,.int .i64 x.goto,.int .i64 x.catch_]:=⟨_,rfl⟩
    have BI:Hid (Blk W2 n2 CI 74):=by show Blk _ _ _ _;rw [hCI];exact B2.out
    have HC2:Hid (∀ W':World,Blk W' n2 CI 74→W'.cell? ⟨n2,2,none⟩=some (.int .i64 x.a)∧W'.cell? ⟨n2,6,none⟩=some (.string x.name)):=fun W' h=>by rw [hCI] at h;exact ⟨h.cell 2 (by simp),h.cell 6 (by simp)⟩
    clear hCI
    have k0:∀ o:OWk u ha hc (some ⟨b,off,none⟩) fc r p w (w.heap.size + 3) #[.slice ma (G 8 code q).length mc,.slice na (G 7 code q).length nc] n2 CI,o.W.cell? ⟨w.heap.size + 3,1,none⟩=some (.slice na (G 7 code q).length nc):=fun o=>o.b9.cell 1 (by simp)
    have k1:∀ o:OWk u ha hc (some ⟨b,off,none⟩) fc r p w (w.heap.size + 3) #[.slice ma (G 8 code q).length mc,.slice na (G 7 code q).length nc] n2 CI,o.W.cell? ⟨w.heap.size,0,none⟩=some (.slice ha u.h.length hc):=fun o=>(o.ub.now (Below.refl _ _)).1.1
    have k2:∀ o:OWk u ha hc (some ⟨b,off,none⟩) fc r p w (w.heap.size + 3) #[.slice ma (G 8 code q).length mc,.slice na (G 7 code q).length nc] n2 CI,o.W.cell? ⟨w.heap.size,1,none⟩=some (.slice (some ⟨b,off,none⟩) u.fs.length fc):=fun o=>(o.ub.now (Below.refl _ _)).1.2.1
    have k3:∀ o:OWk u ha hc (some ⟨b,off,none⟩) fc r p w (w.heap.size + 3) #[.slice ma (G 8 code q).length mc,.slice na (G 7 code q).length nc] n2 CI,o.W.cell? ⟨w.heap.size,2,none⟩=some (.int .i64 u.main):=fun o=>(o.ub.now (Below.refl _ _)).1.2.2
    have k4:∀ o:OWk u ha hc (some ⟨b,off,none⟩) fc r p w (w.heap.size + 3) #[.slice ma (G 8 code q).length mc,.slice na (G 7 code q).length nc] n2 CI,o.W.cell? ⟨w.heap.size + 1,0,none⟩=some (.slice p.ra r.reached p.rc):=fun o=>(o.ub.now (Below.refl _ _)).2.1
    have k5:∀ o:OWk u ha hc (some ⟨b,off,none⟩) fc r p w (w.heap.size + 3) #[.slice ma (G 8 code q).length mc,.slice na (G 7 code q).length nc] n2 CI,o.W.cell? ⟨w.heap.size + 1,1,none⟩=some (.slice p.ca r.calls.length p.cc):=fun o=>(o.ub.now (Below.refl _ _)).2.2.1
    have k6:∀ o:OWk u ha hc (some ⟨b,off,none⟩) fc r p w (w.heap.size + 3) #[.slice ma (G 8 code q).length mc,.slice na (G 7 code q).length nc] n2 CI,o.W.cell? ⟨w.heap.size + 1,2,none⟩=some (.slice p.va r.vars.length p.vc):=fun o=>(o.ub.now (Below.refl _ _)).2.2.2.1
    have k7:∀ o:OWk u ha hc (some ⟨b,off,none⟩) fc r p w (w.heap.size + 3) #[.slice ma (G 8 code q).length mc,.slice na (G 7 code q).length nc] n2 CI,o.W.cell? ⟨w.heap.size + 1,3,none⟩=some (.slice p.xa r.cells.length p.xc):=fun o=>(o.ub.now (Below.refl _ _)).2.2.2.2
    have k8:∀ o:OWk u ha hc (some ⟨b,off,none⟩) fc r p w (w.heap.size + 3) #[.slice ma (G 8 code q).length mc,.slice na (G 7 code q).length nc] n2 CI,o.W.cell? ⟨n2,2,none⟩=some (.int .i64 x.a):=fun o=>(HC2.out _ o.bi).1
    have k9:∀ o:OWk u ha hc (some ⟨b,off,none⟩) fc r p w (w.heap.size + 3) #[.slice ma (G 8 code q).length mc,.slice na (G 7 code q).length nc] n2 CI,o.W.cell? ⟨n2,6,none⟩=some (.string x.name):=fun o=>(HC2.out _ o.bi).2
    have hne:Nonempty (OWk u ha hc (some ⟨b,off,none⟩) fc r p w (w.heap.size + 3) #[.slice ma (G 8 code q).length mc,.slice na (G 7 code q).length nc] n2 CI):=⟨⟨W2,S2.out.ub,S2.out.b9,BI.out⟩⟩
    have h0:Below W2.heap.size W2 W2.drew:=(Below.refl _ _).drew
    have hn4:w.heap.size + 4≤n2:=hn2
    go_upto_region 11 with (fail)
    refine wp_region_Z (fun w'=>∃ o:OWk u ha hc (some ⟨b,off,none⟩) fc r p w (w.heap.size + 3) #[.slice ma (G 8 code q).length mc,.slice na (G 7 code q).length nc] n2 CI,w' = o.W) 13 (by kernel_rfl) ?_
    change wpAnyZ _ _ _ _ _ _ _ _ _ W2.drew
    have S4:=Lib.hid (S2.out.below h0)
    have B4:=Lib.hid (BI.out.below h0)
    clear h0
    generalize W2.drew=V0 at *
    refine wpAnyZ_take 0 rfl (by kernel_rfl) (by kernel_rfl) (fun _ _ _ _ h=>h) ⟨⟨_,S4.out.ub,S4.out.b9,B4.out⟩,rfl⟩ (fun K hK=>?_);go_simp;refine hK _ ?_;clear hK K
    refine wpAnyZ_take 1 rfl (by kernel_rfl) (by kernel_rfl) (fun _ _ _ _ h=>h) ⟨⟨_,S4.out.ub,S4.out.b9,B4.out⟩,rfl⟩ (fun K hK=>?_);go_simp;refine hK _ ?_;clear hK K
    refine wpAnyZ_take 2 rfl (by kernel_rfl) (by kernel_rfl) (fun _ _ _ _ h=>h) ⟨⟨_,S4.out.ub,S4.out.b9,B4.out⟩,rfl⟩ (fun K hK=>?_);go_simp;refine hK _ ?_;clear hK K
    refine wpAnyZ_take 3 rfl (by kernel_rfl) (by kernel_rfl) (fun _ _ _ _ h=>h) ⟨⟨_,S4.out.ub,S4.out.b9,B4.out⟩,rfl⟩ (fun K hK=>?_);go_simp;refine hK _ ?_;clear hK K
    refine wpAnyZ_take 4 rfl (by kernel_rfl) (by kernel_rfl) (fun _ _ _ _ h=>h) ⟨⟨_,S4.out.ub,S4.out.b9,B4.out⟩,rfl⟩ (fun K hK=>?_);go_simp;refine hK _ ?_;clear hK K
    refine wpAnyZ_take 5 rfl (by kernel_rfl) (by kernel_rfl) (fun _ _ _ _ h=>h) ⟨⟨_,S4.out.ub,S4.out.b9,B4.out⟩,rfl⟩ (fun K hK=>?_);go_simp;refine hK _ ?_;clear hK K
    refine wpAnyZ_take 6 rfl (by kernel_rfl) (by kernel_rfl) (fun _ _ _ _ h=>h) ⟨⟨_,S4.out.ub,S4.out.b9,B4.out⟩,rfl⟩ (fun K hK=>?_);go_simp;refine hK _ ?_;clear hK K
    refine wpAnyZ_take 7 rfl (by kernel_rfl) (by kernel_rfl) (fun _ _ _ _ h=>h) ⟨⟨_,S4.out.ub,S4.out.b9,B4.out⟩,rfl⟩ (fun K hK=>?_);go_simp;refine hK _ ?_;clear hK K
    refine wpAnyZ_take 8 rfl (by kernel_rfl) (by kernel_rfl) (fun _ _ _ _ h=>h) ⟨⟨_,S4.out.ub,S4.out.b9,B4.out⟩,rfl⟩ (fun K hK=>?_);go_simp;refine hK _ ?_;clear hK K
    refine wpAnyZ_take 9 rfl (by kernel_rfl) (by kernel_rfl) (fun _ _ _ _ h=>h) ⟨⟨_,S4.out.ub,S4.out.b9,B4.out⟩,rfl⟩ (fun K hK=>?_);go_simp;refine hK _ ?_;clear hK K
    refine wpAnyZ_one 10 rfl (by kernel_rfl) ?_
    go_wp2_with fail
    refine (HCE.out x.a x.name _ S4.out.ub.ub.h S4.out.ub.ub.f S4.out.ub.rb.m (HM.out.2.2.2.below S4.out.ub.ub.hb)).mono ?_
    rintro e w4 ⟨hb4,ka,kc,rfl,own4⟩
    have S5:=Lib.hid (S4.out.below hb4)
    have B5:=Lib.hid (B4.out.below hb4)
    have HKA:=Lib.hid (ownsCe' own4).2
    clear own4 hb4 S4 B4
    go_wp2
    refine ⟨⟨⟨_,S5.out.ub,S5.out.b9,B5.out⟩,rfl⟩,?_⟩
    refine wpAnyZ_one 11 rfl (by kernel_rfl) ?_
    have hbs5:w.heap.size + 4≤w4.heap.size:=Nat.le_trans hn4 (Nat.le_of_lt B5.out.lt)
    have hl1:(G 7 code q).length≤1000000:=by omega
    have hl2:(K x.name x.a).length≤1000000:=by omega
    refine appCesF rfl _ _ rfl (w.heap.size + 4) _ (G 7 code q) rfl S5.out.on ka kc (K x.name x.a) rfl HKA.out hl1 hl2 hbs5 ?_
    intro v7 W7 own7 hg7 hf7
    obtain ⟨-,qa,qc,rfl,-,-⟩:=ownsCe own7
    rw [HS8.out] at own7 hf7
    rw [HS8.out]
    have O7:=Lib.hid own7
    have G7:=Lib.hid hg7
    have F7:=Lib.hid hf7
    have hq7:∀ q',(Value.slice na (G 7 code q).length nc).ownBlock=some q'→w.heap.size + 4≤q':=fun q' e=>(S5.out.on.lt q' e).1
    have U7:=Lib.hid (S5.out.ub.grow HM.out.1 HM.out.2.1 HM.out.2.2.1 hg7 (fun q' e=>by have:=hq7 q' e;omega))
    have C7:=Lib.hid (S5.out.b9.grown hg7 (fun e=>by have:=hq7 _ e.symm;omega))
    have D7:=Lib.hid (B5.out.grown hg7 (owns_ne S5.out.on B5.out (by decide)))
    clear own7 hg7 hf7 hq7
    go_wp2
    refine ⟨⟨⟨_,U7.out,C7.out,D7.out⟩,rfl⟩,?_⟩
    refine wpAnyZ_one 12 rfl (by kernel_rfl) ?_
    go_wp2
    refine ⟨⟨⟨_,U7.out,C7.out,D7.out⟩,rfl⟩,?_⟩
    have q1:=C7.out.cell 1 (by simp)
    have q2:=C7.out.free 1
    simp only [List.getElem_toArray,List.getElem_cons_zero,List.getElem_cons_succ] at q1
    clear k0 k1 k2 k3 k4 k5 k6 k7 k8 k9
    refine wpAnyZ_last rfl (by kernel_rfl) ?_
    go_wp2
    refine wpAnyZ_done (by kernel_rfl) ?_ _
    have S9:=Lib.hid (PO.set1 HM.out.1 HM.out.2.1 HM.out.2.2.1 S5.out O7.out G7.out F7.out)
    clear S5 B5 S2 B2 BI HC2 U7 C7 D7 O7 G7 F7 HKA q1 q2
    generalize W7.setCell _ _=W9 at *
    go_wp2
    go_roundw
    case rel=>exact ⟨q + 1,ma,mc,qa,qc,by omega,by go_num,by rw [HO8.out];exact S9.out⟩
    case measure=>simp [intOf];omega
   case neg =>
    have t7:(x.op == 7)=false:=by simpa using h7
    have HO8:=Lib.hid (HSKq.out 8 h8)
    have HO7:=Lib.hid (HSKq.out 7 h7)
    go_wp2
    go_roundw
    case rel=>exact ⟨q + 1,ma,mc,na,nc,by omega,by go_num,by rw [HO8.out,HO7.out];exact S2.out⟩
    case measure=>simp [intOf];omega
structure UWk (u:Unt) (ha:Option Addr) (hc:Nat) (fa:Option Addr) (fc:Nat) (r:Rsl) (p:RP) (w:World) where
 W:World
 ub:URB u ha hc fa fc r p w W
set_option maxRecDepth 100000 in
set_option maxHeartbeats 8000000 in
theorem ownP11 (u:Unt) (ha:Option Addr) (hc:Nat) (fa:Option Addr) (fc:Nat) (r:Rsl) (p:RP) (f:Int) (w:World) (h:ClssAt w ha u.h) (hf:FncsAt w fa u.fs) (hr:RslAt w p r) (hk:UOk u fc r) :
 Calls Tryz.prog 7 #[unV u ha hc fa fc,rsV r p,.int .i64 f] w (EffPost (celSet (ownL u r f 8)) (celSet (ownL u r f 7)) w):=by
 have S00:Hid (URB u ha hc fa fc r p w _):=URB.start (hc:=hc) (fc:=fc) h hf hr
 have HZ:Hid (((w.alloc (unC u ha hc fa fc)).alloc (rsC r p)).heap.size=w.heap.size + 2):=by show _=_;simp
 have HM:Hid (ClssAt w ha u.h∧FncsAt w fa u.fs∧RslAt w p r):=⟨h,hf,hr⟩
 have HOW:Hid (∀ (sa:Option Addr) (sc:Nat) w1,ClssAt w1 ha u.h→FncsAt w1 fa u.fs→RslAt w1 p r→SitsAt w1 sa (sitL u)→Calls Tryz.prog 21 #[unV u ha hc fa fc,rsV r p,.slice sa (sitL u).length sc,.int .i64 f] w1 (EffPost (celSet (ownL u r f 8)) (celSet (ownL u r f 7)) w1)):=fun sa sc w1 h1 h2 h3 h4=>ownP33 u ha hc fa fc r p sa sc f w1 h1 h2 h3 h4 hk
 have HSI:Hid (∀ w1,ClssAt w1 ha u.h→FncsAt w1 fa u.fs→Calls Tryz.prog 22 #[unV u ha hc fa fc] w1 (SitsPost (sitL u) w1)):=fun w1 h1 h2=>sitesP u ha hc fa fc w1 h1 h2 hk.fit
 have HRS:=Tryz.results7
 clear h hf hr hk
 generalize celSet (ownL u r f 8)=R8 at *
 generalize celSet (ownL u r f 7)=R7 at *
 generalize sitL u=SL at *
 unfold unV rsV at *
 go_enter Tryz.func7,Tryz.ntmps7
 go_upto_region 1 with (fail)
 have S0:Hid (URB u ha hc fa fc r p w (((w.alloc (unC u ha hc fa fc)).alloc (rsC r p)).alloc (.cells #[.slice none 0 0,.slice none 0 0] 42))∧Blk (((w.alloc (unC u ha hc fa fc)).alloc (rsC r p)).alloc (.cells #[.slice none 0 0,.slice none 0 0] 42)) (w.heap.size + 2) #[.slice none 0 0,.slice none 0 0] 42):=by
  have h8:=blk_new ((w.alloc (unC u ha hc fa fc)).alloc (rsC r p)) #[.slice none 0 0,.slice none 0 0] 42
  rw [HZ.out] at h8
  exact ⟨S00.out.below (one_below ..),h8⟩
 clear S00 HZ
 generalize ((w.alloc _).alloc _).alloc _=W at *
 have k1:∀ o:UWk u ha hc fa fc r p w,o.W.cell? ⟨w.heap.size,0,none⟩=some (.slice ha u.h.length hc):=fun o=>(o.ub.now (Below.refl _ _)).1.1
 have k2:∀ o:UWk u ha hc fa fc r p w,o.W.cell? ⟨w.heap.size,1,none⟩=some (.slice fa u.fs.length fc):=fun o=>(o.ub.now (Below.refl _ _)).1.2.1
 have k3:∀ o:UWk u ha hc fa fc r p w,o.W.cell? ⟨w.heap.size,2,none⟩=some (.int .i64 u.main):=fun o=>(o.ub.now (Below.refl _ _)).1.2.2
 have k4:∀ o:UWk u ha hc fa fc r p w,o.W.cell? ⟨w.heap.size + 1,0,none⟩=some (.slice p.ra r.reached p.rc):=fun o=>(o.ub.now (Below.refl _ _)).2.1
 have k5:∀ o:UWk u ha hc fa fc r p w,o.W.cell? ⟨w.heap.size + 1,1,none⟩=some (.slice p.ca r.calls.length p.cc):=fun o=>(o.ub.now (Below.refl _ _)).2.2.1
 have k6:∀ o:UWk u ha hc fa fc r p w,o.W.cell? ⟨w.heap.size + 1,2,none⟩=some (.slice p.va r.vars.length p.vc):=fun o=>(o.ub.now (Below.refl _ _)).2.2.2.1
 have k7:∀ o:UWk u ha hc fa fc r p w,o.W.cell? ⟨w.heap.size + 1,3,none⟩=some (.slice p.xa r.cells.length p.xc):=fun o=>(o.ub.now (Below.refl _ _)).2.2.2.2
 have hne:Nonempty (UWk u ha hc fa fc r p w):=⟨⟨W,S0.out.1⟩⟩
 refine wp_region_Y (fun w'=>∃ o:UWk u ha hc fa fc r p w,w' = o.W) (by kernel_rfl) ?_
 change wpAnyY _ _ _ _ _ _ _ _ W.drew
 have U1:Hid (URB u ha hc fa fc r p w W.drew):=S0.out.1.below ((Below.refl _ _).drew)
 have B1:Hid (Blk W.drew (w.heap.size + 2) #[.slice none 0 0,.slice none 0 0] 42):=S0.out.2.below ((Below.refl _ _).drew)
 clear S0
 generalize W.drew=V0 at *
 refine wpAnyY_take 0 rfl (by kernel_rfl) (fun _ _ _ _ h=>h) ⟨⟨_,U1.out⟩,rfl⟩ (fun K hK=>?_);go_simp;refine hK _ ?_;clear hK K
 refine wpAnyY_take 1 rfl (by kernel_rfl) (fun _ _ _ _ h=>h) ⟨⟨_,U1.out⟩,rfl⟩ (fun K hK=>?_);go_simp;refine hK _ ?_;clear hK K
 refine wpAnyY_take 2 rfl (by kernel_rfl) (fun _ _ _ _ h=>h) ⟨⟨_,U1.out⟩,rfl⟩ (fun K hK=>?_);go_simp;refine hK _ ?_;clear hK K
 refine wpAnyY_take 4 rfl (by kernel_rfl) (fun _ _ _ _ h=>h) ⟨⟨_,U1.out⟩,rfl⟩ (fun K hK=>?_);go_simp;refine hK _ ?_;clear hK K
 refine wpAnyY_one 3 rfl (by kernel_rfl) ?_
 go_wp2_with fail
 refine (HSI.out _ U1.out.ub.h U1.out.ub.f).mono ?_
 rintro e w2 ⟨hb2,sa,sc,rfl,own2⟩
 have U2:=Lib.hid (U1.out.below hb2)
 have B2:=Lib.hid (B1.out.below hb2)
 have HS2:=Lib.hid (ownsS' own2).2
 clear own2 hb2 U1 B1
 go_wp2
 refine ⟨⟨⟨_,U2.out⟩,rfl⟩,?_⟩
 refine wpAnyY_one 5 rfl (by kernel_rfl) ?_
 go_wp2_with fail
 refine (HOW.out sa sc _ U2.out.ub.h U2.out.ub.f U2.out.rb.m HS2.out).mono ?_
 rintro e w3 ⟨hb3,ma,mc,na,nc,rfl,h8,h7⟩
 have U3:=Lib.hid (U2.out.below hb3)
 have B3:=Lib.hid (B2.out.below hb3)
 have H8:=Lib.hid h8
 have H7:=Lib.hid h7
 clear hb3 U2 B2 h8 h7 HS2 k1 k2 k3 k4 k5 k6 k7
 go_wp2
 refine ⟨⟨⟨_,U3.out⟩,rfl⟩,?_⟩
 refine wpAnyY_one 6 rfl (by kernel_rfl) ?_
 go_wp2_with (refine storeEff rfl _ _ rfl (w.heap.size + 2) _ _ _ _ _ _ rfl rfl _ B3.out rfl ?_)
 refine ⟨⟨⟨_,U3.out.grow HM.out.1 HM.out.2.1 HM.out.2.2 (grown_row w3 (w.heap.size + 2) #[.slice ma R8.length mc,.slice na R7.length nc]) (fun q e=>by cases e;omega)⟩,rfl⟩,?_⟩
 refine wpAnyY_done (by kernel_rfl) ?_ _
 go_wp2
 refine bodyPost_ret (v:=.agg #[.slice ma R8.length mc,.slice na R7.length nc]) (results_c HRS _ _ (w.heap.size + 2) _ _ rfl (B3.out.setRow _) Tryz.underlying42 rfl (by kernel_rfl)) rfl ?_
 have hgr:=grown_row w3 (w.heap.size + 2) #[.slice ma R8.length mc,.slice na R7.length nc]
 exact ⟨below_setRow U3.out.ub.hb (by omega) _,ma,mc,na,nc,rfl,⟨H8.out.1,celsAt_set H8.out.2 B3.out hgr⟩,⟨H7.out.1,celsAt_set H7.out.2 B3.out hgr⟩⟩
end Go.Proofs.YthbialnddkboiaaGreatDoor
