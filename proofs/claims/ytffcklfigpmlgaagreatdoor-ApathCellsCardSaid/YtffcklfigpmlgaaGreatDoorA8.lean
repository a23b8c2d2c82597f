/-
  The program's search from sites. (Printed by pre.py.)
-/
import Derived.Test.YtffcklfigpmlgaaGreatDoorPB
import Derived.Test.YtffcklfigpmlgaaGreatDoorPC
import Derived.Test.YtffcklfigpmlgaaGreatDoorRG
namespace Go.Proofs.YtffcklfigpmlgaaGreatDoor
open Go.RowKit Go.Unit0 Go.AM

abbrev blsC (bs:List Bool):Array Value:=(bs.map Value.bool).toArray
theorem bls_set (bs:List Bool) (k:Nat):(blsC bs).setIfInBounds k (.bool true)=blsC (bs.set k true):=by
 simp [blsC,List.map_set]
theorem bls_made (n:Nat):(List.replicate n (Value.bool false)).toArray=blsC (List.replicate n false):=by simp [blsC]
theorem infoB:(Tryz.prog.info? 4).map (fun i=>(i.zero,i.size,i.bytes))=some (some (.bool false),1,1):=by kernel_rfl
def cntV (l:List Value):Nat:=l.countP (fun v=>match v with | .bool false=>true | _=>false)
theorem cntV_bls (bs:List Bool):cntV (bs.map Value.bool)=cntF bs:=by
 unfold cntV cntF
 induction bs with
 | nil=>rfl
 | cons b bs ih =>
   rw [List.map_cons,List.countP_cons,List.count_cons,ih]
   cases b <;> rfl
def cntW (w:World) (g:Nat):Nat:=match w.heap[g]? with
 | some (.cells cs _ _)=>cntV cs.toList
 | _=>0
theorem cntW_blk {w:World} {g:Nat} {bs:List Bool} {t:TypeId} (h:Blk w g (blsC bs) t):cntW w g=cntF bs:=by
 unfold Blk at h
 unfold cntW
 rw [h]
 exact cntV_bls bs
theorem flatMap_le {α β:Type} {f:α→List β} {m:Nat}:∀ {l:List α},(∀ x ∈ l,(f x).length≤m)→(l.flatMap f).length≤l.length * m
 | [],_=>by simp
 | x :: l,h=>by
   have h1:=flatMap_le (l:=l) (fun y hy=>h y (by simp [hy]))
   have h2:=h x (by simp)
   rw [List.flatMap_cons,List.length_append,List.length_cons,Nat.add_mul]
   omega
theorem fldsL_len {h:List Cls} (hn:h.length≤12) (hf:∀ x ∈ h,x.fields.length≤20) (c:Str):(setB (fldsL h c)).length≤240:=by
 have h1:=setB_len (fldsL h c)
 have h2:(fldsL h c).length≤(supers h c).length * 20:=flatMap_le (fun x _=>by
  cases hx:findC h x with
  | none=>simp
  | some k=>simpa using hf k (findC_mem hx).1)
 have h3:=supP_len h c
 rw [supP_eq] at h3
 omega
theorem last_of41 {α:Type} {l:List α} (h:0 < l.length):∃ t x,l=t ++ [x]:=⟨l.dropLast,l.getLast (fun e=>by subst e;simp at h),(List.dropLast_concat_getLast _).symm⟩
structure AH (g gs:Nat) (A:Array Value) (bs:List Bool) (X:List Cel) (xa:Option Addr) (xc:Nat) (P:List Int) (pa:Option Addr) (pc:Nat) (L:List Str) (na:Option Addr) (nc:Nat) (W wr:World):Prop where
 hb:Below W.heap.size W wr
 b1:Blk wr g A 65
 bm:Blk wr gs (blsC bs) 4
 ox:wr.ownsRow W.heap.size 61 2 (.slice xa X.length xc) X.length (flatCe X)
 oy:wr.ownsRow W.heap.size 3 1 (.slice pa P.length pc) P.length (P.map intV)
 ol:wr.ownsRow W.heap.size 9 1 (.slice na L.length nc) L.length (L.map Value.string)
section
variable {g gs:Nat} {A:Array Value} {bs:List Bool} {X X':List Cel} {xa xa':Option Addr} {xc xc':Nat} {P P':List Int} {pa pa':Option Addr} {pc pc':Nat} {L L':List Str} {na na':Option Addr} {nc nc':Nat} {W wr w':World}
theorem AH.below (k:AH g gs A bs X xa xc P pa pc L na nc W wr) (hb:Below wr.heap.size wr w'):AH g gs A bs X xa xc P pa pc L na nc W w' :=
 ⟨k.hb.trans (hb.mono k.hb.size),k.b1.below hb,k.bm.below hb,owns_below k.ox hb,owns_below k.oy hb,owns_below k.ol hb⟩
theorem AH.growX (k:AH g gs A bs X xa xc P pa pc L na nc W wr) (own:w'.ownsRow W.heap.size 61 2 (.slice xa' X'.length xc') X'.length (flatCe X')) (hg:wr.grownBy w' (Value.slice xa X.length xc).ownBlock):AH g gs A bs X' xa' xc' P pa pc L na nc W w' :=
 ⟨grow_below k.hb k.ox hg,k.b1.grown hg (owns_ne k.ox k.b1 (by decide)),k.bm.grown hg (owns_ne k.ox k.bm (by decide)),own,owns_keep2 k.oy k.ox (by decide) hg,owns_keep2 k.ol k.ox (by decide) hg⟩
theorem AH.growP (k:AH g gs A bs X xa xc P pa pc L na nc W wr) (own:w'.ownsRow W.heap.size 3 1 (.slice pa' P'.length pc') P'.length (P'.map intV)) (hg:wr.grownBy w' (Value.slice pa P.length pc).ownBlock):AH g gs A bs X xa xc P' pa' pc' L na nc W w' :=
 ⟨grow_below k.hb k.oy hg,k.b1.grown hg (owns_ne k.oy k.b1 (by decide)),k.bm.grown hg (owns_ne k.oy k.bm (by decide)),owns_keep2 k.ox k.oy (by decide) hg,own,owns_keep2 k.ol k.oy (by decide) hg⟩
theorem AH.pop {s:Int} {b off:Nat} (k:AH g gs A bs X xa xc (P ++ [s]) (some ⟨b,off,none⟩) pc L na nc W wr):AH g gs A bs X xa xc P (some ⟨b,off,none⟩) pc L na nc W wr :=
 ⟨k.hb,k.b1,k.bm,k.ox,by
   have:=owns_take k.oy (m:=P.length) (by simp) (by simp)
   rw [List.map_append,List.take_left' (by simp)] at this
   exact this,k.ol⟩
theorem AH.mark (k:AH g gs A bs X xa xc P pa pc L na nc W wr) (hne:g ≠ gs) (hgs:W.heap.size≤gs) (j:Nat):AH g gs A (bs.set j true) X xa xc P pa pc L na nc W (wr.setCell ⟨gs,j,none⟩ (.bool true)):=by
 have hg:=grown_set wr gs j (.bool true)
 refine ⟨k.hb.grown hg k.hb.size (fun q hq=>by cases hq;exact hgs),k.b1.other (Ne.symm hne) j _,?_,k.ox.kept hg (.inr (Ne.symm (owns_ne k.ox k.bm (by decide)))),k.oy.kept hg (.inr (Ne.symm (owns_ne k.oy k.bm (by decide)))),k.ol.kept hg (.inr (Ne.symm (owns_ne k.ol k.bm (by decide))))⟩
 have:=k.bm.set j (.bool true)
 rw [bls_set] at this
 exact this
theorem AH.flds (k:AH g gs A bs X xa xc P pa pc L na nc W wr) (own:wr.ownsRow W.heap.size 9 1 (.slice na' L'.length nc') L'.length (L'.map Value.string)):AH g gs A bs X xa xc P pa pc L' na' nc' W wr:=⟨k.hb,k.b1,k.bm,k.ox,k.oy,own⟩
end
def AllPost (u:Unt) (r:Rsl) (S:List Int) (w:World) (e:Ending) (w':World):Prop:=Below w.heap.size w w'∧∃ (X:List Cel) (xa:Option Addr) (xc:Nat),e = .returned (.slice xa X.length xc)∧X.length≤36000∧(∀ c,c ∈ X ↔ (RchS u r S c.s∧fldB u.h (sitL u) c.f c.s=true))∧CelsAt w' xa X
set_option maxRecDepth 100000 in
set_option maxHeartbeats 32000000 in
theorem all41 (u:Unt) (ha:Option Addr) (hc:Nat) (fa:Option Addr) (fc:Nat) (r:Rsl) (p:RP) (sa:Option Addr) (sc:Nat) (S:List Int) (la:Option Addr) (lc:Nat) (w:World) (h:ClssAt w ha u.h) (hf:FncsAt w fa u.fs) (hr:RslAt w p r) (hs:SitsAt w sa (sitL u)) (hL:IntsAt w la S) (hll:S.length≤150) (hin:∀ x ∈ S,inN (sitL u).length x=true) (hk:UOk u fc r) :
 Calls Tryz.prog 24 #[hpV u ha hc fa fc r p sa sc (sitL u).length,.slice la S.length lc] w (AllPost u r S w):=by
 have HM:Hid (ClssAt (w.alloc (hpC u ha hc fa fc r p sa sc (sitL u).length)) ha u.h∧FncsAt (w.alloc (hpC u ha hc fa fc r p sa sc (sitL u).length)) fa u.fs∧RslAt (w.alloc (hpC u ha hc fa fc r p sa sc (sitL u).length)) p r∧SitsAt (w.alloc (hpC u ha hc fa fc r p sa sc (sitL u).length)) sa (sitL u)∧IntsAt (w.alloc (hpC u ha hc fa fc r p sa sc (sitL u).length)) la S):=⟨h.below (one_below ..),hf.below (one_below ..),hr.below (one_below ..),hs.below (one_below ..),hL.below (one_below ..)⟩
 have B0:Hid (Blk (w.alloc (hpC u ha hc fa fc r p sa sc (sitL u).length)) w.heap.size (hpA u ha hc fa fc r p sa sc (sitL u).length) 65):=blk_new ..
 have HB0:=Lib.hid (one_below w (hpC u ha hc fa fc r p sa sc (sitL u).length))
 have HZ:Hid (w.heap.size < (w.alloc (hpC u ha hc fa fc r p sa sc (sitL u).length)).heap.size):=by show _ < _;simp
 have HFO:Hid (∀ (j:Nat) (_:j < (sitL u).length) (fld:Str) (a:Option Addr) (c:Nat) w1,ClssAt w1 ha u.h→FncsAt w1 fa u.fs→RslAt w1 p r→SitsAt w1 sa (sitL u)→IntsAt w1 a [(j:Int)]→Calls Tryz.prog 23 #[hpV u ha hc fa fc r p sa sc (sitL u).length,.slice a 1 c,.string fld] w1 (FolPost (cfL u fld [(j:Int)]) (conL u r (cfL u fld [(j:Int)])) w1)):=fun j hj fld a c w1 h1 h2 h3 h4 h5=>follow41 u ha hc fa fc r p sa sc [(j:Int)] a c fld w1 h1 h2 h3 h4 h5 (by simp) (fun x hx=>by rw [List.mem_singleton.1 hx];exact inN_t (by omega) (by omega)) hk
 have HFD:Hid (∀ cls w1,ClssAt w1 ha u.h→Calls Tryz.prog 57 #[hpV u ha hc fa fc r p sa sc (sitL u).length,.string cls] w1 (StrsPost (setB (fldsL u.h cls)) w1)):=fun cls w1 h1=>fields41 u ha hc fa fc r p sa sc (sitL u).length cls w1 h1 hk.fit
 have HFL:Hid (∀ cls,(setB (fldsL u.h cls)).length≤240):=fun cls=>fldsL_len hk.fit.nc (fun x hx=>(hk.fit.c x hx).f) cls
 have HCN:Hid (∀ w1,IntsAt w1 la S→Calls Tryz.prog 54 #[.slice la S.length lc] w1 (IntsPost S w1)):=fun w1 h1=>cloneInt S la lc w1 h1 (by omega)
 have HIN:=Lib.hid hin
 have HDP:Hid (∀ bs P (j:Nat) O (L:List Str),DI u r S bs (P ++ [(j:Int)]) O→j < bs.length→(∀ f,fldB u.h (sitL u) f (j:Int)=true→f ∈ L)→DI u r S (bs.set j true) (P ++ (L.take L.length).flatMap (fun f=>conL u r (cfL u f [(j:Int)]))) (O ++ (L.take L.length).flatMap (fun f=>cfL u f [(j:Int)]))):=fun bs P j O L k hj hL=>by rw [List.take_length];exact k.push hj L hL
 have HFB:Hid (∀ (j:Nat) (hj:j < (sitL u).length) f,fldB u.h (sitL u) f (j:Int)=true→f ∈ setB (fldsL u.h (sitL u)[j].c)):=fun j hj f e=>fldB_flds hj e
 have HL1:Hid (∀ f (j:Nat),(cfL u f [(j:Int)]).length≤1):=fun f j=>Nat.le_trans (celL_len _ _ _ _) (by simp)
 have HL2:Hid (∀ f (j:Nat),(conL u r (cfL u f [(j:Int)])).length≤150):=fun f j=>by have:=conL_len u r (cfL u f [(j:Int)]);have:=hk.sl;omega
 have hsl:=hk.sl
 clear h hf hr hs hL hin hk
 generalize hSL:sitL u=SL at *
 unfold hpV hpC hpA at *
 go_enter Tryz.func24,Tryz.ntmps24
 go_upto_region 1 with (fail)
 generalize w.alloc _=W at *
 obtain ⟨⟨z0,z1,z2⟩,⟨z3,z4,z5,z6⟩,z7⟩:=hp_cells B0.out (Below.refl _ _)
 obtain ⟨i0,hi,hz0,hz1,hz2⟩:=info_parts infoB
 go_upto_region 3 with (refine wpList_make_full W rfl _ _ 118 rfl 0 4 i0 (.bool false) 1 Tryz.underlying118 hi hz0 hz1 .i64 .i64 SL.length SL.length SL.length rfl rfl rfl rfl (by rw [hz2];omega) (by unfold maxLen;omega) (Nat.zero_le _) ?_;intro W0 own0 hg0)
 have HB1:Hid (Below W.heap.size W W0):=(Below.refl _ _).grown hg0 (Nat.le_refl _) (fun q hq=>by cases hq)
 have BK0:Hid (Blk W0 W.heap.size (blsC (List.replicate SL.length false)) 4):=by
  have:=blk_of_full own0
  rw [Nat.mul_one,show (Value.bool false).cells = #[.bool false] from rfl,made_one,bls_made] at this
  exact this
 have hgne:w.heap.size ≠ W.heap.size:=by have:=HZ.out;omega
 have hsz0:=HB1.out.size
 clear own0 hg0 hi hz0 hz1 hz2 z0 z1 z2 z3 z4 z5 z6 z7
 generalize hgs:W.heap.size=gs at BK0 hgne
 have hgs2:W.heap.size≤gs:=by omega
 clear hgs
 go_wp2_with (go_at_call 54;refine (HCN.out _ (HM.out.2.2.2.2.below HB1.out)).mono ?_;rintro e w1 ⟨hb1,pa,pc,rfl,own1⟩)
 have R0:Hid (AH w.heap.size gs _ (List.replicate SL.length false) [] none 0 S pa pc [] none 0 W w1):=⟨HB1.out.trans (hb1.mono hsz0),(B0.out.below HB1.out).below hb1,BK0.out.below hb1,World.ownsRow_nil _ _ _ _,owns_mono own1 hsz0,World.ownsRow_nil _ _ _ _⟩
 clear own1 hb1 BK0 HB1 HCN B0 hsz0
 go_loopw [5,7] (fun v5 v7 wr=>∃ (bs:List Bool) (X:List Cel) (xa:Option Addr) (xc:Nat) (P:List Int) (pa:Option Addr) (pc:Nat) (L:List Str) (na:Option Addr) (nc:Nat),v5 = .slice xa X.length xc∧v7 = .slice pa P.length pc∧Hid (AH w.heap.size gs _ bs X xa xc P pa pc L na nc W wr)∧Hid (DI u r S bs P X)∧Hid (bs.length=SL.length)∧Hid (P.length + 36000 * cntF bs≤36000 * 150 + 150)∧Hid (X.length + 240 * cntF bs≤240 * 150)) (fun _ v7 wr=>36001 * cntW wr gs + slLen v7)
 case atStart =>
  have hcf:cntF (List.replicate SL.length false)=SL.length:=by unfold cntF;simp
  exact ⟨_,[],none,0,S,pa,pc,[],none,0,rfl,rfl,R0.out,DI.start u r S _,List.length_replicate,(by show _≤_;rw [hcf];omega),(by show _≤_;rw [hcf];simp;omega)⟩
 case round =>
  clear R0
  obtain ⟨bs,X,xa,xc,P0,pa,pc,L0,na0,nc0,rfl,rfl,B,D,HLB,HPB,HXB⟩:=hrel
  have hcw:=cntW_blk B.out.bm
  by_cases hP:0 < P0.length
  case neg =>
   have hP0:P0 = []:=List.eq_nil_of_length_eq_zero (by omega)
   subst hP0
   have HD:=Lib.hid (D.out.done)
   have HXL:Hid (X.length≤36000):=by show _≤_;have:=HXB.out;omega
   rw [hSL] at HD
   clear D HPB HXB
   go_wp2
   go_ret
   exact ⟨HB0.out.trans (B.out.hb.mono HB0.out.size),X,xa,xc,rfl,HXL.out,fun c=>by rw [hSL];exact HD.out c,(ownsCe' B.out.ox).2⟩
  obtain ⟨P,s,rfl⟩:=last_of41 hP
  have hsr:=inN_iff.1 (RchS.inn (by rw [hSL];exact HIN.out) (D.out.pr s (by simp)))
  rw [hSL] at hsr
  obtain ⟨j,rfl⟩:∃ j:Nat,s=j:=⟨s.toNat,by omega⟩
  have hj:j < SL.length:=by omega
  have hjb:j < bs.length:=by rw [HLB.out];exact hj
  have hoI:=owns_ints' B.out.oy
  obtain ⟨b,off,he,cx⟩:=hoI.2 P.length (by simp)
  have hcap:=hoI.1
  subst he
  have hTl:(P ++ [(j:Int)]).length=P.length + 1:=by simp
  have hpb:=HPB.out
  have hxb:=HXB.out
  rw [hTl] at hpb hcap ⊢
  rw [List.getElem_append_right (Nat.le_refl _)] at cx
  simp only [Nat.sub_self,List.getElem_cons_zero] at cx
  have B1:=Lib.hid (B.out.pop)
  have cm:=B1.out.bm.cell j (by simpa using hjb)
  have cfr:=B1.out.bm.free j
  simp only [List.getElem_toArray,List.getElem_map] at cm
  clear hsr hP hoI B HPB HXB
  cases hbj:bs[j]
  case true =>
   have D1:=Lib.hid (D.out.pop ⟨by omega,by rw [Int.toNat_natCast,List.getElem?_eq_getElem hjb,hbj]⟩)
   rw [hbj] at cm
   clear D hbj
   go_wp2
   go_roundw
   case rel=>exact ⟨bs,X,xa,xc,P,_,pc,L0,na0,nc0,rfl,rfl,B1.out,D1.out,HLB.out,(by show _≤_;omega),hxb⟩
   case measure =>
    simp only [slLen]
    omega
  rw [hbj] at cm
  have hcs:cntF (bs.set j true) + 1=cntF bs:=cntF_set (by rw [List.getElem?_eq_getElem hjb,hbj])
  have HDP1:=Lib.hid (fun L hL=>HDP.out bs P j X L D.out hjb hL)
  have HLS:Hid ((bs.set j true).length=SL.length):=by show _=_;rw [List.length_set];exact HLB.out
  clear D hbj
  go_upto_region 9 with (fail)
  have B2:=Lib.hid (B1.out.mark hgne hgs2 j)
  clear B1 cx cm cfr hjb HLB
  generalize wr.setCell ⟨gs,j,none⟩ (.bool true)=w2 at *
  generalize bs.set j true=bs2 at *
  have hcw2:=cntW_blk B2.out.bm
  obtain ⟨⟨z0,z1,z2⟩,⟨z3,z4,z5,z6⟩,z7⟩:=hp_cells B2.out.b1 (Below.refl _ _)
  obtain ⟨b2,o2,he,q0,q1,q2⟩:=(HM.out.2.2.2.1.below B2.out.hb) j hj
  subst he
  have HFB1:=Lib.hid (HFB.out j hj)
  have HFD1:=Lib.hid (HFD.out SL[j].c)
  have hfl:=HFL.out SL[j].c
  have HFO1:=Lib.hid (HFO.out j hj)
  generalize SL[j].c=cls at *
  generalize setB (fldsL u.h cls)=L at *
  clear q0 q1
  have k0:∀ o:WB w2,o.u.cell? ⟨w.heap.size,0,none⟩=some (.slice ha u.h.length hc):=fun o=>cell_below o.h z0
  have k1:∀ o:WB w2,o.u.cell? ⟨w.heap.size,1,none⟩=some (.slice fa u.fs.length fc):=fun o=>cell_below o.h z1
  have k2:∀ o:WB w2,o.u.cell? ⟨w.heap.size,2,none⟩=some (.int .i64 u.main):=fun o=>cell_below o.h z2
  have k3:∀ o:WB w2,o.u.cell? ⟨w.heap.size,3,none⟩=some (.slice p.ra r.reached p.rc):=fun o=>cell_below o.h z3
  have k4:∀ o:WB w2,o.u.cell? ⟨w.heap.size,4,none⟩=some (.slice p.ca r.calls.length p.cc):=fun o=>cell_below o.h z4
  have k5:∀ o:WB w2,o.u.cell? ⟨w.heap.size,5,none⟩=some (.slice p.va r.vars.length p.vc):=fun o=>cell_below o.h z5
  have k6:∀ o:WB w2,o.u.cell? ⟨w.heap.size,6,none⟩=some (.slice p.xa r.cells.length p.xc):=fun o=>cell_below o.h z6
  have k7:∀ o:WB w2,o.u.cell? ⟨w.heap.size,7,none⟩=some (.slice (some ⟨b2,o2,none⟩) SL.length sc):=fun o=>cell_below o.h z7
  have k9:∀ o:WB w2,o.u.cell? ⟨b2,o2 + j * 3 + 2,none⟩=some (.string cls):=fun o=>cell_below o.h q2
  have hne:Nonempty (WB w2):=⟨⟨w2,Below.refl _ _⟩⟩
  have h0:Below w2.heap.size w2 w2.drew:=(Below.refl _ _).drew
  clear z0 z1 z2 z3 z4 z5 z6 z7 q2
  refine wp_region_Y (fun w'=>∃ o:WB w2,w' = o.u) (by kernel_rfl) ?_
  change wpAnyY _ _ _ _ _ _ _ _ w2.drew
  generalize w2.drew=V0 at *
  refine wpAnyY_take 0 rfl (by kernel_rfl) (fun _ _ _ _ h=>h) ⟨⟨_,h0⟩,rfl⟩ (fun K hK=>?_);go_simp;refine hK _ ?_;clear hK K
  refine wpAnyY_take 1 rfl (by kernel_rfl) (fun _ _ _ _ h=>h) ⟨⟨_,h0⟩,rfl⟩ (fun K hK=>?_);go_simp;refine hK _ ?_;clear hK K
  refine wpAnyY_take 2 rfl (by kernel_rfl) (fun _ _ _ _ h=>h) ⟨⟨_,h0⟩,rfl⟩ (fun K hK=>?_);go_simp;refine hK _ ?_;clear hK K
  refine wpAnyY_take 3 rfl (by kernel_rfl) (fun _ _ _ _ h=>h) ⟨⟨_,h0⟩,rfl⟩ (fun K hK=>?_);go_simp;refine hK _ ?_;clear hK K
  refine wpAnyY_take 4 rfl (by kernel_rfl) (fun _ _ _ _ h=>h) ⟨⟨_,h0⟩,rfl⟩ (fun K hK=>?_);go_simp;refine hK _ ?_;clear hK K
  refine wpAnyY_take 5 rfl (by kernel_rfl) (fun _ _ _ _ h=>h) ⟨⟨_,h0⟩,rfl⟩ (fun K hK=>?_);go_simp;refine hK _ ?_;clear hK K
  refine wpAnyY_take 6 rfl (by kernel_rfl) (fun _ _ _ _ h=>h) ⟨⟨_,h0⟩,rfl⟩ (fun K hK=>?_);go_simp;refine hK _ ?_;clear hK K
  refine wpAnyY_take 9 rfl (by kernel_rfl) (fun _ _ _ _ h=>h) ⟨⟨_,h0⟩,rfl⟩ (fun K hK=>?_);go_simp;refine hK _ ?_;clear hK K
  refine wpAnyY_one 7 rfl (by kernel_rfl) ?_
  go_wp2_with fail
  refine (HFD1.out _ (HM.out.1.below (B2.out.below h0).hb)).mono ?_
  rintro e w3 ⟨hb3,na,nc,rfl,own3⟩
  have h3:Below w2.heap.size w2 w3:=h0.trans (hb3.mono h0.size)
  have O3:=Lib.hid (owns_mono own3 (Nat.le_trans B2.out.hb.size h0.size))
  clear hb3 own3 HFD1
  go_wp2
  refine ⟨⟨⟨_,h3⟩,rfl⟩,?_⟩
  refine wpAnyY_one 8 rfl (by kernel_rfl) ?_
  go_wp2
  refine ⟨⟨⟨_,h3⟩,rfl⟩,?_⟩
  refine wpAnyY_done (by kernel_rfl) ?_ _
  have B3:=Lib.hid ((B2.out.below h3).flds O3.out)
  clear k0 k1 k2 k3 k4 k5 k6 k7 k9 h0 h3 O3 B2 hcw2
  go_wp2
  have HXZ:Hid (X ++ (L.take 0).flatMap (fun f=>cfL u f [(j:Int)])=X):=by show _=_;simp
  have HPZ:Hid (P ++ (L.take 0).flatMap (fun f=>conL u r (cfL u f [(j:Int)]))=P):=by show _=_;simp
  have HXS:Hid (∀ q (hq:q < L.length),X ++ (L.take (q + 1)).flatMap (fun f=>cfL u f [(j:Int)])=X ++ (L.take q).flatMap (fun f=>cfL u f [(j:Int)]) ++ cfL u L[q] [(j:Int)]):=fun q hq=>by rw [take_snoc hq,List.flatMap_append];simp
  have HPS:Hid (∀ q (hq:q < L.length),P ++ (L.take (q + 1)).flatMap (fun f=>conL u r (cfL u f [(j:Int)]))=P ++ (L.take q).flatMap (fun f=>conL u r (cfL u f [(j:Int)])) ++ conL u r (cfL u L[q] [(j:Int)])):=fun q hq=>by rw [take_snoc hq,List.flatMap_append];simp
  have HXQ:Hid (∀ q,(X ++ (L.take q).flatMap (fun f=>cfL u f [(j:Int)])).length≤X.length + 240):=fun q=>by
   have h1:=flatMap_le (f:=fun f=>cfL u f [(j:Int)]) (m:=1) (l:=L.take q) (fun f _=>HL1.out f j)
   have h2:=List.length_take_le q L
   rw [List.length_append]
   have h3:(L.take q).length≤L.length:=by simp;omega
   omega
  have HPQ:Hid (∀ q,(P ++ (L.take q).flatMap (fun f=>conL u r (cfL u f [(j:Int)]))).length≤P.length + 36000):=fun q=>by
   have h1:=flatMap_le (f:=fun f=>conL u r (cfL u f [(j:Int)])) (m:=150) (l:=L.take q) (fun f _=>HL2.out f j)
   rw [List.length_append]
   have h3:(L.take q).length≤L.length:=by simp;omega
   omega
  have HDL:=Lib.hid (HDP1.out L HFB1.out)
  have HC1:Hid (∀ f,(cfL u f [(j:Int)]).length≤1000000):=fun f=>by have:=HL1.out f j;omega
  have HC2:Hid (∀ f,(conL u r (cfL u f [(j:Int)])).length≤1000000):=fun f=>by have:=HL2.out f j;omega
  clear HDP1 HFB1
  obtain ⟨XF,hXF⟩:∃ XF:Nat→List Cel,XF=fun q=>X ++ (L.take q).flatMap (fun f=>cfL u f [(j:Int)]):=⟨_,rfl⟩
  obtain ⟨PF,hPF⟩:∃ PF:Nat→List Int,PF=fun q=>P ++ (L.take q).flatMap (fun f=>conL u r (cfL u f [(j:Int)])):=⟨_,rfl⟩
  have HXF:Hid (∀ q,X ++ (L.take q).flatMap (fun f=>cfL u f [(j:Int)])=XF q):=fun q=>by rw [hXF]
  have HPF:Hid (∀ q,P ++ (L.take q).flatMap (fun f=>conL u r (cfL u f [(j:Int)]))=PF q):=fun q=>by rw [hPF]
  clear hXF hPF
  simp only [HXF.out,HPF.out] at HXZ HPZ HXS HPS HXQ HPQ HDL
  clear HXF HPF
  obtain ⟨CF,hCF⟩:∃ CF:Str→List Cel,CF=fun f=>cfL u f [(j:Int)]:=⟨_,rfl⟩
  obtain ⟨CN,hCN⟩:∃ CN:Str→List Int,CN=fun f=>conL u r (cfL u f [(j:Int)]):=⟨_,rfl⟩
  have HCN:Hid (∀ f,conL u r (cfL u f [(j:Int)])=CN f):=fun f=>by rw [hCN]
  have HCF:Hid (∀ f,cfL u f [(j:Int)]=CF f):=fun f=>by rw [hCF]
  clear hCF hCN
  simp only [HCN.out] at HFO1 HPS HC2
  simp only [HCF.out] at HFO1 HXS HC1
  clear HCF HCN
  obtain ⟨wo,rfl⟩:∃ wo,wo=wr:=⟨_,rfl⟩
  go_loopw [5,7,49] (fun v5 v7 i wx=>∃ (q:Nat) (xa:Option Addr) (xc:Nat) (pa:Option Addr) (pc:Nat),q≤L.length∧v5 = .slice xa (XF q).length xc∧v7 = .slice pa (PF q).length pc∧i = .int .i64 q∧Hid (AH w.heap.size gs _ bs2 (XF q) xa xc (PF q) pa pc L na nc W wx)) (fun _ _ i _=>L.length - (intOf i).toNat)
  case atStart=>exact ⟨0,xa,xc,_,pc,Nat.zero_le _,by rw [HXZ.out],by rw [HPZ.out],rfl,by rw [HXZ.out,HPZ.out];exact B3.out⟩
  case round =>
   clear B3 HXZ HPZ
   obtain ⟨q,xa,xc,pa,pc,hq,rfl,rfl,rfl,B⟩:=hrel
   have hxq:=HXQ.out q
   have hpq:=HPQ.out q
   by_cases hlt:q < L.length
   case neg =>
    obtain rfl:q=L.length:=by omega
    have hcw3:=cntW_blk B.out.bm
    clear HXS HPS HFO1
    go_wp2
    go_roundw
    case rel=>exact ⟨bs2,_,xa,xc,_,pa,pc,L,na,nc,rfl,rfl,B.out,HDL.out,HLS.out,(by show _≤_;omega),(by show _≤_;omega)⟩
    case measure =>
     rw [hcw3,hcw]
     simp only [slLen]
     omega
   obtain ⟨b3,o3,he,c3⟩:=(owns_strs' B.out.ol).2 q hlt
   have HXSq:=Lib.hid (HXS.out q hlt)
   have HPSq:=Lib.hid (HPS.out q hlt)
   generalize L[q]=f at *
   subst he
   have B4:=Lib.hid (B.out.below (one_below wr (.cells #[.int .i64 j] 3)))
   have hb4:=one_below wr (.cells #[.int .i64 j] 3)
   obtain ⟨⟨z0,z1,z2⟩,⟨z3,z4,z5,z6⟩,z7⟩:=hp_cells B.out.b1 (Below.refl _ _)
   have HF4:=Lib.hid (HFO1.out f (some ⟨wr.heap.size,0,none⟩) 1 _ (HM.out.1.below B4.out.hb) (HM.out.2.1.below B4.out.hb) (HM.out.2.2.1.below B4.out.hb) (HM.out.2.2.2.1.below B4.out.hb) (ints_new _ _))
   have h1:=HC1.out f
   have h2:=HC2.out f
   generalize CF f=cf at *
   generalize CN f=cn at *
   go_upto_region 13 with (go_at_call 23;refine HF4.out.mono ?_;rintro e w5 ⟨hb5,ya,yc,za,zc,rfl,ownY,ownZ⟩)
   have B5:=Lib.hid (B4.out.below hb5)
   have AY:=Lib.hid (ownsCe' ownY).2
   have AZ:=Lib.hid ownZ
   clear B B4 HF4 hb4 hb5 ownY ownZ z0 z1 z2 z3 z4 z5 z6 z7 c3
   have hbs5:=B5.out.hb.size
   have hx5:(XF q).length≤1000000:=by omega
   go_upto_region 14 with (at_builtin;refine appCes rfl _ _ rfl W.heap.size _ (XF q) rfl B5.out.ox ya yc cf rfl AY.out hx5 h1 hbs5 ?_;intro v7 W7 own7 hg7;obtain ⟨-,xa7,xc7,rfl,-,-⟩:=ownsCe own7)
   rw [← HXSq.out] at own7
   have B7:=Lib.hid (B5.out.growX own7 hg7)
   have AZ7:Hid (IntsAt W7 za cn):=(owns_ints' (owns_keep2 AZ.out B5.out.ox (by decide) hg7)).2
   clear B5 AY AZ own7 hg7
   have hbs7:=B7.out.hb.size
   have hp7:(PF q).length≤20000000:=by omega
   go_wp2_with (at_builtin;refine app_intsB rfl _ _ rfl W.heap.size _ (PF q) rfl B7.out.oy za zc cn rfl AZ7.out hp7 h2 hbs7 ?_;intro v9 W9 own9 hg9;obtain ⟨-,pa9,pc9,rfl,-,-⟩:=owns_ints own9)
   rw [← HPSq.out] at own9
   have B9:=Lib.hid (B7.out.growP own9 hg9)
   clear B7 AZ7 own9 hg9
   go_roundw
   case rel=>exact ⟨q + 1,xa7,xc7,pa9,pc9,by omega,(by rw [HXSq.out];simp),(by rw [HPSq.out];simp),by go_num,B9.out⟩
   case measure=>simp [intOf];omega
end Go.Proofs.YtffcklfigpmlgaaGreatDoor
