/-
  Worlds in which nothing but one block has changed.
  Cells compacted by the library, and the program's ascending.
-/
import Derived.Test.YtffcklfigpmlgaaGreatDoorHK
import Derived.Test.YtffcklfigpmlgaaGreatDoorXC
namespace Go.Proofs.YtffcklfigpmlgaaGreatDoor
open Go.RowKit Go.Unit0 Go.AM

theorem made_one (z:Value) (n:Nat):(madeCells #[z] n).toList=List.replicate n z:=by
 apply List.ext_getElem (by simp [madeCells])
 intro i h1 h2
 simp [madeCells,Nat.mod_one]
theorem grown_below {a b c:World} {row:Option Nat} (hg:a.grownBy b row) (hb:Below b.heap.size b c):a.grownBy c row :=
 ⟨hb.os.trans hg.os,hb.tape.trans hg.tape,hb.output.trans hg.output,Nat.le_trans hg.size hb.size,fun k hk hne=>(hb.block k (Nat.lt_of_lt_of_le hk hg.size)).trans (hg.block k hk hne)⟩
theorem grown_grown {a b c:World} {row row2:Option Nat} (hg:a.grownBy b row) (hh:b.grownBy c row2) (hr:∀ q,row2=some q→a.heap.size≤q ∨ row=some q):a.grownBy c row :=
 ⟨hh.os.trans hg.os,hh.tape.trans hg.tape,hh.output.trans hg.output,Nat.le_trans hg.size hh.size,fun k hk hne=>(hh.block k (Nat.lt_of_lt_of_le hk hg.size) (fun e=>by
   rcases hr k e.symm with h | h
   ·omega
   ·exact hne h.symm)).trans (hg.block k hk hne)⟩
end Go.Proofs.YtffcklfigpmlgaaGreatDoor
namespace Go.Proofs.YtffcklfigpmlgaaGreatDoor
open Go.RowKit Go.Unit0 Go.AM Go.Sort Go.Lib

theorem flatCe_set:∀ (D:List Cel) (kk:Nat) (z:Cel),kk < D.length→flatCe (D.set kk z)=(flatCe D).take (kk * 2) ++ encCe z ++ (flatCe D).drop (kk * 2 + 2)
 | x :: D,0,z,_=>by simp [flatCe,encCe]
 | x :: D,kk + 1,z,h=>by
   have ih:=flatCe_set D kk z (by simpa using h)
   have e1:flatCe (x :: D) = .int .i64 x.s :: .string x.f :: flatCe D:=rfl
   have e2:flatCe ((x :: D).set (kk + 1) z) = .int .i64 x.s :: .string x.f :: flatCe (D.set kk z):=rfl
   rw [e1,e2,ih,show (kk + 1) * 2=kk * 2 + 1 + 1 by omega]
   rfl
theorem flatCe_take (D:List Cel) (m:Nat):flatCe (D.take m)=(flatCe D).take (m * 2):=by
 induction D generalizing m with
 | nil=>simp [flatCe]
 | cons x D ih =>
   cases m with
   | zero=>simp [flatCe]
   | succ m =>
     have e1:flatCe (x :: D) = .int .i64 x.s :: .string x.f :: flatCe D:=rfl
     have e2:flatCe ((x :: D).take (m + 1)) = .int .i64 x.s :: .string x.f :: flatCe (D.take m):=rfl
     rw [e1,e2,ih,show (m + 1) * 2=m * 2 + 1 + 1 by omega]
     rfl
structure CR (base g c:Nat) (D:List Cel) (w:World) (cur:Array Value):Prop where
 hb:base≤g
 bk:Blk w g cur 61
 le:D.length≤c
 cm:c≤maxLen
 sz:cur.size=c * 2
 ht:cur.toList.take (D.length * 2)=flatCe D
theorem CR.owns {base g c:Nat} {D:List Cel} {w:World} {cur:Array Value} (k:CR base g c D w cur):w.ownsRow base 61 2 (.slice (some ⟨g,0,none⟩) D.length c) D.length (flatCe D) :=
 ⟨flatCe_len D,.inr ⟨g,c,cur,rfl,k.hb,k.bk,k.le,k.cm,k.sz,k.ht⟩⟩
theorem CR.below {base g c:Nat} {D:List Cel} {w w':World} {cur:Array Value} (k:CR base g c D w cur) (hb:Go.RowKit.Below w.heap.size w w'):CR base g c D w' cur:=⟨k.hb,k.bk.below hb,k.le,k.cm,k.sz,k.ht⟩
theorem CR.take {base g c:Nat} {D:List Cel} {w:World} {cur:Array Value} (k:CR base g c D w cur) (m:Nat) (hm:m≤D.length):CR base g c (D.take m) w cur:=by
 have hl:(D.take m).length=m:=by simp;omega
 refine ⟨k.hb,k.bk,by have:=k.le;omega,k.cm,k.sz,?_⟩
 rw [hl,flatCe_take,← k.ht,List.take_take,Nat.min_eq_left (by omega)]
theorem CR.store {base g c:Nat} {D D':List Cel} {w:World} {cur:Array Value} (k:CR base g c D w cur) (i:Nat) (vs:List Value) (hi:i + vs.length≤D.length * 2) (hl:D'.length=D.length) (hf:flatCe D' = (flatCe D).take i ++ vs ++ (flatCe D).drop (i + vs.length)) :
 CR base g c D' (w.setRow g (cur.toList.take i ++ vs ++ cur.toList.drop (i + vs.length)).toArray) (cur.toList.take i ++ vs ++ cur.toList.drop (i + vs.length)).toArray:=by
 have hle:=k.le
 have hsz:=k.sz
 have hcl:cur.toList.length=c * 2:=by simpa using hsz
 refine ⟨k.hb,k.bk.setRow _,by omega,k.cm,?_,?_⟩
 ·simp
  omega
 ·show List.take (D'.length * 2) (cur.toList.take i ++ vs ++ cur.toList.drop (i + vs.length))=_
  have e1:cur.toList.take i=(flatCe D).take i:=by rw [← k.ht,List.take_take,Nat.min_eq_left (by omega)]
  have e2:(cur.toList.drop (i + vs.length)).take (D.length * 2 - (i + vs.length))=(flatCe D).drop (i + vs.length):=by rw [← k.ht,List.drop_take]
  have hA:(cur.toList.take i ++ vs).length=i + vs.length:=by simp;omega
  rw [hf,hl,show D.length * 2=(cur.toList.take i ++ vs).length + (D.length * 2 - (i + vs.length)) by omega,List.take_length_add_append,e2,e1]
theorem CR.cells {base g c:Nat} {D:List Cel} {w:World} {cur:Array Value} (k:CR base g c D w cur) {j:Nat} (hj:j < D.length):w.cell? ⟨g,j * 2,none⟩=some (.int .i64 D[j].s)∧w.cell? ⟨g,j * 2 + 1,none⟩=some (.string D[j].f):=by
 obtain ⟨b,off,he,h0,h1⟩:=(ownsCe' k.owns).2 j hj
 cases he
 rw [Nat.zero_add] at h0 h1
 exact ⟨h0,h1⟩
theorem CR.at {base g c off:Nat} {d:Array Cel} {w:World} {cur:Array Value} (k:CR base g c d.toList w cur) (ho:off=0) {j:Nat} (hj:j < d.size):w.cell? ⟨g,off + j * 2,none⟩=some (.int .i64 d[j]!.s)∧w.cell? ⟨g,off + j * 2 + 1,none⟩=some (.string d[j]!.f):=by
 subst ho
 have:=k.cells (j:=j) (by simpa using hj)
 rw [Nat.zero_add,getElem!_pos d j hj]
 simpa using this
theorem storeCe {ops:Array Oper} {rest:List Oper} {o:Oper} {a:Act} {w:World} {Q:Exit→Act→World→Prop} (hgd:o.guard=none) (hd:o.dst=none) (x y:Operand) (ho:o.op = .store 61 x y)
 (g i:Nat) (z:Cel) (hx:a.eval x = .pointer (some ⟨g,i,none⟩)) (hy:a.eval y = .agg #[.int .i64 z.s,.string z.f])
 (cur:Array Value) (hg:Blk w g cur 61) (hi:i + 2≤cur.size)
 (h:wpList Tryz.prog ops Q rest a (w.setRow g (cur.toList.take i ++ encCe z ++ cur.toList.drop (i + 2)).toArray)):wpList Tryz.prog ops Q (o :: rest) a w:=by
 obtain ⟨i0,hi0,hz0,hz1,hz2⟩:=info_parts infoCe
 refine wpList_plain hgd fun _ hK=>?_
 have hst:=run_storeCells_at Tryz.prog g i 61 (encCe z) 0 cur w hg (by simpa [encCe] using hi) (by intro v hv;simp [encCe] at hv;rcases hv with rfl | rfl <;> rfl)
 rw [Nat.add_zero] at hst
 have hst2:(storeCells ⟨g,i,none⟩ [.int .i64 z.s,.string z.f] 0).run Tryz.prog w = .ok () (w.setRow g (cur.toList.take i ++ encCe z ++ cur.toList.drop (i + 2)).toArray):=hst
 have hsv:(storeVar 61 ⟨g,i,none⟩ (.agg #[.int .i64 z.s,.string z.f])).run Tryz.prog w = .ok () (w.setRow g (cur.toList.take i ++ encCe z ++ cur.toList.drop (i + 2)).toArray):=by
  simp [storeVar,sizeOf,typeInfo,hi0,Value.cells,hz1,hst2]
 unfold Oper.wp execOp
 simp only [ho,hx,hy,Instr.storeAt,Instr.sureAddr,Sem.run_bind,Sem.run_pure,Result.andThen_ok,hsv]
 exact hK _ _ (by rw [hd];exact h)
set_option maxRecDepth 100000 in
theorem ceLoAt (g off n c m:Nat) (hm:m < n) (hc:n≤c) (w:World):(Instr.slice 45 (.slice (some ⟨g,off,none⟩) n c) (some (.int .i64 (m:Int))) none none).run Tryz.prog w = .ok (.slice (some ⟨g,off + m * 2,none⟩) (n - m) (c - m)) w:=by
 have hs:(sizeOf (Tryz.prog.elem 45)).run Tryz.prog w = .ok 2 w:=by kernel_rfl
 rw [run_slice_l w 45 (some ⟨g,off,none⟩) n c Tryz.underlying45 .i64 (m:Int) (by omega) (by omega),hs]
 have:¬ c=m:=by omega
 simp [Result.andThen,sliced,this,addr_add]
theorem zeroCells_len (n:Nat):(Builtin.zeroCells #[.int .i64 0,.string ⟨#[]⟩] n).toList.length=n * 2:=by simp [Builtin.zeroCells]
theorem zeroCells_one (n:Nat):∀ v ∈ (Builtin.zeroCells #[.int .i64 0,.string ⟨#[]⟩] n).toList,v.oneCell' = true:=by
 intro v hv
 simp [Builtin.zeroCells] at hv
 obtain ⟨i,hi,rfl⟩:=hv
 rcases (show i % 2=0 ∨ i % 2=1 by omega) with e | e
 ·simp [e];rfl
 ·simp [e];rfl
theorem clearCe {base g c off:Nat} {D:List Cel} {w:World} {cur:Array Value} (k:CR base g c D w cur) (ho:off=0) (m:Nat) (hm:m < D.length) :
 ∃ w' cur',(∀ ty,(Builtin.clear_ #[45] ty #[.slice (some ⟨g,off + m * 2,none⟩) (D.length - m) (c - m)]).run Tryz.prog w = .ok (.tuple #[]) w')∧CR base g c (D.take m) w' cur'∧w.grownBy w' (some g):=by
 subst ho
 have hle:=k.le
 have hsz:=k.sz
 obtain ⟨q,hq⟩:∃ q,D.length - m=q + 1:=⟨D.length - m - 1,by omega⟩
 have hst:=run_storeCells_at Tryz.prog g (0 + m * 2) 61 (Builtin.zeroCells #[.int .i64 0,.string ⟨#[]⟩] (q + 1)).toList 0 cur w k.bk (by rw [zeroCells_len];omega) (zeroCells_one _)
 rw [Nat.add_zero] at hst
 refine ⟨w.setRow g (cur.toList.take (0 + m * 2) ++ (Builtin.zeroCells #[.int .i64 0,.string ⟨#[]⟩] (q + 1)).toList ++ cur.toList.drop (0 + m * 2 + (Builtin.zeroCells #[.int .i64 0,.string ⟨#[]⟩] (q + 1)).toList.length)).toArray,(cur.toList.take (0 + m * 2) ++ (Builtin.zeroCells #[.int .i64 0,.string ⟨#[]⟩] (q + 1)).toList ++ cur.toList.drop (0 + m * 2 + (Builtin.zeroCells #[.int .i64 0,.string ⟨#[]⟩] (q + 1)).toList.length)).toArray,fun ty=>?_,?_,grown_row w g _⟩
 ·rw [hq]
  have h2:=hst
  simp [Nat.zero_add] at h2
  simp [Builtin.clear_,run_underlying Tryz.underlying45,Value.cells]
  rw [h2]
  rfl
 ·have hl:(D.take m).length=m:=by simp;omega
  have hcl:cur.toList.length=c * 2:=by simpa using hsz
  refine ⟨k.hb,k.bk.setRow _,by omega,k.cm,?_,?_⟩
  ·simp only [List.size_toArray,List.length_append,List.length_take,List.length_drop,zeroCells_len]
   omega
  ·rw [hl,flatCe_take,← k.ht]
   simp only [Nat.zero_add,List.append_assoc]
   rw [List.take_append_of_le_length (by simp;omega),List.take_take,List.take_take,Nat.min_self,Nat.min_eq_left (by omega)]
set_option maxRecDepth 100000 in
set_option maxHeartbeats 16000000 in
theorem compCe_walk (base g c off:Nat) (d:Array Cel) (w:World) (cur0:Array Value) (hR:CR base g c d.toList w cur0) (ho:off=0) (h2:2≤d.size) (hl:d.size≤1000000) :
 Calls Tryz.prog 30 #[.slice (some ⟨g,off,none⟩) d.size c] w (fun e w'=>e = .returned (.slice (some ⟨g,off,none⟩) (compactUpTo d d.size).length c)∧w.grownBy w' (some g)∧∃ cur,CR base g c (compactUpTo d d.size) w' cur):=by
 have R0:=Lib.hid hR
 have HO:=Lib.hid ho
 have hcap:d.size≤c:=by have:=hR.le;simpa using this
 have HALL:Hid ((∀ j,j < d.size→keeps d j=true)→compactUpTo d d.size=d.toList):=fun h=>by rw [compactUpTo_all d _ h,range_map_get]
 have HEQ:Hid (∀ (x y:Cel) (w1:World),(binOp .eql 61 (.agg #[.int .i64 x.s,.string x.f]) (.agg #[.int .i64 y.s,.string y.f])).run Tryz.prog w1 = .ok (.bool (decide (x=y))) w1):=fun x y w1=>eqCel x y w1
 have HNQ:Hid (∀ (x y:Cel) (w1:World),(binOp .neq 61 (.agg #[.int .i64 x.s,.string x.f]) (.agg #[.int .i64 y.s,.string y.f])).run Tryz.prog w1 = .ok (.bool (!decide (x=y))) w1):=fun x y w1=>neqCel x y w1
 clear hR ho
 go_enter Tryz.func30,Tryz.ntmps30
 go_wp2
 go_loopw [3] (fun s3 wr=>∃ k:Nat,1≤k∧k≤d.size∧s3 = .int .i64 k∧Hid (CR base g c d.toList wr cur0)∧Hid (w.grownBy wr (some g))∧Hid (∀ j,j < k→keeps d j=true)) (fun s3 _=>d.size - (intOf s3).toNat)
 case atStart=>exact ⟨1,Nat.le_refl _,by omega,rfl,R0.out,World.grownBy.refl _ _,keeps_lt_one d⟩
 case round =>
  clear R0
  obtain ⟨k,hk1,hk,rfl,R,HG,HA⟩:=hrel
  by_cases hlt:k < d.size
  case neg =>
   obtain rfl:k=d.size:=by omega
   have HE:=Lib.hid (HALL.out HA.out)
   go_wp2
   go_ret
   exact ⟨by rw [HE.out];simp,HG.out,cur0,by rw [HE.out];exact R.out⟩
  obtain ⟨c0,c1⟩:=R.out.at HO.out hlt
  obtain ⟨p0,p1⟩:=R.out.at HO.out (show k - 1 < d.size by omega)
  have HXY:=Lib.hid (HEQ.out d[k]! d[k - 1]!)
  generalize hx:d[k]! = x at c0 c1 HXY
  generalize hy:d[k - 1]! = y at p0 p1 HXY
  have B:Hid (d[k]! = x∧d[k - 1]! = y):=⟨hx,hy⟩
  clear hx hy
  have hne:Nonempty (WB wr):=⟨⟨wr,Go.RowKit.Below.refl _ _⟩⟩
  have k0:∀ o:WB wr,o.u.cell? ⟨g,off + k * 2,none⟩=some (.int .i64 x.s):=fun o=>cell_below o.h c0
  have k1:∀ o:WB wr,o.u.cell? ⟨g,off + k * 2 + 1,none⟩=some (.string x.f):=fun o=>cell_below o.h c1
  have k2:∀ o:WB wr,o.u.cell? ⟨g,off + (k - 1) * 2,none⟩=some (.int .i64 y.s):=fun o=>cell_below o.h p0
  have k3:∀ o:WB wr,o.u.cell? ⟨g,off + (k - 1) * 2 + 1,none⟩=some (.string y.f):=fun o=>cell_below o.h p1
  clear c0 c1 p0 p1
  by_cases hdup:x=y
  case neg =>
   rw [decide_eq_false hdup] at HXY
   have hq:=HXY.out
   have HA2:Hid (∀ j,j < k + 1→keeps d j=true):=fun j hj=>by
    by_cases e:j=k
    ·subst e
     exact keeps_pos (by rw [B.out.1,B.out.2];exact hdup)
    ·exact HA.out j (by omega)
   clear HA hdup
   go_upto_region 6 with (fail)
   refine wp_region_WB wr (by kernel_rfl) ?_
   repeat (go_big_quiet_step (fail))
   refine wpQuiet_nil ?_
   intro _ hw'
   obtain ⟨o,rfl⟩:=hw'
   have R3:=Lib.hid (R.out.below o.h)
   have HG3:=Lib.hid (grown_below HG.out o.h)
   clear k0 k1 k2 k3 hq HXY R HG
   go_wp2
   go_roundw
   case rel=>exact ⟨k + 1,by omega,by omega,by go_num,R3.out,HG3.out,HA2.out⟩
   case measure=>simp [intOf];omega
  rw [decide_eq_true hdup] at HXY
  have hq:=HXY.out
  have HST:Hid (CompInv d (k + 1) k d):=CompInv.start HA.out (keeps_neg (by omega) (by rw [B.out.1,B.out.2];exact hdup))
  clear hdup HA
  go_upto_region 6 with (fail)
  refine wp_region_WB wr (by kernel_rfl) ?_
  repeat (go_big_quiet_step (fail))
  refine wpQuiet_nil ?_
  intro _ hw'
  obtain ⟨o,rfl⟩:=hw'
  have R3:=Lib.hid (R.out.below o.h)
  have HG3:=Lib.hid (grown_below HG.out o.h)
  clear k0 k1 k2 k3 hq HXY R HG hne HALL HEQ B
  generalize o.u=W3 at *
  have hsl:=ceLoAt g off d.size c k hlt hcap
  go_wp2
  clear hsl
  go_loopw [3,5] (fun s3 s5 wr=>∃ (kk k2:Nat) (dk:Array Cel) (cur:Array Value),s3 = .int .i64 kk∧s5 = .int .i64 k2∧1≤k2∧k + k2≤d.size∧kk < k + k2∧Hid (CR base g c dk.toList wr cur)∧Hid (CompInv d (k + k2) kk dk)∧Hid (w.grownBy wr (some g))) (fun _ s5 _=>d.size - (intOf s5).toNat)
  case atStart=>exact ⟨k,1,d,cur0,rfl,rfl,Nat.le_refl _,by omega,by omega,R3.out,HST.out,HG3.out⟩
  case round =>
   clear R3 HST HG3
   obtain ⟨kk,k2,dk,cur,rfl,rfl,h1,hle,hkk,R,HI,HG⟩:=hrel
   have hds:=HI.out.size
   by_cases hlt2:k + k2 < d.size
   case neg =>
    have hend:k + k2=d.size:=by omega
    have HI2:Hid (CompInv d d.size kk dk):=by rw [← hend];exact HI.out
    have hkd:kk < dk.toList.length:=by simp;omega
    obtain ⟨w',cur',hcl,hcr,hgr⟩:=clearCe R.out HO.out kk hkd
    have HC:Hid (dk.toList.take kk=compactUpTo d d.size):=by
     have hi:=HI2.out
     show _=_
     apply List.ext_getElem?
     intro j
     by_cases hj:j < kk
     ·rw [List.getElem?_take_of_lt hj,hi.low j hj,Array.getElem?_toList,Array.getElem?_eq_getElem (by omega),getElem!_pos dk j (by omega)]
     ·rw [List.getElem?_take_eq_none (by omega),List.getElem?_eq_none (by rw [hi.len];omega)]
    have HL:Hid ((compactUpTo d d.size).length=kk):=HI2.out.len
    have hdl:dk.toList.length=d.size:=by simp [hds]
    rw [hdl] at hcl
    rw [HC.out] at hcr
    have HCR:=Lib.hid hcr
    have HGR:=Lib.hid (grown_grown HG.out hgr (fun q hq=>.inr hq))
    have hsl:=ceLoAt g off d.size c kk (by omega) hcap
    have hsh:=ceHi (some ⟨g,off,none⟩) d.size c kk (by omega)
    clear hcr hgr HI HI2 R HG hkd hdl hend
    go_wp2
    go_ret
    exact ⟨by rw [HL.out];rfl,HGR.out,cur',HCR.out⟩
   obtain ⟨c0,c1⟩:=R.out.at HO.out (show k + k2 < dk.size by omega)
   obtain ⟨p0,p1⟩:=R.out.at HO.out (show k + k2 - 1 < dk.size by omega)
   rw [HI.out.high (k + k2) (by omega),show off + (k + k2) * 2=off + k * 2 + k2 * 2 by omega] at c0 c1
   rw [HI.out.high (k + k2 - 1) (by omega),show off + (k + k2 - 1) * 2=off + k * 2 + (k2 - 1) * 2 by omega] at p0 p1
   have HXY:=Lib.hid (HNQ.out d[k + k2]! d[k + k2 - 1]!)
   generalize hx:d[k + k2]! = x at c0 c1 HXY
   generalize hy:d[k + k2 - 1]! = y at p0 p1 HXY
   have B:Hid (d[k + k2]! = x∧d[k + k2 - 1]! = y):=⟨hx,hy⟩
   clear hx hy
   have hne:Nonempty (WB wr):=⟨⟨wr,Go.RowKit.Below.refl _ _⟩⟩
   have k0:∀ o:WB wr,o.u.cell? ⟨g,off + k * 2 + k2 * 2,none⟩=some (.int .i64 x.s):=fun o=>cell_below o.h c0
   have k1:∀ o:WB wr,o.u.cell? ⟨g,off + k * 2 + k2 * 2 + 1,none⟩=some (.string x.f):=fun o=>cell_below o.h c1
   have k4:∀ o:WB wr,o.u.cell? ⟨g,off + k * 2 + (k2 - 1) * 2,none⟩=some (.int .i64 y.s):=fun o=>cell_below o.h p0
   have k5:∀ o:WB wr,o.u.cell? ⟨g,off + k * 2 + (k2 - 1) * 2 + 1,none⟩=some (.string y.f):=fun o=>cell_below o.h p1
   clear c0 c1 p0 p1
   have hk2:k2 < d.size - k:=by omega
   by_cases huv:x=y
   case pos =>
    rw [decide_eq_true huv] at HXY
    have hq:=HXY.out
    have HI2:Hid (CompInv d (k + (k2 + 1)) kk dk):=HI.out.skip (keeps_neg (by omega) (by rw [B.out.1,B.out.2];exact huv))
    clear HI huv B
    go_upto_region 11 with (fail)
    refine wp_region_WB wr (by kernel_rfl) ?_
    repeat (go_big_quiet_step (fail))
    refine wpQuiet_nil ?_
    intro _ hw'
    obtain ⟨o,rfl⟩:=hw'
    have R3:=Lib.hid (R.out.below o.h)
    have HG3:=Lib.hid (grown_below HG.out o.h)
    clear k0 k1 k4 k5 hq HXY R HG
    go_wp2
    go_roundw
    case rel=>exact ⟨kk,k2 + 1,dk,cur,rfl,by go_num,by omega,by omega,by omega,R3.out,HI2.out,HG3.out⟩
    case measure=>simp [intOf];omega
   rw [decide_eq_false huv] at HXY
   have hq:=HXY.out
   have HI2:Hid (CompInv d (k + (k2 + 1)) (kk + 1) (dk.setIfInBounds kk x)):=by
    have:=HI.out.keep hlt2 (keeps_pos (by rw [B.out.1,B.out.2];exact huv))
    rw [B.out.1] at this
    exact this
   have HKL:Hid (kk < dk.toList.length):=by show _ < _;simp;omega
   clear HI huv B
   go_upto_region 11 with (fail)
   refine wp_region_WB wr (by kernel_rfl) ?_
   repeat (go_big_quiet_step (fail))
   refine wpQuiet_nil ?_
   intro _ hw'
   obtain ⟨o,rfl⟩:=hw'
   have R3:=Lib.hid (R.out.below o.h)
   have HG3:=Lib.hid (grown_below HG.out o.h)
   have j0:=k0 o
   have j1:=k1 o
   clear k0 k1 k4 k5 hq HXY R HG hne
   generalize o.u=W4 at *
   have R5:Hid (CR base g c (dk.setIfInBounds kk x).toList (W4.setRow g (cur.toList.take (off + kk * 2) ++ encCe x ++ cur.toList.drop (off + kk * 2 + 2)).toArray) (cur.toList.take (off + kk * 2) ++ encCe x ++ cur.toList.drop (off + kk * 2 + 2)).toArray):=by
    have h0:=HO.out
    subst h0
    have:=R3.out.store (D':=(dk.setIfInBounds kk x).toList) (0 + kk * 2) (encCe x) (by have:=HKL.out;simp [encCe];omega) (by simp) (by
     rw [Array.toList_setIfInBounds,flatCe_set _ _ _ HKL.out,Nat.zero_add];rfl)
    exact this
   have hcs:off + kk * 2 + 2≤cur.size:=by
    have h0:=HO.out
    have:=R3.out.sz
    omega
   have HG5:=Lib.hid (grown_grown HG3.out (grown_row W4 g (cur.toList.take (off + kk * 2) ++ encCe x ++ cur.toList.drop (off + kk * 2 + 2)).toArray) (fun q hq=>.inr hq))
   have hkd:kk < d.size:=by omega
   go_wp2_with (refine storeCe rfl rfl _ _ rfl g (off + kk * 2) x rfl rfl cur R3.out.bk hcs ?_)
   clear j0 j1 R3 HG3 hcs
   rw [List.append_assoc] at R5 HG5
   generalize W4.setRow _ _=W5 at *
   go_roundw
   case rel=>exact ⟨kk + 1,k2 + 1,dk.setIfInBounds kk x,_,by go_num,by go_num,by omega,by omega,by omega,R5.out,HI2.out,HG5.out⟩
   case measure=>simp [intOf];omega
set_option maxHeartbeats 1000000 in
theorem compCe_own (L:List Cel) (a:Option Addr) (c base:Nat) (w:World) (own:w.ownsRow base 61 2 (.slice a L.length c) L.length (flatCe L)) (hl:L.length≤1000000) :
 Calls Tryz.prog 30 #[.slice a L.length c] w (fun e w'=>e = .returned (.slice a (Lib.compact L).length c)∧w.grownBy w' (Value.slice a L.length c).ownBlock∧w'.ownsRow base 61 2 (.slice a (Lib.compact L).length c) (Lib.compact L).length (flatCe (Lib.compact L))):=by
 have own0:=own
 by_cases h2:L.length < 2
 ·have HE:Hid (Lib.compact L=L):=compact_all L fun j hj=>keeps_lt_one _ j (by omega)
  rw [HE.out]
  have HO:=Lib.hid own0
  clear own own0
  generalize L.length=n at *
  go_enter Tryz.func30,Tryz.ntmps30
  go_wp2
  go_ret
  exact ⟨rfl,World.grownBy.refl _ _,HO.out⟩
 ·rcases own.2 with ⟨e,h0⟩ | ⟨g,cap,cur,e,hbase,hh,hn,hcap,hsz,ht⟩
  ·omega
  ·cases e
   have hR:CR base g c L.toArray.toList w cur:=⟨hbase,hh,by simpa using hn,hcap,hsz,by simpa using ht⟩
   have h:=compCe_walk base g c 0 L.toArray w cur hR rfl (by simp;omega) (by simpa using hl)
   have e1:L.toArray.size=L.length:=by simp
   rw [e1] at h
   refine h.mono ?_
   rintro e w' ⟨rfl,hg,cur',hcr⟩
   exact ⟨rfl,hg,hcr.owns⟩
end Go.Proofs.YtffcklfigpmlgaaGreatDoor
