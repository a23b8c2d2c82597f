/-
  Worlds in which nothing but one block has changed.
  Cells compacted by the library, and the program's ascending.
  The program's cells and Cells.
-/
import Derived.Test.YthbialnddkboiaaGreatDoorHK
import Derived.Test.YthbialnddkboiaaGreatDoorXC
import Derived.Test.YthbialnddkboiaaGreatDoorXB
namespace Go.Proofs.YthbialnddkboiaaGreatDoor
open Go.RowKit Go.Unit0 Go.AM

theorem grown_below {a b c:World} {row:Option Nat} (hg:a.grownBy b row) (hb:Below b.heap.size b c):a.grownBy c row :=
 ⟨hb.os.trans hg.os,hb.tape.trans hg.tape,hb.output.trans hg.output,Nat.le_trans hg.size hb.size,fun k hk hne=>(hb.block k (Nat.lt_of_lt_of_le hk hg.size)).trans (hg.block k hk hne)⟩
theorem grown_grown {a b c:World} {row row2:Option Nat} (hg:a.grownBy b row) (hh:b.grownBy c row2) (hr:∀ q,row2=some q→a.heap.size≤q ∨ row=some q):a.grownBy c row :=
 ⟨hh.os.trans hg.os,hh.tape.trans hg.tape,hh.output.trans hg.output,Nat.le_trans hg.size hh.size,fun k hk hne=>(hh.block k (Nat.lt_of_lt_of_le hk hg.size) (fun e=>by
   rcases hr k e.symm with h | h
   ·omega
   ·exact hne h.symm)).trans (hg.block k hk hne)⟩
end Go.Proofs.YthbialnddkboiaaGreatDoor
namespace Go.Proofs.YthbialnddkboiaaGreatDoor
open Go.RowKit Go.Unit0 Go.AM Go.Sort Go.Lib

theorem flatCe_set:∀ (D:List Cel) (kk:Nat) (z:Cel),kk < D.length→flatCe (D.set kk z)=(flatCe D).take (kk * 2) ++ encCe z ++ (flatCe D).drop (kk * 2 + 2)
 | x :: D,0,z,_=>by simp [flatCe,encCe]
 | x :: D,kk + 1,z,h=>by
   have ih:=flatCe_set D kk z (by simpa using h)
   have e1:flatCe (x :: D) = .int .i64 x.s :: .string x.f :: flatCe D:=rfl
   have e2:flatCe ((x :: D).set (kk + 1) z) = .int .i64 x.s :: .string x.f :: flatCe (D.set kk z):=rfl
   rw [e1,e2,ih,show (kk + 1) * 2=kk * 2 + 1 + 1 by omega]
   rfl
theorem flatCe_take (D:List Cel) (m:Nat):flatCe (D.take m)=(flatCe D).take (m * 2):=by
 induction D generalizing m with
 | nil=>simp [flatCe]
 | cons x D ih =>
   cases m with
   | zero=>simp [flatCe]
   | succ m =>
     have e1:flatCe (x :: D) = .int .i64 x.s :: .string x.f :: flatCe D:=rfl
     have e2:flatCe ((x :: D).take (m + 1)) = .int .i64 x.s :: .string x.f :: flatCe (D.take m):=rfl
     rw [e1,e2,ih,show (m + 1) * 2=m * 2 + 1 + 1 by omega]
     rfl
structure CR (base g c:Nat) (D:List Cel) (w:World) (cur:Array Value):Prop where
 hb:base≤g
 bk:Blk w g cur 64
 le:D.length≤c
 cm:c≤maxLen
 sz:cur.size=c * 2
 ht:cur.toList.take (D.length * 2)=flatCe D
theorem CR.owns {base g c:Nat} {D:List Cel} {w:World} {cur:Array Value} (k:CR base g c D w cur):w.ownsRow base 64 2 (.slice (some ⟨g,0,none⟩) D.length c) D.length (flatCe D) :=
 ⟨flatCe_len D,.inr ⟨g,c,cur,rfl,k.hb,k.bk,k.le,k.cm,k.sz,k.ht⟩⟩
theorem CR.below {base g c:Nat} {D:List Cel} {w w':World} {cur:Array Value} (k:CR base g c D w cur) (hb:Go.RowKit.Below w.heap.size w w'):CR base g c D w' cur:=⟨k.hb,k.bk.below hb,k.le,k.cm,k.sz,k.ht⟩
theorem CR.take {base g c:Nat} {D:List Cel} {w:World} {cur:Array Value} (k:CR base g c D w cur) (m:Nat) (hm:m≤D.length):CR base g c (D.take m) w cur:=by
 have hl:(D.take m).length=m:=by simp;omega
 refine ⟨k.hb,k.bk,by have:=k.le;omega,k.cm,k.sz,?_⟩
 rw [hl,flatCe_take,← k.ht,List.take_take,Nat.min_eq_left (by omega)]
theorem CR.store {base g c:Nat} {D D':List Cel} {w:World} {cur:Array Value} (k:CR base g c D w cur) (i:Nat) (vs:List Value) (hi:i + vs.length≤D.length * 2) (hl:D'.length=D.length) (hf:flatCe D' = (flatCe D).take i ++ vs ++ (flatCe D).drop (i + vs.length)) :
 CR base g c D' (w.setRow g (cur.toList.take i ++ vs ++ cur.toList.drop (i + vs.length)).toArray) (cur.toList.take i ++ vs ++ cur.toList.drop (i + vs.length)).toArray:=by
 have hle:=k.le
 have hsz:=k.sz
 have hcl:cur.toList.length=c * 2:=by simpa using hsz
 refine ⟨k.hb,k.bk.setRow _,by omega,k.cm,?_,?_⟩
 ·simp
  omega
 ·show List.take (D'.length * 2) (cur.toList.take i ++ vs ++ cur.toList.drop (i + vs.length))=_
  have e1:cur.toList.take i=(flatCe D).take i:=by rw [← k.ht,List.take_take,Nat.min_eq_left (by omega)]
  have e2:(cur.toList.drop (i + vs.length)).take (D.length * 2 - (i + vs.length))=(flatCe D).drop (i + vs.length):=by rw [← k.ht,List.drop_take]
  have hA:(cur.toList.take i ++ vs).length=i + vs.length:=by simp;omega
  rw [hf,hl,show D.length * 2=(cur.toList.take i ++ vs).length + (D.length * 2 - (i + vs.length)) by omega,List.take_length_add_append,e2,e1]
theorem CR.cells {base g c:Nat} {D:List Cel} {w:World} {cur:Array Value} (k:CR base g c D w cur) {j:Nat} (hj:j < D.length):w.cell? ⟨g,j * 2,none⟩=some (.int .i64 D[j].s)∧w.cell? ⟨g,j * 2 + 1,none⟩=some (.string D[j].f):=by
 obtain ⟨b,off,he,h0,h1⟩:=(ownsCe' k.owns).2 j hj
 cases he
 rw [Nat.zero_add] at h0 h1
 exact ⟨h0,h1⟩
theorem CR.at {base g c off:Nat} {d:Array Cel} {w:World} {cur:Array Value} (k:CR base g c d.toList w cur) (ho:off=0) {j:Nat} (hj:j < d.size):w.cell? ⟨g,off + j * 2,none⟩=some (.int .i64 d[j]!.s)∧w.cell? ⟨g,off + j * 2 + 1,none⟩=some (.string d[j]!.f):=by
 subst ho
 have:=k.cells (j:=j) (by simpa using hj)
 rw [Nat.zero_add,getElem!_pos d j hj]
 simpa using this
theorem storeCe {ops:Array Oper} {rest:List Oper} {o:Oper} {a:Act} {w:World} {Q:Exit→Act→World→Prop} (hgd:o.guard=none) (hd:o.dst=none) (x y:Operand) (ho:o.op = .store 64 x y)
 (g i:Nat) (z:Cel) (hx:a.eval x = .pointer (some ⟨g,i,none⟩)) (hy:a.eval y = .agg #[.int .i64 z.s,.string z.f])
 (cur:Array Value) (hg:Blk w g cur 64) (hi:i + 2≤cur.size)
 (h:wpList Tryz.prog ops Q rest a (w.setRow g (cur.toList.take i ++ encCe z ++ cur.toList.drop (i + 2)).toArray)):wpList Tryz.prog ops Q (o :: rest) a w:=by
 obtain ⟨i0,hi0,hz0,hz1,hz2⟩:=info_parts infoCe
 refine wpList_plain hgd fun _ hK=>?_
 have hst:=run_storeCells_at Tryz.prog g i 64 (encCe z) 0 cur w hg (by simpa [encCe] using hi) (by intro v hv;simp [encCe] at hv;rcases hv with rfl | rfl <;> rfl)
 rw [Nat.add_zero] at hst
 have hst2:(storeCells ⟨g,i,none⟩ [.int .i64 z.s,.string z.f] 0).run Tryz.prog w = .ok () (w.setRow g (cur.toList.take i ++ encCe z ++ cur.toList.drop (i + 2)).toArray):=hst
 have hsv:(storeVar 64 ⟨g,i,none⟩ (.agg #[.int .i64 z.s,.string z.f])).run Tryz.prog w = .ok () (w.setRow g (cur.toList.take i ++ encCe z ++ cur.toList.drop (i + 2)).toArray):=by
  simp [storeVar,sizeOf,typeInfo,hi0,Value.cells,hz1,hst2]
 unfold Oper.wp execOp
 simp only [ho,hx,hy,Instr.storeAt,Instr.sureAddr,Sem.run_bind,Sem.run_pure,Result.andThen_ok,hsv]
 exact hK _ _ (by rw [hd];exact h)
set_option maxRecDepth 100000 in
theorem ceLoAt (g off n c m:Nat) (hm:m < n) (hc:n≤c) (w:World):(Instr.slice 40 (.slice (some ⟨g,off,none⟩) n c) (some (.int .i64 (m:Int))) none none).run Tryz.prog w = .ok (.slice (some ⟨g,off + m * 2,none⟩) (n - m) (c - m)) w:=by
 have hs:(sizeOf (Tryz.prog.elem 40)).run Tryz.prog w = .ok 2 w:=by kernel_rfl
 rw [run_slice_l w 40 (some ⟨g,off,none⟩) n c Tryz.underlying40 .i64 (m:Int) (by omega) (by omega),hs]
 have:¬ c=m:=by omega
 simp [Result.andThen,sliced,this,addr_add]
set_option maxRecDepth 100000 in
theorem zeroCe (w:World):(zeroValue 64).run Tryz.prog w = .ok (.agg #[.int .i64 0,.string ⟨#[]⟩]) w:=by kernel_rfl
theorem zeroCells_len (n:Nat):(Builtin.zeroCells #[.int .i64 0,.string ⟨#[]⟩] n).toList.length=n * 2:=by simp [Builtin.zeroCells]
theorem zeroCells_one (n:Nat):∀ v ∈ (Builtin.zeroCells #[.int .i64 0,.string ⟨#[]⟩] n).toList,v.oneCell' = true:=by
 intro v hv
 simp [Builtin.zeroCells] at hv
 obtain ⟨i,hi,rfl⟩:=hv
 rcases (show i % 2=0 ∨ i % 2=1 by omega) with e | e
 ·simp [e];rfl
 ·simp [e];rfl
theorem clearCe {base g c off:Nat} {D:List Cel} {w:World} {cur:Array Value} (k:CR base g c D w cur) (ho:off=0) (m:Nat) (hm:m < D.length) :
 ∃ w' cur',(∀ ty,(Builtin.clear_ #[40] ty #[.slice (some ⟨g,off + m * 2,none⟩) (D.length - m) (c - m)]).run Tryz.prog w = .ok (.tuple #[]) w')∧CR base g c (D.take m) w' cur'∧w.grownBy w' (some g):=by
 subst ho
 have hle:=k.le
 have hsz:=k.sz
 obtain ⟨q,hq⟩:∃ q,D.length - m=q + 1:=⟨D.length - m - 1,by omega⟩
 have hst:=run_storeCells_at Tryz.prog g (0 + m * 2) 64 (Builtin.zeroCells #[.int .i64 0,.string ⟨#[]⟩] (q + 1)).toList 0 cur w k.bk (by rw [zeroCells_len];omega) (zeroCells_one _)
 rw [Nat.add_zero] at hst
 refine ⟨w.setRow g (cur.toList.take (0 + m * 2) ++ (Builtin.zeroCells #[.int .i64 0,.string ⟨#[]⟩] (q + 1)).toList ++ cur.toList.drop (0 + m * 2 + (Builtin.zeroCells #[.int .i64 0,.string ⟨#[]⟩] (q + 1)).toList.length)).toArray,(cur.toList.take (0 + m * 2) ++ (Builtin.zeroCells #[.int .i64 0,.string ⟨#[]⟩] (q + 1)).toList ++ cur.toList.drop (0 + m * 2 + (Builtin.zeroCells #[.int .i64 0,.string ⟨#[]⟩] (q + 1)).toList.length)).toArray,fun ty=>?_,?_,grown_row w g _⟩
 ·rw [hq]
  have h2:=hst
  simp [Nat.zero_add] at h2
  simp [Builtin.clear_,run_underlying Tryz.underlying40,Value.cells]
  rw [h2]
  rfl
 ·have hl:(D.take m).length=m:=by simp;omega
  have hcl:cur.toList.length=c * 2:=by simpa using hsz
  refine ⟨k.hb,k.bk.setRow _,by omega,k.cm,?_,?_⟩
  ·simp only [List.size_toArray,List.length_append,List.length_take,List.length_drop,zeroCells_len]
   omega
  ·rw [hl,flatCe_take,← k.ht]
   simp only [Nat.zero_add,List.append_assoc]
   rw [List.take_append_of_le_length (by simp;omega),List.take_take,List.take_take,Nat.min_self,Nat.min_eq_left (by omega)]
set_option maxRecDepth 100000 in
set_option maxHeartbeats 16000000 in
theorem compCe_walk (base g c off:Nat) (d:Array Cel) (w:World) (cur0:Array Value) (hR:CR base g c d.toList w cur0) (ho:off=0) (h2:2≤d.size) (hl:d.size≤1000000) :
 Calls Tryz.prog 55 #[.slice (some ⟨g,off,none⟩) d.size c] w (fun e w'=>e = .returned (.slice (some ⟨g,off,none⟩) (compactUpTo d d.size).length c)∧w.grownBy w' (some g)∧∃ cur,CR base g c (compactUpTo d d.size) w' cur):=by
 have R0:=Lib.hid hR
 have HO:=Lib.hid ho
 have hcap:d.size≤c:=by have:=hR.le;simpa using this
 have HALL:Hid ((∀ j,j < d.size→keeps d j=true)→compactUpTo d d.size=d.toList):=fun h=>by rw [compactUpTo_all d _ h,range_map_get]
 have HEQ:Hid (∀ (x y:Cel) (w1:World),(binOp .eql 64 (.agg #[.int .i64 x.s,.string x.f]) (.agg #[.int .i64 y.s,.string y.f])).run Tryz.prog w1 = .ok (.bool (decide (x=y))) w1):=fun x y w1=>eqCel x y w1
 have HNQ:Hid (∀ (x y:Cel) (w1:World),(binOp .neq 64 (.agg #[.int .i64 x.s,.string x.f]) (.agg #[.int .i64 y.s,.string y.f])).run Tryz.prog w1 = .ok (.bool (!decide (x=y))) w1):=fun x y w1=>neqCel x y w1
 clear hR ho
 go_enter Tryz.func55,Tryz.ntmps55
 go_wp2
 go_loopw [3] (fun s3 wr=>∃ k:Nat,1≤k∧k≤d.size∧s3 = .int .i64 k∧Hid (CR base g c d.toList wr cur0)∧Hid (w.grownBy wr (some g))∧Hid (∀ j,j < k→keeps d j=true)) (fun s3 _=>d.size - (intOf s3).toNat)
 case atStart=>exact ⟨1,Nat.le_refl _,by omega,rfl,R0.out,World.grownBy.refl _ _,keeps_lt_one d⟩
 case round =>
  clear R0
  obtain ⟨k,hk1,hk,rfl,R,HG,HA⟩:=hrel
  by_cases hlt:k < d.size
  case neg =>
   obtain rfl:k=d.size:=by omega
   have HE:=Lib.hid (HALL.out HA.out)
   go_wp2
   go_ret
   exact ⟨by rw [HE.out];simp,HG.out,cur0,by rw [HE.out];exact R.out⟩
  obtain ⟨c0,c1⟩:=R.out.at HO.out hlt
  obtain ⟨p0,p1⟩:=R.out.at HO.out (show k - 1 < d.size by omega)
  have HXY:=Lib.hid (HEQ.out d[k]! d[k - 1]!)
  generalize hx:d[k]! = x at c0 c1 HXY
  generalize hy:d[k - 1]! = y at p0 p1 HXY
  have B:Hid (d[k]! = x∧d[k - 1]! = y):=⟨hx,hy⟩
  clear hx hy
  have hne:Nonempty (WB wr):=⟨⟨wr,Go.RowKit.Below.refl _ _⟩⟩
  have k0:∀ o:WB wr,o.u.cell? ⟨g,off + k * 2,none⟩=some (.int .i64 x.s):=fun o=>cell_below o.h c0
  have k1:∀ o:WB wr,o.u.cell? ⟨g,off + k * 2 + 1,none⟩=some (.string x.f):=fun o=>cell_below o.h c1
  have k2:∀ o:WB wr,o.u.cell? ⟨g,off + (k - 1) * 2,none⟩=some (.int .i64 y.s):=fun o=>cell_below o.h p0
  have k3:∀ o:WB wr,o.u.cell? ⟨g,off + (k - 1) * 2 + 1,none⟩=some (.string y.f):=fun o=>cell_below o.h p1
  clear c0 c1 p0 p1
  by_cases hdup:x=y
  case neg =>
   rw [decide_eq_false hdup] at HXY
   have hq:=HXY.out
   have HA2:Hid (∀ j,j < k + 1→keeps d j=true):=fun j hj=>by
    by_cases e:j=k
    ·subst e
     exact keeps_pos (by rw [B.out.1,B.out.2];exact hdup)
    ·exact HA.out j (by omega)
   clear HA hdup
   go_upto_region 6 with (fail)
   refine wp_region_WB wr (by kernel_rfl) ?_
   repeat (go_big_quiet_step (fail))
   refine wpQuiet_nil ?_
   intro _ hw'
   obtain ⟨o,rfl⟩:=hw'
   have R3:=Lib.hid (R.out.below o.h)
   have HG3:=Lib.hid (grown_below HG.out o.h)
   clear k0 k1 k2 k3 hq HXY R HG
   go_wp2
   go_roundw
   case rel=>exact ⟨k + 1,by omega,by omega,by go_num,R3.out,HG3.out,HA2.out⟩
   case measure=>simp [intOf];omega
  rw [decide_eq_true hdup] at HXY
  have hq:=HXY.out
  have HST:Hid (CompInv d (k + 1) k d):=CompInv.start HA.out (keeps_neg (by omega) (by rw [B.out.1,B.out.2];exact hdup))
  clear hdup HA
  go_upto_region 6 with (fail)
  refine wp_region_WB wr (by kernel_rfl) ?_
  repeat (go_big_quiet_step (fail))
  refine wpQuiet_nil ?_
  intro _ hw'
  obtain ⟨o,rfl⟩:=hw'
  have R3:=Lib.hid (R.out.below o.h)
  have HG3:=Lib.hid (grown_below HG.out o.h)
  clear k0 k1 k2 k3 hq HXY R HG hne HALL HEQ B
  generalize o.u=W3 at *
  have hsl:=ceLoAt g off d.size c k hlt hcap
  go_wp2
  clear hsl
  go_loopw [3,5] (fun s3 s5 wr=>∃ (kk k2:Nat) (dk:Array Cel) (cur:Array Value),s3 = .int .i64 kk∧s5 = .int .i64 k2∧1≤k2∧k + k2≤d.size∧kk < k + k2∧Hid (CR base g c dk.toList wr cur)∧Hid (CompInv d (k + k2) kk dk)∧Hid (w.grownBy wr (some g))) (fun _ s5 _=>d.size - (intOf s5).toNat)
  case atStart=>exact ⟨k,1,d,cur0,rfl,rfl,Nat.le_refl _,by omega,by omega,R3.out,HST.out,HG3.out⟩
  case round =>
   clear R3 HST HG3
   obtain ⟨kk,k2,dk,cur,rfl,rfl,h1,hle,hkk,R,HI,HG⟩:=hrel
   have hds:=HI.out.size
   by_cases hlt2:k + k2 < d.size
   case neg =>
    have hend:k + k2=d.size:=by omega
    have HI2:Hid (CompInv d d.size kk dk):=by rw [← hend];exact HI.out
    have hkd:kk < dk.toList.length:=by simp;omega
    obtain ⟨w',cur',hcl,hcr,hgr⟩:=clearCe R.out HO.out kk hkd
    have HC:Hid (dk.toList.take kk=compactUpTo d d.size):=by
     have hi:=HI2.out
     show _=_
     apply List.ext_getElem?
     intro j
     by_cases hj:j < kk
     ·rw [List.getElem?_take_of_lt hj,hi.low j hj,Array.getElem?_toList,Array.getElem?_eq_getElem (by omega),getElem!_pos dk j (by omega)]
     ·rw [List.getElem?_take_eq_none (by omega),List.getElem?_eq_none (by rw [hi.len];omega)]
    have HL:Hid ((compactUpTo d d.size).length=kk):=HI2.out.len
    have hdl:dk.toList.length=d.size:=by simp [hds]
    rw [hdl] at hcl
    rw [HC.out] at hcr
    have HCR:=Lib.hid hcr
    have HGR:=Lib.hid (grown_grown HG.out hgr (fun q hq=>.inr hq))
    have hsl:=ceLoAt g off d.size c kk (by omega) hcap
    have hsh:=ceHi (some ⟨g,off,none⟩) d.size c kk (by omega)
    clear hcr hgr HI HI2 R HG hkd hdl hend
    go_wp2
    go_ret
    exact ⟨by rw [HL.out];rfl,HGR.out,cur',HCR.out⟩
   obtain ⟨c0,c1⟩:=R.out.at HO.out (show k + k2 < dk.size by omega)
   obtain ⟨p0,p1⟩:=R.out.at HO.out (show k + k2 - 1 < dk.size by omega)
   rw [HI.out.high (k + k2) (by omega),show off + (k + k2) * 2=off + k * 2 + k2 * 2 by omega] at c0 c1
   rw [HI.out.high (k + k2 - 1) (by omega),show off + (k + k2 - 1) * 2=off + k * 2 + (k2 - 1) * 2 by omega] at p0 p1
   have HXY:=Lib.hid (HNQ.out d[k + k2]! d[k + k2 - 1]!)
   generalize hx:d[k + k2]! = x at c0 c1 HXY
   generalize hy:d[k + k2 - 1]! = y at p0 p1 HXY
   have B:Hid (d[k + k2]! = x∧d[k + k2 - 1]! = y):=⟨hx,hy⟩
   clear hx hy
   have hne:Nonempty (WB wr):=⟨⟨wr,Go.RowKit.Below.refl _ _⟩⟩
   have k0:∀ o:WB wr,o.u.cell? ⟨g,off + k * 2 + k2 * 2,none⟩=some (.int .i64 x.s):=fun o=>cell_below o.h c0
   have k1:∀ o:WB wr,o.u.cell? ⟨g,off + k * 2 + k2 * 2 + 1,none⟩=some (.string x.f):=fun o=>cell_below o.h c1
   have k4:∀ o:WB wr,o.u.cell? ⟨g,off + k * 2 + (k2 - 1) * 2,none⟩=some (.int .i64 y.s):=fun o=>cell_below o.h p0
   have k5:∀ o:WB wr,o.u.cell? ⟨g,off + k * 2 + (k2 - 1) * 2 + 1,none⟩=some (.string y.f):=fun o=>cell_below o.h p1
   clear c0 c1 p0 p1
   have hk2:k2 < d.size - k:=by omega
   by_cases huv:x=y
   case pos =>
    rw [decide_eq_true huv] at HXY
    have hq:=HXY.out
    have HI2:Hid (CompInv d (k + (k2 + 1)) kk dk):=HI.out.skip (keeps_neg (by omega) (by rw [B.out.1,B.out.2];exact huv))
    clear HI huv B
    go_upto_region 11 with (fail)
    refine wp_region_WB wr (by kernel_rfl) ?_
    repeat (go_big_quiet_step (fail))
    refine wpQuiet_nil ?_
    intro _ hw'
    obtain ⟨o,rfl⟩:=hw'
    have R3:=Lib.hid (R.out.below o.h)
    have HG3:=Lib.hid (grown_below HG.out o.h)
    clear k0 k1 k4 k5 hq HXY R HG
    go_wp2
    go_roundw
    case rel=>exact ⟨kk,k2 + 1,dk,cur,rfl,by go_num,by omega,by omega,by omega,R3.out,HI2.out,HG3.out⟩
    case measure=>simp [intOf];omega
   rw [decide_eq_false huv] at HXY
   have hq:=HXY.out
   have HI2:Hid (CompInv d (k + (k2 + 1)) (kk + 1) (dk.setIfInBounds kk x)):=by
    have:=HI.out.keep hlt2 (keeps_pos (by rw [B.out.1,B.out.2];exact huv))
    rw [B.out.1] at this
    exact this
   have HKL:Hid (kk < dk.toList.length):=by show _ < _;simp;omega
   clear HI huv B
   go_upto_region 11 with (fail)
   refine wp_region_WB wr (by kernel_rfl) ?_
   repeat (go_big_quiet_step (fail))
   refine wpQuiet_nil ?_
   intro _ hw'
   obtain ⟨o,rfl⟩:=hw'
   have R3:=Lib.hid (R.out.below o.h)
   have HG3:=Lib.hid (grown_below HG.out o.h)
   have j0:=k0 o
   have j1:=k1 o
   clear k0 k1 k4 k5 hq HXY R HG hne
   generalize o.u=W4 at *
   have R5:Hid (CR base g c (dk.setIfInBounds kk x).toList (W4.setRow g (cur.toList.take (off + kk * 2) ++ encCe x ++ cur.toList.drop (off + kk * 2 + 2)).toArray) (cur.toList.take (off + kk * 2) ++ encCe x ++ cur.toList.drop (off + kk * 2 + 2)).toArray):=by
    have h0:=HO.out
    subst h0
    have:=R3.out.store (D':=(dk.setIfInBounds kk x).toList) (0 + kk * 2) (encCe x) (by have:=HKL.out;simp [encCe];omega) (by simp) (by
     rw [Array.toList_setIfInBounds,flatCe_set _ _ _ HKL.out,Nat.zero_add];rfl)
    exact this
   have hcs:off + kk * 2 + 2≤cur.size:=by
    have h0:=HO.out
    have:=R3.out.sz
    omega
   have HG5:=Lib.hid (grown_grown HG3.out (grown_row W4 g (cur.toList.take (off + kk * 2) ++ encCe x ++ cur.toList.drop (off + kk * 2 + 2)).toArray) (fun q hq=>.inr hq))
   have hkd:kk < d.size:=by omega
   go_wp2_with (refine storeCe rfl rfl _ _ rfl g (off + kk * 2) x rfl rfl cur R3.out.bk hcs ?_)
   clear j0 j1 R3 HG3 hcs
   rw [List.append_assoc] at R5 HG5
   generalize W4.setRow _ _=W5 at *
   go_roundw
   case rel=>exact ⟨kk + 1,k2 + 1,dk.setIfInBounds kk x,_,by go_num,by go_num,by omega,by omega,by omega,R5.out,HI2.out,HG5.out⟩
   case measure=>simp [intOf];omega
set_option maxHeartbeats 1000000 in
theorem compCe_own (L:List Cel) (a:Option Addr) (c base:Nat) (w:World) (own:w.ownsRow base 64 2 (.slice a L.length c) L.length (flatCe L)) (hl:L.length≤1000000) :
 Calls Tryz.prog 55 #[.slice a L.length c] w (fun e w'=>e = .returned (.slice a (Lib.compact L).length c)∧w.grownBy w' (Value.slice a L.length c).ownBlock∧w'.ownsRow base 64 2 (.slice a (Lib.compact L).length c) (Lib.compact L).length (flatCe (Lib.compact L))):=by
 have own0:=own
 by_cases h2:L.length < 2
 ·have HE:Hid (Lib.compact L=L):=compact_all L fun j hj=>keeps_lt_one _ j (by omega)
  rw [HE.out]
  have HO:=Lib.hid own0
  clear own own0
  generalize L.length=n at *
  go_enter Tryz.func55,Tryz.ntmps55
  go_wp2
  go_ret
  exact ⟨rfl,World.grownBy.refl _ _,HO.out⟩
 ·rcases own.2 with ⟨e,h0⟩ | ⟨g,cap,cur,e,hbase,hh,hn,hcap,hsz,ht⟩
  ·omega
  ·cases e
   have hR:CR base g c L.toArray.toList w cur:=⟨hbase,hh,by simpa using hn,hcap,hsz,by simpa using ht⟩
   have h:=compCe_walk base g c 0 L.toArray w cur hR rfl (by simp;omega) (by simpa using hl)
   have e1:L.toArray.size=L.length:=by simp
   rw [e1] at h
   refine h.mono ?_
   rintro e w' ⟨rfl,hg,cur',hcr⟩
   exact ⟨rfl,hg,hcr.owns⟩
set_option maxHeartbeats 2000000 in
theorem ascCe (L:List Cel) (a:Option Addr) (c base:Nat) (w:World) (own:w.ownsRow base 64 2 (.slice a L.length c) L.length (flatCe L)) (hl:L.length≤1000000) :
 Calls Tryz.prog 27 #[.slice a L.length c,.func (.func 29) #[] #[]] w (fun e w'=>∃ n,n=(celSet L).length∧e = .returned (.slice a n c)∧w.grownBy w' (Value.slice a L.length c).ownBlock∧w'.ownsRow base 64 2 (.slice a n c) n (flatCe (celSet L))):=by
 have HSO:Hid (Calls Tryz.prog 54 #[.slice a L.length c,.func (.func 29) #[] #[]] w (fun e w'=>e = .returned (.tuple #[])∧w.grownBy w' (Value.slice a L.length c).ownBlock∧w'.ownsRow base 64 2 (.slice a L.length c) L.length (flatCe (celSort L)))):=sortCe_own L a c base w own hl
 have HCO:Hid (∀ w1,w1.ownsRow base 64 2 (.slice a L.length c) L.length (flatCe (celSort L))→Calls Tryz.prog 55 #[.slice a L.length c] w1 (fun e w'=>e = .returned (.slice a (celSet L).length c)∧w1.grownBy w' (Value.slice a L.length c).ownBlock∧w'.ownsRow base 64 2 (.slice a (celSet L).length c) (celSet L).length (flatCe (celSet L)))):=fun w1 h1=>by
  have e:=celSort_len L
  rw [← e] at h1 ⊢
  exact compCe_own (celSort L) a c base w1 h1 (by omega)
 clear own
 generalize celSet L=R at *
 generalize celSort L=S at *
 generalize L.length=n at *
 go_enter Tryz.func27,Tryz.ntmps27
 go_upto_region 1 with (fail)
 go_wp2_with (first
  | (go_at_call 54;refine HSO.out.mono ?_;rintro e w1 ⟨rfl,hg1,own1⟩)
  | (go_at_call 55;refine (HCO.out _ own1).mono ?_;rintro e w2 ⟨rfl,hg2,own2⟩))
 go_ret
 exact ⟨_,rfl,rfl,grown_grown hg1 hg2 (fun q hq=>.inr hq),own2⟩
end Go.Proofs.YthbialnddkboiaaGreatDoor
namespace Go.Proofs.YthbialnddkboiaaGreatDoor
open Go.RowKit Go.Unit0 Go.AM

def KnB (h:List Cls) (fld:Str) (F:Str→Option Value):Prop:=∀ c v,F c=some v→v = .bool (fieldP h c fld).isSome
theorem KnB.nil (h:List Cls) (fld:Str):KnB h fld (fun _=>none):=fun _ _ e=>by cases e
theorem KnB.put {h:List Cls} {fld:Str} {F:Str→Option Value} (k:KnB h fld F) (c:Str):KnB h fld (fun k'=>if k' = c then some (.bool (fieldP h c fld).isSome) else F k'):=fun c' v e=>by
 have e:(if c' = c then some (Value.bool (fieldP h c fld).isSome) else F c')=some v:=e
 by_cases hc:c' = c
 ·subst hc
  rw [if_pos rfl] at e
  exact (Option.some.inj e).symm
 ·rw [if_neg hc] at e
  exact k c' v e
structure PC (W3:World) (gm:Nat) (h:List Cls) (fld:Str) (out:List Cel) (oa:Option Addr) (oc:Nat) (F:Str→Option Value) (m:Nat) (wr:World):Prop where
 hg:W3.grownBy wr (some gm)
 mp:MapF wr gm Value.string F m
 kn:KnB h fld F
 ow:wr.ownsRow W3.heap.size 64 2 (.slice oa out.length oc) out.length (flatCe out)
section
variable {W3:World} {gm:Nat} {h:List Cls} {fld:Str} {out:List Cel} {oa:Option Addr} {oc:Nat} {F:Str→Option Value} {m:Nat} {wr w':World}
theorem PC.below (k:PC W3 gm h fld out oa oc F m wr) (hb:Go.RowKit.Below wr.heap.size wr w'):PC W3 gm h fld out oa oc F m w':=⟨grown_below k.hg hb,k.mp.below hb,k.kn,owns_below k.ow hb⟩
theorem PC.put {c:Str} (k:PC W3 gm h fld out oa oc F m wr) (hm:MapF w' gm Value.string (fun k'=>if k' = c then some (.bool (fieldP h c fld).isSome) else F k') (m + 1)) (hg:wr.grownBy w' (some gm)):PC W3 gm h fld out oa oc (fun k'=>if k' = c then some (.bool (fieldP h c fld).isSome) else F k') (m + 1) w' :=
 ⟨grown_grown k.hg hg (fun _ hq=>.inr hq),hm,k.kn.put c,owns_put k.ow k.mp hg⟩
theorem PC.app {out':List Cel} {oa':Option Addr} {oc':Nat} (k:PC W3 gm h fld out oa oc F m wr) (own:w'.ownsRow W3.heap.size 64 2 (.slice oa' out'.length oc') out'.length (flatCe out')) (hg:wr.grownBy w' (Value.slice oa out.length oc).ownBlock):PC W3 gm h fld out' oa' oc' F m w' :=
 ⟨grown_grown k.hg hg (fun q hq=>.inl (k.ow.lt q hq).1),k.mp.grown hg (owns_mapF k.ow k.mp),k.kn,own⟩
end
set_option maxRecDepth 100000 in
set_option maxHeartbeats 16000000 in
theorem cellsP39 (u:Unt) (ha:Option Addr) (hc:Nat) (fa:Option Addr) (fc:Nat) (r:Rsl) (p:RP) (sa:Option Addr) (sc:Nat) (f v:Int) (fld:Str) (w:World) (h:ClssAt w ha u.h) (hf:FncsAt w fa u.fs) (hr:RslAt w p r) (hs:SitsAt w sa (sitL u)) (hk:UOk u fc r) :
 Calls Tryz.prog 28 #[unV u ha hc fa fc,rsV r p,.slice sa (sitL u).length sc,.int .i64 f,.int .i64 v,.string fld] w (CelsPost (celL u.h (sitL u) fld (ofP u r f v)) w):=by
 have S0:Hid (URB u ha hc fa fc r p w _):=URB.start (hc:=hc) (fc:=fc) h hf hr
 have HZ:Hid (((w.alloc (unC u ha hc fa fc)).alloc (rsC r p)).heap.size=w.heap.size + 2):=by show _=_;simp
 have HM:Hid (ClssAt w ha u.h∧FncsAt w fa u.fs∧RslAt w p r∧SitsAt w sa (sitL u)):=⟨h,hf,hr,hs⟩
 have HOF:Hid (∀ w1,ClssAt w1 ha u.h→FncsAt w1 fa u.fs→RslAt w1 p r→Calls Tryz.prog 24 #[unV u ha hc fa fc,rsV r p,.int .i64 f,.int .i64 v] w1 (NumsPost (ofP u r f v) w1)):=fun w1 h1 h2 h3=>ofP25 u ha hc fa fc r p f v w1 h1 h2 h3 hk.hl hk.cap hk.hv hk.few
 have HFI:Hid (∀ (s:Str) w1,ClssAt w1 ha u.h→Calls Tryz.prog 56 #[.agg #[.slice ha u.h.length hc],.string s,.string fld] w1 (FOk (fieldP u.h s fld).isSome w1)):=fun s w1 h1=>(fieldP86 u.h s fld ha hc w1 h1 hk.hh hk.hf).mono (fun _ _ h=>h.ok)
 have hll:=hk.ofl f v
 have hsl:=hk.sl
 have HLE:Hid (celL u.h (sitL u) fld ((ofP u r f v).take (ofP u r f v).length)=celL u.h (sitL u) fld (ofP u r f v)):=by show _=_;rw [List.take_length]
 have HLL:Hid (∀ k,(celL u.h (sitL u) fld ((ofP u r f v).take k)).length≤(ofP u r f v).length):=fun k=>Nat.le_trans (celL_len _ _ _ _) (by simp;omega)
 have HAF:Hid (∀ k (hk:k < (ofP u r f v).length),fldB u.h (sitL u) fld (ofP u r f v)[k]=false→celL u.h (sitL u) fld ((ofP u r f v).take (k + 1))=celL u.h (sitL u) fld ((ofP u r f v).take k)):=fun k hk e=>by rw [take_snoc hk,celL_f e]
 have HAT:Hid (∀ k (hk:k < (ofP u r f v).length),fldB u.h (sitL u) fld (ofP u r f v)[k]=true→celL u.h (sitL u) fld ((ofP u r f v).take (k + 1))=celL u.h (sitL u) fld ((ofP u r f v).take k) ++ [⟨(ofP u r f v)[k],fld⟩]):=fun k hk e=>by rw [take_snoc hk,celL_t e]
 have H00:Hid (celL u.h (sitL u) fld ((ofP u r f v).take 0) = []):=rfl
 clear h hf hr hs hk
 generalize ofP u r f v=L at *
 generalize sitL u=SL at *
 generalize celL u.h SL fld L=R at *
 obtain ⟨G,hG⟩:∃ G:Nat→List Cel,G=fun k=>celL u.h SL fld (L.take k):=⟨_,rfl⟩
 have HG:Hid (∀ k,celL u.h SL fld (L.take k)=G k):=fun k=>by rw [hG]
 clear hG
 simp only [HG.out] at HLE HLL HAF HAT H00
 clear HG
 unfold unV rsV at *
 go_enter Tryz.func28,Tryz.ntmps28
 go_upto_region 1 with (fail)
 have hW2:=HZ.out
 clear HZ
 generalize (w.alloc _).alloc _=W at *
 have hgm:w.heap.size + 2≤W.heap.size:=by omega
 clear hW2
 go_upto_region 3 with (refine wpList_makeF rfl 141 rfl undMSB Value.string ?_;intro hmp)
 have S1:=Lib.hid (S0.out.below (one_below W (.map #[] 0)))
 have HMP:=Lib.hid hmp
 clear S0 hmp
 generalize W.heap.size=gm at *
 generalize W.alloc (.map #[] 0)=W1 at *
 obtain ⟨⟨z0,z1,z2⟩,z3,z4,z5,z6⟩:=S1.out.now (Below.refl _ _)
 go_wp2_with (go_at_call 24;refine (HOF.out _ S1.out.ub.h S1.out.ub.f S1.out.rb.m).mono ?_;rintro e W3 ⟨hb3,la,lc,rfl,hat⟩)
 have S3:=Lib.hid (S1.out.below hb3)
 have P0:Hid (PC W3 gm u.h fld [] none 0 (fun _=>none) 0 W3):=⟨World.grownBy.refl _ _,HMP.out.below hb3,KnB.nil _ _,World.ownsRow_nil _ _ _ _⟩
 have HL3:=Lib.hid hat
 have M3:=Lib.hid (HMP.out.below hb3)
 have hW3:w.heap.size≤W3.heap.size:=S3.out.ub.hb.size
 have HB3:Hid (∀ wx,W3.grownBy wx (some gm)→Below w.heap.size w wx):=fun wx hx=>S3.out.ub.hb.grown hx S3.out.ub.hb.size (fun q hq=>by cases hq;omega)
 have HU3:Hid (∀ wx,W3.grownBy wx (some gm)→wx.cell? ⟨w.heap.size,0,none⟩=some (.slice ha u.h.length hc)):=fun wx hx=>hx.cell (S3.out.ub.cells.1) (fun e=>by have:w.heap.size=gm:=Option.some.inj e;omega)
 have HI3:Hid (∀ wx,W3.grownBy wx (some gm)→IntsAt wx la L):=fun wx hx k hk=>by
  obtain ⟨b,off,he,c0⟩:=HL3.out k hk
  exact ⟨b,off,he,hx.cell c0 (cell_mapF c0 M3.out)⟩
 clear S1 S3 HMP hb3 hat HOF HL3 M3 z0 z1 z2 z3 z4 z5 z6
 go_loopw [13,27] (fun v i wr=>∃ (k:Nat) (oa:Option Addr) (oc:Nat) (F:Str→Option Value) (m:Nat),k≤L.length∧v = .slice oa (G k).length oc∧i = .int .i64 k∧Hid (PC W3 gm u.h fld (G k) oa oc F m wr)) (fun _ i _=>L.length - (intOf i).toNat)
 case atStart=>exact ⟨0,none,0,_,0,Nat.zero_le _,by rw [H00.out];rfl,rfl,by rw [H00.out];exact P0.out⟩
 case round =>
  clear P0 H00
  obtain ⟨k,oa,oc,F,m,hk,rfl,rfl,S⟩:=hrel
  by_cases hlt:k < L.length
  case neg =>
   have HF:Hid (G k=R):=by show _=_;rw [← HLE.out,show k=L.length by omega]
   rw [HF.out] at S
   rw [HF.out]
   go_wp2
   go_ret
   exact ⟨HB3.out _ S.out.hg,oa,oc,rfl,owns_mono S.out.ow hW3⟩
  obtain ⟨b1,o1,he,p1⟩:=HI3.out _ S.out.hg k hlt
  subst he
  have HAF1:=Lib.hid (HAF.out k hlt)
  have HAT1:=Lib.hid (HAT.out k hlt)
  generalize L[k]=s at *
  by_cases h1:s < 0
  case pos =>
   have t1:decide (s < 0)=true:=decide_eq_true h1
   have HN:=Lib.hid (HAF1.out (fldB_neg h1))
   clear h1
   go_wp2
   go_roundw
   case rel=>exact ⟨k + 1,oa,oc,F,m,by omega,by rw [HN.out],by go_num,by rw [HN.out];exact S.out⟩
   case measure=>simp [intOf];omega
  have t1:decide (s < 0)=false:=decide_eq_false h1
  by_cases h2:(SL.length:Int)≤s
  case pos =>
   have t2:decide ((SL.length:Int)≤s)=true:=decide_eq_true h2
   have HN:=Lib.hid (HAF1.out (fldB_big h2))
   clear h1 h2
   go_wp2
   go_roundw
   case rel=>exact ⟨k + 1,oa,oc,F,m,by omega,by rw [HN.out],by go_num,by rw [HN.out];exact S.out⟩
   case measure=>simp [intOf];omega
  have t2:decide ((SL.length:Int)≤s)=false:=decide_eq_false h2
  obtain ⟨j,rfl⟩:∃ j:Nat,s=j:=⟨s.toNat,by omega⟩
  have hj:j < SL.length:=by omega
  rw [fldB_at hj] at HAF1 HAT1
  obtain ⟨b2,o2,he,q0,q1,q2⟩:=(HM.out.2.2.2.below (HB3.out _ S.out.hg)) j hj
  subst he
  have HFX:=Lib.hid (HFI.out SL[j].c)
  have hgl:=HLL.out k
  have HPT:Hid (∀ (w7:World) (out:List Cel) (oa:Option Addr) (oc m:Nat) (F:Str→Option Value) (wx:World),PC W3 gm u.h fld out oa oc F m wx→MapF w7 gm Value.string (fun k'=>if k' = SL[j].c then some (.bool (fieldP u.h SL[j].c fld).isSome) else F k') (m + 1)→wx.grownBy w7 (some gm)→∃ F' m',PC W3 gm u.h fld out oa oc F' m' w7):=fun w7 out oa oc m F wx k hm hg=>⟨_,_,k.put hm hg⟩
  have HKV:Hid (∀ v,F SL[j].c=some v→v = .bool (fieldP u.h SL[j].c fld).isSome):=fun v e=>S.out.kn _ v e
  generalize (fieldP u.h SL[j].c fld).isSome=d at *
  generalize SL[j].c=cls at *
  clear h1 h2 q0 q1
  have x0:=HU3.out _ S.out.hg
  have hcl:=Lib.hid (HM.out.1.below (HB3.out _ S.out.hg))
  cases hF:F cls with
  | some v =>
    obtain rfl:=HKV.out v hF
    have HV:=Lib.hid hF
    clear hF x0 hcl
    cases d
    case false =>
     have HN:=Lib.hid (HAF1.out rfl)
     go_wp2_with (at_lookup;refine wpList_lookF rfl _ _ _ _ rfl keyStr undMSB _ (zeroBool _) gm rfl S.out.mp cls rfl ?_;rw [HV.out])
     go_roundw
     case rel=>exact ⟨k + 1,oa,oc,F,m,by omega,by rw [HN.out],by go_num,by rw [HN.out];exact S.out⟩
     case measure=>simp [intOf];omega
    case true =>
     have HN:=Lib.hid (HAT1.out rfl)
     have B1:Hid (Blk (wr.alloc (.cells #[.int .i64 j,.string fld] 64)) wr.heap.size #[.int .i64 j,.string fld] 64):=blk_new ..
     have S1:=Lib.hid (S.out.below (one_below wr (.cells #[.int .i64 j,.string fld] 64)))
     have hbs:W3.heap.size≤(wr.alloc (.cells #[.int .i64 j,.string fld] 64)).heap.size:=S1.out.hg.size
     have hgl2:(G k).length≤1000000:=by omega
     go_wp2_with (first | (at_lookup;refine wpList_lookF rfl _ _ _ _ rfl keyStr undMSB _ (zeroBool _) gm rfl S.out.mp cls rfl ?_;rw [HV.out]) | (at_builtin;refine appCe rfl _ _ rfl W3.heap.size _ (G k) rfl S1.out.ow wr.heap.size ⟨(j:Int),fld⟩ rfl B1.out hgl2 hbs ?_;intro v7 W7 own7 hg7;obtain ⟨-,oa7,oc7,rfl,-,-⟩:=ownsCe own7))
     rw [← HN.out] at own7
     have S9:=Lib.hid (S1.out.app own7 hg7)
     clear own7 hg7 S1 B1
     go_roundw
     case rel=>exact ⟨k + 1,oa7,oc7,F,m,by omega,by rw [HN.out];simp,by go_num,S9.out⟩
     case measure=>simp [intOf];omega
  | none =>
    have HV:=Lib.hid hF
    clear hF
    go_upto_region 11 with (first | (at_lookup;refine wpList_lookF rfl _ _ _ _ rfl keyStr undMSB _ (zeroBool _) gm rfl S.out.mp cls rfl ?_;rw [HV.out]) | (go_at_call 56;refine (HFX.out _ hcl.out).mono ?_;rintro e w5 ⟨hb5,s1,s2,rfl⟩))
    have S5:=Lib.hid (S.out.below hb5)
    clear S hb5 x0 hcl
    go_upto_region 12 with (refine wpList_mapF rfl _ _ _ _ rfl keyStr undMSB gm rfl S5.out.mp cls rfl (.bool d) rfl ?_;intro w7 hm7 hg7 hs7)
    obtain ⟨F',m',hS7⟩:=HPT.out w7 _ oa oc m F _ S5.out hm7 hg7
    have S7:=Lib.hid hS7
    clear hS7 hm7 hg7 hs7 S5 HPT HKV HV
    cases d
    case false =>
     have HN:=Lib.hid (HAF1.out rfl)
     go_wp2
     go_roundw
     case rel=>exact ⟨k + 1,oa,oc,F',m',by omega,by rw [HN.out],by go_num,by rw [HN.out];exact S7.out⟩
     case measure=>simp [intOf];omega
    case true =>
     have HN:=Lib.hid (HAT1.out rfl)
     have B1:Hid (Blk (w7.alloc (.cells #[.int .i64 j,.string fld] 64)) w7.heap.size #[.int .i64 j,.string fld] 64):=blk_new ..
     have S1:=Lib.hid (S7.out.below (one_below w7 (.cells #[.int .i64 j,.string fld] 64)))
     have hbs:W3.heap.size≤(w7.alloc (.cells #[.int .i64 j,.string fld] 64)).heap.size:=S1.out.hg.size
     have hgl2:(G k).length≤1000000:=by omega
     go_wp2_with ((at_builtin;refine appCe rfl _ _ rfl W3.heap.size _ (G k) rfl S1.out.ow w7.heap.size ⟨(j:Int),fld⟩ rfl B1.out hgl2 hbs ?_;intro v7 W7 own7 hg7;obtain ⟨-,oa7,oc7,rfl,-,-⟩:=ownsCe own7))
     rw [← HN.out] at own7
     have S9:=Lib.hid (S1.out.app own7 hg7)
     clear own7 hg7 S1 B1
     go_roundw
     case rel=>exact ⟨k + 1,oa7,oc7,F',m',by omega,by rw [HN.out];simp,by go_num,S9.out⟩
     case measure=>simp [intOf];omega
set_option maxRecDepth 100000 in
set_option maxHeartbeats 8000000 in
theorem cellsP16 (u:Unt) (ha:Option Addr) (hc:Nat) (fa:Option Addr) (fc:Nat) (r:Rsl) (p:RP) (f v:Int) (fld:Str) (w:World) (h:ClssAt w ha u.h) (hf:FncsAt w fa u.fs) (hr:RslAt w p r) (hk:UOk u fc r) :
 Calls Tryz.prog 12 #[unV u ha hc fa fc,rsV r p,.int .i64 f,.int .i64 v,.string fld] w (CelsPost (celSet (celL u.h (sitL u) fld (ofP u r f v))) w):=by
 have S0:Hid (URB u ha hc fa fc r p w _):=URB.start (hc:=hc) (fc:=fc) h hf hr
 have HCE:Hid (∀ (sa:Option Addr) (sc:Nat) w1,ClssAt w1 ha u.h→FncsAt w1 fa u.fs→RslAt w1 p r→SitsAt w1 sa (sitL u)→Calls Tryz.prog 28 #[unV u ha hc fa fc,rsV r p,.slice sa (sitL u).length sc,.int .i64 f,.int .i64 v,.string fld] w1 (CelsPost (celL u.h (sitL u) fld (ofP u r f v)) w1)):=fun sa sc w1 h1 h2 h3 h4=>cellsP39 u ha hc fa fc r p sa sc f v fld w1 h1 h2 h3 h4 hk
 have HSI:Hid (∀ w1,ClssAt w1 ha u.h→FncsAt w1 fa u.fs→Calls Tryz.prog 22 #[unV u ha hc fa fc] w1 (SitsPost (sitL u) w1)):=fun w1 h1 h2=>sitesP u ha hc fa fc w1 h1 h2 hk.fit
 have hml:(celL u.h (sitL u) fld (ofP u r f v)).length≤1000000:=by
  have h1:=celL_len u.h (sitL u) fld (ofP u r f v)
  have h2:=hk.ofl f v
  omega
 clear h hf hr hk
 generalize celL u.h (sitL u) fld (ofP u r f v)=L at *
 generalize sitL u=SL at *
 unfold unV rsV at *
 go_enter Tryz.func12,Tryz.ntmps12
 go_upto_region 1 with (fail)
 generalize (w.alloc _).alloc _=W at *
 have k1:∀ o:WB W,o.u.cell? ⟨w.heap.size,0,none⟩=some (.slice ha u.h.length hc):=fun o=>(S0.out.now o.h).1.1
 have k2:∀ o:WB W,o.u.cell? ⟨w.heap.size,1,none⟩=some (.slice fa u.fs.length fc):=fun o=>(S0.out.now o.h).1.2.1
 have k3:∀ o:WB W,o.u.cell? ⟨w.heap.size,2,none⟩=some (.int .i64 u.main):=fun o=>(S0.out.now o.h).1.2.2
 have k4:∀ o:WB W,o.u.cell? ⟨w.heap.size + 1,0,none⟩=some (.slice p.ra r.reached p.rc):=fun o=>(S0.out.now o.h).2.1
 have k5:∀ o:WB W,o.u.cell? ⟨w.heap.size + 1,1,none⟩=some (.slice p.ca r.calls.length p.cc):=fun o=>(S0.out.now o.h).2.2.1
 have k6:∀ o:WB W,o.u.cell? ⟨w.heap.size + 1,2,none⟩=some (.slice p.va r.vars.length p.vc):=fun o=>(S0.out.now o.h).2.2.2.1
 have k7:∀ o:WB W,o.u.cell? ⟨w.heap.size + 1,3,none⟩=some (.slice p.xa r.cells.length p.xc):=fun o=>(S0.out.now o.h).2.2.2.2
 have hne:Nonempty (WB W):=⟨⟨W,Below.refl _ _⟩⟩
 have h0:Below W.heap.size W W.drew:=(Below.refl _ _).drew
 refine wp_region_Y (fun w'=>∃ o:WB W,w' = o.u) (by kernel_rfl) ?_
 change wpAnyY _ _ _ _ _ _ _ _ W.drew
 generalize W.drew=V0 at *
 refine wpAnyY_take 0 rfl (by kernel_rfl) (fun _ _ _ _ h=>h) ⟨⟨_,h0⟩,rfl⟩ (fun K hK=>?_);go_simp;refine hK _ ?_;clear hK K
 refine wpAnyY_take 1 rfl (by kernel_rfl) (fun _ _ _ _ h=>h) ⟨⟨_,h0⟩,rfl⟩ (fun K hK=>?_);go_simp;refine hK _ ?_;clear hK K
 refine wpAnyY_take 2 rfl (by kernel_rfl) (fun _ _ _ _ h=>h) ⟨⟨_,h0⟩,rfl⟩ (fun K hK=>?_);go_simp;refine hK _ ?_;clear hK K
 refine wpAnyY_take 4 rfl (by kernel_rfl) (fun _ _ _ _ h=>h) ⟨⟨_,h0⟩,rfl⟩ (fun K hK=>?_);go_simp;refine hK _ ?_;clear hK K
 refine wpAnyY_take 5 rfl (by kernel_rfl) (fun _ _ _ _ h=>h) ⟨⟨_,h0⟩,rfl⟩ (fun K hK=>?_);go_simp;refine hK _ ?_;clear hK K
 refine wpAnyY_take 6 rfl (by kernel_rfl) (fun _ _ _ _ h=>h) ⟨⟨_,h0⟩,rfl⟩ (fun K hK=>?_);go_simp;refine hK _ ?_;clear hK K
 refine wpAnyY_one 3 rfl (by kernel_rfl) ?_
 go_wp2_with fail
 refine (HSI.out _ (S0.out.below h0).ub.h (S0.out.below h0).ub.f).mono ?_
 rintro e w2 ⟨hb2,sa,sc,rfl,own2⟩
 have h2:Below W.heap.size W w2:=h0.trans (hb2.mono h0.size)
 have HS2:=Lib.hid (ownsS' own2).2
 go_wp2
 refine ⟨⟨⟨_,h2⟩,rfl⟩,?_⟩
 refine wpAnyY_one 7 rfl (by kernel_rfl) ?_
 go_wp2_with fail
 refine (HCE.out sa sc _ (S0.out.below h2).ub.h (S0.out.below h2).ub.f (S0.out.below h2).rb.m HS2.out).mono ?_
 rintro e w3 ⟨hb3,oa,oc,rfl,own3⟩
 have h3:Below W.heap.size W w3:=h2.trans (hb3.mono h2.size)
 have O3:=Lib.hid own3
 go_wp2
 refine ⟨⟨⟨_,h3⟩,rfl⟩,?_⟩
 refine wpAnyY_one 8 rfl (by kernel_rfl) ?_
 go_wp2_with fail
 refine (ascCe L oa oc _ _ O3.out hml).mono ?_
 rintro e w4 ⟨n,hn,rfl,hg4,own4⟩
 have h4:Below W.heap.size W w4:=h3.grown hg4 h3.size (fun q hq=>Nat.le_trans h2.size (O3.out.lt q hq).1)
 have O4:=Lib.hid own4
 have HN:=Lib.hid hn
 clear own2 own3 own4 hb2 hb3 hg4 O3 HS2 k1 k2 k3 k4 k5 k6 k7 hn
 go_wp2
 refine ⟨⟨⟨_,h4⟩,rfl⟩,?_⟩
 refine wpAnyY_one 9 rfl (by kernel_rfl) ?_
 go_wp2
 refine ⟨⟨⟨_,h4⟩,rfl⟩,?_⟩
 refine wpAnyY_done (by kernel_rfl) ?_ _
 have HB:=Lib.hid (S0.out.ub.hb.trans (h4.mono S0.out.ub.hb.size))
 have hmo:w.heap.size≤w2.heap.size:=Nat.le_trans S0.out.ub.hb.size h2.size
 go_wp2
 go_ret
 refine ⟨HB.out,oa,oc,by rw [HN.out];rfl,?_⟩
 have:=O4.out
 rw [HN.out] at this
 exact owns_mono this hmo
end Go.Proofs.YthbialnddkboiaaGreatDoor
