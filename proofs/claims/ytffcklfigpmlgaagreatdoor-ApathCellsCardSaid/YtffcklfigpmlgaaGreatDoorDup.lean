/-
  duplicate, as the evaluator takes it: a call that makes a block.
-/
import Derived.Test.YtffcklfigpmlgaaGreatDoorQP
import Derived.Test.YtffcklfigpmlgaaGreatDoorAmD
import Derived.Test.YtffcklfigpmlgaaGreatDoorRG
namespace Go.Proofs.YtffcklfigpmlgaaGreatDoor
open Go Go.AM Go.RowKit

def Own2P (p:Pth) (w:World) (e:Ending) (w':World):Prop:=Below w.heap.size w w'∧∃ g d,e = .returned (pV p (some ⟨g,0,none⟩) d)∧w'.ownsRow w.heap.size 9 1 (.slice (some ⟨g,0,none⟩) p.fs.length d) p.fs.length (p.fs.map Value.string)
set_option maxRecDepth 100000 in
set_option maxHeartbeats 2000000 in
theorem dup25s (p:Pth) (a:Option Addr) (c:Nat) (w:World) (hs:StrsAt w a p.fs) (hl:p.fs.length≤1000):Calls Tryz.prog 41 #[pV p a c] w (Own2P p w):=by
 unfold pV
 have HB0:=Lib.hid (two_below w (.cells #[.int .i64 p.root,.int .i64 p.n,.slice a p.fs.length c,.bool p.star] 37) (.cells #[.int .i64 0,.int .i64 0,.slice none 0 0,.bool false] 37))
 have HS:=Lib.hid (hs.below HB0.out);clear hs
 obtain ⟨W,hW⟩:∃ W,W=(w.alloc (.cells #[.int .i64 p.root,.int .i64 p.n,.slice a p.fs.length c,.bool p.star] 37)).alloc (.cells #[.int .i64 0,.int .i64 0,.slice none 0 0,.bool false] 37):=⟨_,rfl⟩
 have C1:Hid (Blk W w.heap.size #[.int .i64 p.root,.int .i64 p.n,.slice a p.fs.length c,.bool p.star] 37):=by rw [hW];exact (blk_new ..).below (one_below ..)
 have C2:Hid (Blk W (w.heap.size + 1) #[.int .i64 0,.int .i64 0,.slice none 0 0,.bool false] 37):=by rw [hW];exact blk_new2 ..
 have HZ:Hid (W.heap.size=w.heap.size + 1 + 1):=by show _=_;rw [hW];simp
 rw [← hW] at HB0 HS
 have hmk:=make22 p.fs.length hl W
 obtain ⟨X,hX⟩:∃ X,X=List.replicate (p.fs.length + 1) (Value.string ⟨#[]⟩):=⟨_,rfl⟩
 have hXl:X.length=p.fs.length + 1:=by rw [hX];simp
 rw [← hX] at hmk
 have HXL:=Lib.hid hXl;clear hXl hX
 go_enter Tryz.func41,Tryz.ntmps41
 go_upto_region 1 with (fail)
 rw [← hW]
 clear hW
 obtain ⟨x0,x1,x2,x3⟩:=C1.out.four
 obtain ⟨g,hg⟩:∃ g,g=W.heap.size:=⟨_,rfl⟩
 have HG:=Lib.hid hg
 rw [← hg] at hmk
 clear hg
 go_upto_region 2 with (fail)
 obtain ⟨W3,hW3⟩:∃ W3,W3=W.alloc (.cells X.toArray 9):=⟨_,rfl⟩
 have B3:Hid (Below W.heap.size W W3):=by rw [hW3];exact one_below ..
 have G3:Hid (W3.heap[g]? = some (.cells X.toArray 9 (0,0))):=by rw [hW3,HG.out];exact heap_alloc_new W _
 rw [← hW3]
 clear hW3 hmk
 have D1:=Lib.hid (C1.out.below B3.out)
 have S3:=Lib.hid (HS.out.below B3.out)
 clear x0 x1 x2 x3
 obtain ⟨x0,x1,x2,x3⟩:=D1.out.four
 go_wp2_with (with_reducible refine wpList_copy_splice rfl (.tmp 12) (.tmp 14) 35 35 rfl 9 Tryz.underlying35 (by kernel_rfl) (some ⟨g,0,none⟩) a p.fs.length (p.fs.length + 1) p.fs.length c rfl rfl g 0 X 9 G3.out (p.fs.map Value.string) ?c1 ?c2 ?c3 ?c4 W.heap.size W B3.out ?c5 ?_)
 case c1=>simp
 case c2 =>
  intro h0
  obtain ⟨b,off,ha,_⟩:=S3.out 0 h0
  refine ⟨_,ha,fun j v hj=>?_⟩
  obtain ⟨x,rfl⟩:=List.getElem?_eq_some_iff.1 hj
  obtain ⟨b',off',ha',hc⟩:=S3.out j x
  rw [ha] at ha'
  cases ha'
  rw [addr_add,hc]
 case c3=>rw [List.length_map,HXL.out];omega
 case c4 =>
  intro v hv
  obtain ⟨x,_,rfl⟩:=List.mem_map.1 hv
  rfl
 case c5=>rw [HG.out];exact Nat.le_refl _
 intro w4 hg4 hb4
 have D4:=Lib.hid (C1.out.below hb4)
 have E4:=Lib.hid (C2.out.below hb4)
 have BW4:=Lib.hid (HB0.out.trans (hb4.mono HB0.out.size))
 have hgl:w.heap.size < g:=by rw [HG.out,HZ.out];omega
 have hgl2:w.heap.size + 1 < g:=by rw [HG.out,HZ.out];omega
 have hsz4:w.heap.size + 1 < w4.heap.size:=E4.out.lt
 clear hb4 B3 G3 D1 S3 x0 x1 x2 x3 C1 C2 HB0 HS
 obtain ⟨y0,y1,y2,y3⟩:=D4.out.four
 have f2:=D4.out.free 2
 have D5:Hid (Blk (w4.setCell ⟨w.heap.size,2,none⟩ (.slice (some ⟨g,0,none⟩) p.fs.length (p.fs.length + 1))) w.heap.size #[.int .i64 p.root,.int .i64 p.n,.slice (some ⟨g,0,none⟩) p.fs.length (p.fs.length + 1),.bool p.star] 37):=by
  have:=D4.out.set 2 (.slice (some ⟨g,0,none⟩) p.fs.length (p.fs.length + 1))
  show Blk _ _ _ _
  simpa using this
 have E5:Hid (Blk (w4.setCell ⟨w.heap.size,2,none⟩ (.slice (some ⟨g,0,none⟩) p.fs.length (p.fs.length + 1))) (w.heap.size + 1) #[.int .i64 0,.int .i64 0,.slice none 0 0,.bool false] 37):=E4.out.other (by omega) 2 _
 go_wp2_with (first | (refine wload24 rfl _ rfl w.heap.size _ rfl D5.out rfl ?_) | (refine store24 rfl _ _ rfl (w.heap.size + 1) _ _ _ _ _ _ rfl rfl _ E5.out rfl ?_))
 have E6:=E5.out.setRow #[.int .i64 p.root,.int .i64 p.n,.slice (some ⟨g,0,none⟩) p.fs.length (p.fs.length + 1),.bool p.star]
 refine bodyPost_ret (v:=pV p (some ⟨g,0,none⟩) (p.fs.length + 1)) (results_c1 Tryz.results41 _ _ (w.heap.size + 1) _ _ rfl E6 Tryz.underlying37 rfl (by kernel_rfl)) rfl ?_
 refine ⟨below_setRow (BW4.out.setCell (Nat.le_refl _) _) (by omega) _,g,_,rfl,by simp,.inr ⟨g,p.fs.length + 1,(splice X 0 (p.fs.map Value.string)).toArray,rfl,by omega,?_,by omega,by unfold maxLen;omega,?_,?_⟩⟩
 ·rw [setRow_other _ _ _ _ (by omega)]
  simp only [World.setCell,Array.getElem?_modify]
  rw [if_neg (by omega)]
  exact hg4.out
 ·have:=length_splice X 0 (p.fs.map Value.string) (by rw [List.length_map,HXL.out];omega)
  simp only [List.size_toArray,this,HXL.out];omega
 ·simp [splice]
noncomputable def isS (v:AV):Bool:=AV.rec (motive:=fun _=>Bool) (false) (fun _=>false) (fun _ _=>false) (fun _=>true) (false) (fun _ _=>false) (false) (fun _ _ _=>false) (false) (fun _=>false) (false) (fun _ _ _ _ _=>false) (false) (fun _ _ _=>false) (fun _ _=>false) (fun _ _=>false) (false) (fun _ _ _ _=>false) v
theorem isS_eq {v:AV} (h:isS v=true):∃ s,v = .s s:=by cases v <;> first | exact ⟨_,rfl⟩ | cases h
noncomputable def isSO (x:Option AV):Bool:=Option.rec (motive:=fun _=>Bool) false (fun v=>isS v) x
theorem isSO_eq {x:Option AV} (h:isSO x=true):∃ s,x=some (.s s):=by
 cases x with
 | none=>cases h
 | some v=>obtain ⟨s,rfl⟩:=isS_eq h;exact ⟨s,rfl⟩
noncomputable def allS (m:Nat):T AV→Nat→Bool:=Nat.rec (motive:=fun _=>T AV→Nat→Bool) (fun _ _=>true) (fun m ih els q=>and (isSO (T.get (pth (Nat.add q m)) els)) (ih els q)) m
theorem allS_inv {els:T AV} {q:Nat}:∀ {m:Nat},allS m els q=true→∀ j,j < m→∃ s,T.get (pth (q + j)) els=some (.s s)
 | 0,_,j,hj=>absurd hj (by omega)
 | m + 1,h,j,hj=>by
   have h:(isSO (T.get (pth (q + m)) els) && allS m els q)=true:=h
   rw [Bool.and_eq_true] at h
   by_cases e:j=m
   ·subst e;exact isSO_eq h.1
   ·exact allS_inv h.2 j (by omega)
noncomputable def dupOut (r0 r1 r3:AV) (st:St) (n:Nat) (els:T AV):Out:=newO st (.v 9 1 n els) (fun r=>.a (.cn r0 (.cn r1 (.cn (.l r 0 n) (.cn r3 .nl))))) (fun v st=>some [(v,st)])
noncomputable def dupPrim (xs:AV) (st:St):Out:=asC xs (fun x m=>must (isNl m) (asA x (fun row=>asC row (fun r0 l1=>asC l1 (fun r1 l2=>asC l2 (fun r2 l3=>asC l3 (fun r3 l4=>must (isNl l4) (asI r0 (fun q0 _=>must (eqk q0 .i64) (asI r1 (fun q1 _=>must (eqk q1 .i64) (asB r3 (fun _=>asL r2 (dupOut r0 r1 r3 st 0 .e)
 (fun rs o n=>must (Nat.ble n 1000) (obW st rs (fun _ k2 _ sz len els=>must (Nat.beq sz 1) (must (Nat.ble (Nat.add (Nat.add k2 o) n) len) (must (allS n els (Nat.add k2 o)) (dupOut r0 r1 r3 st n (copyT n els (Nat.add k2 o) .e 0))))))))))))))))))))
theorem dupOut_ok {B:Bds} {E:Env'} {st:St} {w:World} {a0 a1:Int} {b3:Bool} {fs:List ByteArray} {ad:Option Addr} {c:Nat} {els:T AV} {outs:List (AV × St)} (hs:Sim B E st w) (hB:BIn B w) (hat:StrsAt w ad fs) (hn:fs.length≤1000)
 (hels:∀ q (h:q < fs.length) v,T.get (pth q) els=some v→VRel E v (.string fs[q]))
 (h:dupOut (.i .i64 a0) (.i .i64 a1) (.b b3) st fs.length els=some outs):Calls Tryz.prog 41 #[pV ⟨a0,a1,fs,b3⟩ ad c] w (AM.Ends B E w outs):=by
 unfold dupOut at h
 obtain ⟨t,n,rfl,hn5,h⟩:=newO_inv h
 cases h
 refine (dup25s ⟨a0,a1,fs,b3⟩ ad c w hat hn).mono ?_
 rintro e w' ⟨hb,g,d,rfl,hown⟩
 rcases hown.2 with ⟨hc,_⟩ | ⟨g',cap,cur,he,hge,hh,hle,_,hsz,htk⟩
 ·cases hc
 cases he
 have hlt:∀ s q l',s < lim→T.get (pth s) t=some q→E s=some l'→l'.blk < w.heap.size:=fun s q l' h1 h2 h3=>by
  obtain ⟨l2,hl2,ho⟩:=hs.live s q h1 h2
  rw [h3] at hl2
  cases hl2
  exact ho.there
 have hcur:∀ q (h:q < fs.length),cur[q]? = some (.string fs[q]):=fun q hq=>by
  have h1:=congrArg (·[q]?) htk
  simp only [List.getElem?_take,Nat.mul_one,List.getElem?_map] at h1
  rw [if_pos hq,List.getElem?_eq_getElem hq] at h1
  simpa using h1
 have hnew:=Sim.new (w':=w') (l:=⟨g,0,d,1⟩) (o:=.v 9 1 fs.length els) hs hn5 (fun hb=>by have:=hB.lt g hb;omega) hb.size (fun _ s q l' h1 h2 _ h3=>by have:=hlt s q l' h1 h2 h3;show l'.blk ≠ g;omega)
  (fun s q l' h1 h2 _ h3=>hb.block _ (hlt s q l' h1 h2 h3)) (by
    refine ⟨cur,(0,0),hh,fun _=>rfl,rfl,⟨hle,by omega⟩,by rw [hsz];simp,fun q hq v hv=>⟨[.string fs[q]],rfl,.inr ?_,fun i hi=>?_⟩⟩
    ·have hr:=(hels q hq v hv).mono (Env'.le_with (l:=⟨g,0,d,1⟩) (hs.fresh n (Nat.le_refl n)))
     refine ⟨?_,_,rfl,hr⟩
     cases v <;> first | rfl | (simp only [VRel] at hr;obtain ⟨_,hr,_⟩:=hr;cases hr)
    ·obtain rfl:i=0:=by omega
     simpa using hcur q hq)
 refine ⟨_,_,_,_,rfl,List.mem_singleton.2 rfl,hnew.1,hnew.2,?_,⟨hb.os,hb.tape,hb.output,hb.size,fun k hk=>hb.block k (hB.lt k hk)⟩⟩
 unfold pV
 simp only [VRel,LRel]
 exact ⟨[_,_,_,_],rfl,_,_,rfl,rfl,_,_,rfl,rfl,_,_,rfl,⟨_,Env'.with_self _ _ _,by simpa using hle,0,fun _=>by simp,by simp⟩,_,_,rfl,rfl,rfl⟩
theorem dupPrim_ok (hen:∀ args w,(callFunc 41 args).run Tryz.prog w = .ok (.enter 41 args) w) (B:Bds):CallOk1 Tryz.prog B 41 dupPrim:=by
 intro xs st outs E w args h hs hB hl
 refine ⟨hen _ _,?_⟩
 unfold dupPrim at h
 obtain ⟨x,m,rfl,h⟩:=asC_inv h
 obtain ⟨h0,h⟩:=must_inv h
 obtain rfl:=isNl_eq h0
 obtain ⟨row,rfl,h⟩:=asA_inv h
 obtain ⟨r0,l1,rfl,h⟩:=asC_inv (show asC row _=some outs from h)
 obtain ⟨r1,l2,rfl,h⟩:=asC_inv (show asC l1 _=some outs from h)
 obtain ⟨r2,l3,rfl,h⟩:=asC_inv (show asC l2 _=some outs from h)
 obtain ⟨r3,l4,rfl,h⟩:=asC_inv (show asC l3 _=some outs from h)
 obtain ⟨h0,h⟩:=must_inv h
 obtain rfl:=isNl_eq h0
 obtain ⟨q0,a0,rfl,h⟩:=asI_inv h
 obtain ⟨h0,h⟩:=must_inv h
 obtain rfl:=eqk_eq h0
 obtain ⟨q1,a1,rfl,h⟩:=asI_inv h
 obtain ⟨h0,h⟩:=must_inv h
 obtain rfl:=eqk_eq h0
 obtain ⟨b3,rfl,h⟩:=asB_inv h
 simp only [LRel] at hl
 obtain ⟨v,_,rfl,hv,rfl⟩:=hl
 simp only [VRel,LRel] at hv
 obtain ⟨_,rfl,v0,_,rfl,rfl,v1,_,rfl,rfl,v2,_,rfl,hv2,v3,_,rfl,rfl,rfl⟩:=hv
 rcases asL_inv h with ⟨rfl,h⟩ | ⟨rs,o,n,rfl,h⟩
 ·simp only [VRel] at hv2
  subst hv2
  exact dupOut_ok (fs:=[]) (c:=0) hs hB (fun k hk=>absurd hk (by simp)) (by simp) (fun q hq=>absurd hq (by simp)) h
 ·obtain ⟨h0,h⟩:=must_inv h
  have hn:n≤1000:=Nat.le_of_ble_eq_true h0
  obtain ⟨b2,k2,e,sz,len,els,h,hq,hvia⟩:=obW_inv h
  obtain ⟨hz1,g1⟩:=must_inv (show must (Nat.beq sz 1) (must (Nat.ble (Nat.add (Nat.add k2 o) n) len) (must (allS n els (Nat.add k2 o)) (dupOut (.i .i64 a0) (.i .i64 a1) (.b b3) st n (copyT n els (Nat.add k2 o) .e 0))))=some outs from h)
  obtain rfl:=Nat.eq_of_beq_eq_true hz1
  obtain ⟨hz2,g2⟩:=must_inv g1
  have hlen:k2 + o + n≤len:=Nat.le_of_ble_eq_true hz2
  obtain ⟨hall,g3⟩:=must_inv g2
  clear h g1 g2
  have h:=g3
  have hall:=allS_inv hall
  obtain ⟨l2,off,c,hE,ho,hsz,hcap,hoff,rfl,hnc⟩:=hs.view hv2 hvia hq
  obtain ⟨cc,fr,hh,_,_,⟨hlc,hl5⟩,_,hel⟩:=ho
  have each:∀ j,j < n→∃ z:ByteArray,cc[l2.base + (k2 + o + j)]? = some (.string z)∧∀ v,T.get (pth (k2 + o + j)) els=some v→VRel E v (.string z):=fun j hj=>by
   obtain ⟨s,hsj⟩:=hall j hj
   obtain ⟨lv,h1,h2,h3⟩:=hel (k2 + o + j) (by omega) _ hsj
   rcases h2 with ⟨_,he,_⟩ | ⟨_,v,rfl,hv⟩
   ·cases he
   have hv':=hv
   simp only [VRel] at hv'
   obtain ⟨z,rfl,_⟩:=hv'
   refine ⟨z,by simpa using h3 0 (by omega),fun y hy=>?_⟩
   have hsj:T.get (pth (k2 + o + j)) els=some (.s s):=hsj
   rw [hsj] at hy
   cases hy
   exact hv
  obtain ⟨fs,hfl,hfs⟩:=LawLift.list_of n each
  subst hfl
  refine dupOut_ok (fs:=fs) (c:=c) hs hB (fun k hk=>⟨l2.blk,off,rfl,?_⟩) hn (fun q hq v hv=>?_) h
  ·rw [cell_of_row _ _ _ _ _ _ hh,hoff (by omega)]
   rw [← (hfs k hk).1]
   congr 1;omega
  ·rw [get_copyT _ (by omega) q (by omega),if_pos ⟨Nat.zero_le _,by omega⟩] at hv
   exact (hfs q hq).2 v (by simpa using hv)
end Go.Proofs.YtffcklfigpmlgaaGreatDoor
