/-
  Call edges of one's own sorted by the library. (Printed by pre.py.)
  The program's rapid type analysis: its parts in memory, plain part.
-/
import Derived.Test.YtkbmnfijeknenaaGreatDoorPA
import Derived.Test.YtkbmnfijeknenaaGreatDoorGB
import Derived.Test.YtkbmnfijeknenaaGreatDoorKA
import Derived.Test.YtkbmnfijeknenaaGreatDoorSortf
import Derived.Test.YtkbmnfijeknenaaGreatDoorPB
namespace Go.Proofs.YtkbmnfijeknenaaGreatDoor
open Go.RowKit Go.Unit0 Go.AM Go.Sort

theorem ints_new3 (w:World) (i j k:Int):IntsAt (w.alloc (.cells #[.int .i64 i,.int .i64 j,.int .i64 k] 3)) (some ⟨w.heap.size,0,none⟩) [i,j,k]:=by
 intro q hq
 have hq2:q < 3:=by simpa using hq
 have hb:=(blk_new w #[.int .i64 i,.int .i64 j,.int .i64 k] 3).cell q (by simpa using hq2)
 refine ⟨_,_,rfl,?_⟩
 rw [Nat.zero_add,hb]
 rcases (show q=0 ∨ q=1 ∨ q=2 by omega) with rfl | rfl | rfl <;> rfl
def or3 (x y z:Int):Int:=if x=0 then (if y=0 then z else y) else x
set_option maxHeartbeats 1000000 in
theorem cmpOr3 (x y z:Int) (a:Option Addr) (c:Nat) (w:World) (h:IntsAt w a [x,y,z]) :
 Calls Tryz.prog 56 #[.slice a 3 c] w (Same w (.int .i64 (or3 x y z))):=by
 have HL:=Lib.hid h
 clear h
 have HR:Hid (or3 x y z=if x=0 then (if y=0 then z else y) else x):=rfl
 generalize or3 x y z=r at *
 go_enter Tryz.func56,Tryz.ntmps56
 go_wp2
 go_loop [8] (fun i=>∃ k:Nat,k≤3∧i = .int .i64 k∧Hid (1≤k→x=0)∧Hid (2≤k→y=0)∧Hid (3≤k→z=0)) (fun i=>3 - (intOf i).toNat)
 case atStart=>exact ⟨0,by omega,rfl,fun h=>by omega,fun h=>by omega,fun h=>by omega⟩
 case round =>
  obtain ⟨k,hk,rfl,H1,H2,H3⟩:=hrel
  by_cases hlt:k < 3
  case neg =>
   go_wp2
   go_ret
   exact ⟨ret_int (by rw [HR.out,if_pos (H1.out (by omega)),if_pos (H2.out (by omega)),H3.out (by omega)]),rfl⟩
  obtain ⟨b,off,he,hc⟩:=HL.out k (by simpa using hlt)
  subst he
  have HZ:Hid ((k=0→[x,y,z][k]'(by simpa using hlt)=x)∧(k=1→[x,y,z][k]'(by simpa using hlt)=y)∧(k=2→[x,y,z][k]'(by simpa using hlt)=z)):=by
   refine ⟨?_,?_,?_⟩ <;> (intro e;subst e;rfl)
  generalize [x,y,z][k]=v at *
  by_cases hz:v=0
  case pos =>
   subst hz
   go_wp2
   go_round
   case rel=>exact ⟨k + 1,by omega,by go_num,(fun _=>by
    by_cases e:k=0
    ·exact (HZ.out.1 e).symm
    ·exact H1.out (by omega)),(fun _=>by
    by_cases e:k=1
    ·exact (HZ.out.2.1 e).symm
    ·exact H2.out (by omega)),fun _=>(HZ.out.2.2 (by omega)).symm⟩
   case measure=>simp [intOf];omega
  case neg =>
   have t1:(v == 0)=false:=by simpa using hz
   have HN:=Lib.hid hz
   clear hz
   go_wp2
   go_ret
   refine ⟨ret_int ?_,rfl⟩
   by_cases e:k=0
   ·have e1:=HZ.out.1 e
    rw [HR.out,← e1,if_neg HN.out]
   ·by_cases e2:k=1
    ·have e1:=HZ.out.2.1 e2
     rw [HR.out,if_pos (H1.out (by omega)),← e1,if_neg HN.out]
    ·rw [HR.out,if_pos (H1.out (by omega)),if_pos (H2.out (by omega)),HZ.out.2.2 (by omega)]
def cmpC (x y:Cal):Int:=or3 (Lib.compareInt x.f y.f) (Lib.compareInt x.i y.i) (Lib.compareInt x.c y.c)
set_option maxHeartbeats 4000000 in
theorem cloC (x y:Cal) (W:World) :
 Calls Tryz.prog 64 #[.agg #[.int .i64 x.f,.int .i64 x.i,.int .i64 x.c],.agg #[.int .i64 y.f,.int .i64 y.i,.int .i64 y.c]] W (fun e w'=>e = .returned (.int .i64 (cmpC x y))∧∃ q os,w' = grow (W.drewN q) os):=by
 obtain ⟨x1,x2,x3⟩:=x
 obtain ⟨y1,y2,y3⟩:=y
 have H1:Hid (∀ w,Calls Tryz.prog 57 #[.int .i64 x1,.int .i64 y1] w (fun e w'=>e = .returned (.int .i64 (Lib.compareInt x1 y1))∧w' = w)):=fun w=>Tryz.cmp_Compare_int x1 y1 w
 have H2:Hid (∀ w,Calls Tryz.prog 57 #[.int .i64 x2,.int .i64 y2] w (fun e w'=>e = .returned (.int .i64 (Lib.compareInt x2 y2))∧w' = w)):=fun w=>Tryz.cmp_Compare_int x2 y2 w
 have H3:Hid (∀ w,Calls Tryz.prog 57 #[.int .i64 x3,.int .i64 y3] w (fun e w'=>e = .returned (.int .i64 (Lib.compareInt x3 y3))∧w' = w)):=fun w=>Tryz.cmp_Compare_int x3 y3 w
 have HR:Hid (cmpC ⟨x1,x2,x3⟩ ⟨y1,y2,y3⟩=or3 (Lib.compareInt x1 y1) (Lib.compareInt x2 y2) (Lib.compareInt x3 y3)):=rfl
 generalize cmpC ⟨x1,x2,x3⟩ ⟨y1,y2,y3⟩=r at *
 generalize Lib.compareInt x1 y1=r1 at *
 generalize Lib.compareInt x2 y2=r2 at *
 generalize Lib.compareInt x3 y3=r3 at *
 have HO:Hid (∀ (a:Option Addr) (c:Nat) (w1:World),IntsAt w1 a [r1,r2,r3]→Calls Tryz.prog 56 #[.slice a 3 c] w1 (Same w1 (.int .i64 r))):=fun a c w1 h=>by rw [HR.out];exact cmpOr3 r1 r2 r3 a c w1 h
 clear HR
 have HX:Hid (Blk ((W.alloc (.cells #[.int .i64 x1,.int .i64 x2,.int .i64 x3] 51)).alloc (.cells #[.int .i64 y1,.int .i64 y2,.int .i64 y3] 51)) W.heap.size #[.int .i64 x1,.int .i64 x2,.int .i64 x3] 51):=(blk_new ..).below (one_below ..)
 have HY:Hid (Blk ((W.alloc (.cells #[.int .i64 x1,.int .i64 x2,.int .i64 x3] 51)).alloc (.cells #[.int .i64 y1,.int .i64 y2,.int .i64 y3] 51)) (W.heap.size + 1) #[.int .i64 y1,.int .i64 y2,.int .i64 y3] 51):=blk_new2 ..
 have HG:Hid (∃ os,(W.alloc (.cells #[.int .i64 x1,.int .i64 x2,.int .i64 x3] 51)).alloc (.cells #[.int .i64 y1,.int .i64 y2,.int .i64 y3] 51)=grow W os):=⟨_,by rw [alloc_eq_grow,alloc_eq_grow,grow_grow]⟩
 go_enter Tryz.func64,Tryz.ntmps64
 go_upto_region 1 with (fail)
 generalize (W.alloc _).alloc _=W1 at *
 have k0:∀ o:GR W1,o.u.cell? ⟨W.heap.size,0,none⟩=some (.int .i64 x1):=fun o=>(HX.out.below o.below).cell 0 (by simp)
 have k1:∀ o:GR W1,o.u.cell? ⟨W.heap.size,1,none⟩=some (.int .i64 x2):=fun o=>(HX.out.below o.below).cell 1 (by simp)
 have k2:∀ o:GR W1,o.u.cell? ⟨W.heap.size,2,none⟩=some (.int .i64 x3):=fun o=>(HX.out.below o.below).cell 2 (by simp)
 have k3:∀ o:GR W1,o.u.cell? ⟨W.heap.size + 1,0,none⟩=some (.int .i64 y1):=fun o=>(HY.out.below o.below).cell 0 (by simp)
 have k4:∀ o:GR W1,o.u.cell? ⟨W.heap.size + 1,1,none⟩=some (.int .i64 y2):=fun o=>(HY.out.below o.below).cell 1 (by simp)
 have k5:∀ o:GR W1,o.u.cell? ⟨W.heap.size + 1,2,none⟩=some (.int .i64 y3):=fun o=>(HY.out.below o.below).cell 2 (by simp)
 have hcur:∃ q os,W1.drew=grow (W1.drewN q) os:=⟨1,#[],by rw [grow_empty];rfl⟩
 have hne:Nonempty (GR W1):=⟨⟨_,hcur⟩⟩
 refine wp_region_Y (fun w'=>∃ o:GR W1,w' = o.u) (by kernel_rfl) ?_
 change wpAnyY _ _ _ _ _ _ _ _ W1.drew
 refine wpAnyY_take 0 rfl (by kernel_rfl) (fun _ _ _ _ h=>h) ⟨⟨_,hcur⟩,rfl⟩ (fun K hK=>?_);go_simp;refine hK _ ?_;clear hK K
 refine wpAnyY_take 1 rfl (by kernel_rfl) (fun _ _ _ _ h=>h) ⟨⟨_,hcur⟩,rfl⟩ (fun K hK=>?_);go_simp;refine hK _ ?_;clear hK K
 refine wpAnyY_take 2 rfl (by kernel_rfl) (fun _ _ _ _ h=>h) ⟨⟨_,hcur⟩,rfl⟩ (fun K hK=>?_);go_simp;refine hK _ ?_;clear hK K
 refine wpAnyY_take 3 rfl (by kernel_rfl) (fun _ _ _ _ h=>h) ⟨⟨_,hcur⟩,rfl⟩ (fun K hK=>?_);go_simp;refine hK _ ?_;clear hK K
 refine wpAnyY_take 5 rfl (by kernel_rfl) (fun _ _ _ _ h=>h) ⟨⟨_,hcur⟩,rfl⟩ (fun K hK=>?_);go_simp;refine hK _ ?_;clear hK K
 refine wpAnyY_take 6 rfl (by kernel_rfl) (fun _ _ _ _ h=>h) ⟨⟨_,hcur⟩,rfl⟩ (fun K hK=>?_);go_simp;refine hK _ ?_;clear hK K
 refine wpAnyY_take 7 rfl (by kernel_rfl) (fun _ _ _ _ h=>h) ⟨⟨_,hcur⟩,rfl⟩ (fun K hK=>?_);go_simp;refine hK _ ?_;clear hK K
 refine wpAnyY_take 8 rfl (by kernel_rfl) (fun _ _ _ _ h=>h) ⟨⟨_,hcur⟩,rfl⟩ (fun K hK=>?_);go_simp;refine hK _ ?_;clear hK K
 refine wpAnyY_take 10 rfl (by kernel_rfl) (fun _ _ _ _ h=>h) ⟨⟨_,hcur⟩,rfl⟩ (fun K hK=>?_);go_simp;refine hK _ ?_;clear hK K
 refine wpAnyY_take 11 rfl (by kernel_rfl) (fun _ _ _ _ h=>h) ⟨⟨_,hcur⟩,rfl⟩ (fun K hK=>?_);go_simp;refine hK _ ?_;clear hK K
 refine wpAnyY_take 12 rfl (by kernel_rfl) (fun _ _ _ _ h=>h) ⟨⟨_,hcur⟩,rfl⟩ (fun K hK=>?_);go_simp;refine hK _ ?_;clear hK K
 refine wpAnyY_take 13 rfl (by kernel_rfl) (fun _ _ _ _ h=>h) ⟨⟨_,hcur⟩,rfl⟩ (fun K hK=>?_);go_simp;refine hK _ ?_;clear hK K
 refine wpAnyY_one 4 rfl (by kernel_rfl) ?_
 go_wp2_with fail
 refine (H1.out _).mono ?_
 rintro e w2 ⟨rfl,rfl⟩
 go_wp2
 refine ⟨⟨⟨_,hcur⟩,rfl⟩,?_⟩
 refine wpAnyY_one 9 rfl (by kernel_rfl) ?_
 go_wp2_with fail
 refine (H2.out _).mono ?_
 rintro e w2 ⟨rfl,rfl⟩
 go_wp2
 refine ⟨⟨⟨_,hcur⟩,rfl⟩,?_⟩
 refine wpAnyY_one 14 rfl (by kernel_rfl) ?_
 go_wp2_with fail
 refine (H3.out _).mono ?_
 rintro e w2 ⟨rfl,rfl⟩
 go_wp2
 refine ⟨⟨⟨_,hcur⟩,rfl⟩,?_⟩
 refine wpAnyY_one 15 rfl (by kernel_rfl) ?_
 go_wp2
 have hcur2:∃ q os,(W1.alloc (.cells #[.int .i64 r1,.int .i64 r2,.int .i64 r3] 3)).drew=grow (W1.drewN q) os:=⟨1,_,by rw [alloc_eq_grow];rfl⟩
 refine ⟨⟨⟨_,hcur2⟩,rfl⟩,?_⟩
 refine wpAnyY_one 16 rfl (by kernel_rfl) ?_
 go_wp2_with fail
 refine (HO.out (some ⟨W1.heap.size,0,none⟩) 3 _ ((ints_new3 W1 r1 r2 r3).below ((Go.RowKit.Below.refl _ _).drew))).mono ?_
 rintro e w2 ⟨rfl,rfl⟩
 go_wp2
 refine ⟨⟨⟨_,hcur2⟩,rfl⟩,?_⟩
 refine wpAnyY_one 17 rfl (by kernel_rfl) ?_
 go_wp2
 refine ⟨⟨⟨_,hcur2⟩,rfl⟩,?_⟩
 refine wpAnyY_done (by kernel_rfl) ?_ _
 go_wp2
 go_ret
 refine ⟨rfl,?_⟩
 obtain ⟨os,hos⟩:=HG.out
 exact ⟨1,_,by rw [hos,alloc_eq_grow,grow_grow];rfl⟩
-- the order
theorem or3_lt (x y:Cal):ltOf cmpC x y=true ↔ ltC x y:=by
 unfold ltOf cmpC or3 ltC Lib.compareInt
 simp only [decide_eq_true_eq]
 by_cases h1:x.f < y.f
 ·simp [h1]
 ·by_cases h2:y.f < x.f
  ·have h3:¬ x.f=y.f:=by omega
   simp [h1,h2,h3]
  ·have h3:x.f=y.f:=by omega
   by_cases h4:x.i < y.i
   ·simp [h3,h4]
   ·by_cases h5:y.i < x.i
    ·have h6:¬ x.i=y.i:=by omega
     simp [h3,h4,h5,h6]
    ·have h6:x.i=y.i:=by omega
     by_cases h7:x.c < y.c
     ·simp [h3,h6,h7]
     ·by_cases h8:y.c < x.c
      ·simp [h3,h6,h7,h8]
      ·simp [h3,h6,h7,h8]
theorem cmpC_nlt (x y:Cal):ltOf cmpC x y=false ↔ ¬ ltC x y:=by
 rw [← or3_lt]
 simp
theorem swoC:SWO (ltOf cmpC) where
 irrefl x:=(cmpC_nlt _ _).2 (ltC_irrefl x)
 trans x y z h1 h2:=(or3_lt _ _).2 (ltC_trans _ _ _ ((or3_lt _ _).1 h1) ((or3_lt _ _).1 h2))
 ntrans x y z h1 h2:=by
  rw [cmpC_nlt] at *
  unfold ltC at *
  omega
theorem totC (x y:Cal) (h1:ltOf cmpC x y=false) (h2:ltOf cmpC y x=false):x=y:=by
 rw [cmpC_nlt] at *
 unfold ltC at *
 exact cal_ext (by omega) (by omega) (by omega)
def sortC (L:List Cal):List Cal:=L.mergeSort fun x y=>!(ltOf cmpC) y x
theorem sortC_perm (L:List Cal):(sortC L).Perm L:=List.mergeSort_perm _ _
theorem sortC_len (L:List Cal):(sortC L).length=L.length:=(sortC_perm L).length_eq
theorem sortC_pw (L:List Cal):(sortC L).Pairwise (fun a b=>¬ ltC b a):=by
 have h:=List.pairwise_mergeSort (le:=fun (x y:Cal)=>!(ltOf cmpC) y x) (fun a b c h1 h2=>by
  simp only [Bool.not_eq_true',cmpC_nlt] at *
  unfold ltC at *
  omega) (fun a b=>by
  simp only [Bool.or_eq_true,Bool.not_eq_true',cmpC_nlt]
  unfold ltC
  omega) L
 exact h.imp fun h=>by simpa [cmpC_nlt] using h
theorem sortC_lt {L:List Cal} (hn:L.Nodup):(sortC L).Pairwise ltC:=by
 have hn2:(sortC L).Nodup:=(sortC_perm L).nodup_iff.2 hn
 have:=List.pairwise_and_iff.2 ⟨sortC_pw L,hn2⟩
 exact this.imp (fun h=>ltC_total h.1 (Ne.symm h.2))
instance:Inhabited Cal:=⟨⟨0,0,0⟩⟩
theorem flatK_C (L:List Cal):flatK encC 3 L.toArray=(flatC L).toArray:=by
 refine ext_get! (by simp [flatC_len]) fun t ht=>?_
 have ht':t < L.toArray.size * 3:=by simpa using ht
 rw [get_flatK _ _ _ t ht']
 have h1:t / 3 < L.length:=by simp at ht';omega
 have h2:=flatC_get L (t / 3) (t % 3) h1 (Nat.mod_lt _ (by omega))
 have h3:t / 3 * 3 + t % 3=t:=by omega
 rw [h3] at h2
 have h4:L.toArray[t / 3]! = L[t / 3]:=by simp [h1]
 rw [h4,List.getElem!_toArray,List.getElem!_eq_getElem?_getD,List.getElem!_eq_getElem?_getD,h2]
set_option maxHeartbeats 1000000 in
theorem sortC_own (L:List Cal) (a:Option Addr) (c base:Nat) (w:World) (own:w.ownsRow base 51 3 (.slice a L.length c) L.length (flatC L)) (hl:L.length≤1000000) :
 Calls Tryz.prog 63 #[.slice a L.length c,.func (.func 64) #[] #[]] w (fun e w'=>e = .returned (.tuple #[])∧w.grownBy w' (Value.slice a L.length c).ownBlock∧w'.ownsRow base 51 3 (.slice a L.length c) L.length (flatC (sortC L))):=by
 have own0:=own
 obtain ⟨hln,hown⟩:=own
 rcases hown with ⟨e,h0⟩ | ⟨g,cap,cur,e,hbase,hh,hn,hcap,hsz,ht⟩
 ·have hl0:L = []:=List.eq_nil_of_length_eq_zero h0
  subst hl0
  cases e
  have h0:=AnyF.slices_SortFunc_none Tryz.sortCal none 0 (.func (.func 64) #[] #[]) w
  change Calls Tryz.prog 63 _ _ _ at h0
  refine h0.mono ?_
  rintro e w' ⟨rfl,rfl⟩
  refine ⟨rfl,World.grownBy.refl _ _,?_⟩
  have e0:sortC [] = []:=by simp [sortC]
  rw [e0]
  exact own0
 ·cases e
  have hg:g < w.heap.size:=(Array.getElem?_eq_some_iff.1 hh).1
  have eg:∀ args w,(callFunc 64 args).run Tryz.prog w = .ok (.enter 64 args) w:=enters_of Tryz.func64 (by kernel_rfl) rfl
  have hH:HoldsK encC 3 w g 0 L.toArray:=by
   unfold HoldsK
   rw [flatK_C]
   intro j hj
   have hj':j < (flatC L).length:=by simpa using hj
   refine ⟨?_,by simp [World.frozen?,hh]⟩
   have c:=own0.cells (g:=g) rfl j (flatC L)[j] (List.getElem?_eq_getElem hj')
   rw [addr_add] at c
   rw [c]
   simp [hj']
  have h:=AnyQ.slices_SortFunc_total Tryz.sortCal 3 Tryz.isAgg51 Tryz.sizeOf51 encC (fun _=>rfl) (fun x v hv=>by simp [encC] at hv;rcases hv with rfl | rfl | rfl <;> rfl) cmpC swoC 64 #[] g 0 c L.toArray w eg (fun _ _ _ _ x y=>cloC x y _) hH hg (by simp;omega) totC
  change Calls Tryz.prog 63 _ _ _ at h
  have e1:L.toArray.size=L.length:=by simp
  rw [e1] at h
  refine h.mono ?_
  rintro e w' ⟨rfl,n,os,rfl⟩
  have e2:sortWorldK encC 3 w g 0 n (L.toArray.toList.mergeSort fun x y=>!(ltOf cmpC) y x).toArray os=grow (putRow id (Sort.ahead w n) g 0 (flatC (sortC L)).toArray) os:=by
   unfold sortWorldK putRowK
   rw [flatK_C]
   rfl
  rw [e2]
  refine ⟨rfl,grownBy_put _,by rw [flatC_len,sortC_len],.inr ⟨g,c,_,rfl,hbase,heap_put _ hh,hn,hcap,by simp [putCells,hsz],?_⟩⟩
  have e3:L.length * 3=(flatC (sortC L)).length:=by rw [flatC_len,sortC_len]
  rw [e3]
  refine take_put cur _ ?_
  rw [flatC_len,sortC_len,hsz]
  omega
end Go.Proofs.YtkbmnfijeknenaaGreatDoor
namespace Go.Proofs.YtkbmnfijeknenaaGreatDoor
open Go.RowKit Go.Unit0 Go.AM

theorem RM.init (u:Unt) (ha:Option Addr) (hc:Nat) (fa:Option Addr) (fc:Nat) (w:World) :
 RM u ha hc fa fc ⟨w.heap.size + 5,w.heap.size,w.heap.size + 1,w.heap.size + 2,w.heap.size + 3,w.heap.size + 4⟩ (fun _=>0) RpS.none none 0 w
  ((((((w.alloc (.map #[] 0)).alloc (.map #[] 0)).alloc (.map #[] 0)).alloc (.map #[] 0)).alloc (.map #[] 0)).alloc (.cells #[.slice ha u.h.length hc,.slice fa u.fs.length fc,.int .i64 u.main,.map (some w.heap.size),.slice none 0 0,.map (some (w.heap.size + 1)),.map (some (w.heap.size + 2)),.map (some (w.heap.size + 3)),.map (some (w.heap.size + 4))] 119)):=by
 have s1:(w.alloc (.map #[] 0)).heap.size=w.heap.size + 1:=by simp
 have s2:((w.alloc (.map #[] 0)).alloc (.map #[] 0)).heap.size=w.heap.size + 2:=by simp
 have s3:(((w.alloc (.map #[] 0)).alloc (.map #[] 0)).alloc (.map #[] 0)).heap.size=w.heap.size + 3:=by simp
 have s4:((((w.alloc (.map #[] 0)).alloc (.map #[] 0)).alloc (.map #[] 0)).alloc (.map #[] 0)).heap.size=w.heap.size + 4:=by simp
 have s5:(((((w.alloc (.map #[] 0)).alloc (.map #[] 0)).alloc (.map #[] 0)).alloc (.map #[] 0)).alloc (.map #[] 0)).heap.size=w.heap.size + 5:=by simp
 have o:=fun (w:World) (ob:Obj)=>one_below w ob
 have m1:=MapF.new w (Value.int .i64)
 have m2:=MapF.new (w.alloc (.map #[] 0)) Value.string
 have m3:=MapF.new ((w.alloc (.map #[] 0)).alloc (.map #[] 0)) encM
 have m4:=MapF.new (((w.alloc (.map #[] 0)).alloc (.map #[] 0)).alloc (.map #[] 0)) encP
 have m5:=MapF.new ((((w.alloc (.map #[] 0)).alloc (.map #[] 0)).alloc (.map #[] 0)).alloc (.map #[] 0)) encK
 rw [s1] at m2
 rw [s2] at m3
 rw [s3] at m4
 rw [s4] at m5
 refine ⟨?_,?_,?_,⟨0,?_⟩,⟨0,?_⟩,⟨0,?_⟩,⟨fun _=>none,⟨0,?_⟩,fun e=>⟨fun h=>(by cases h),fun h=>h.elim⟩⟩,fun m L e=>(by cases e),World.ownsRow_nil _ _ _ _,⟨Nat.le_refl _,?_,?_,?_,?_,?_⟩,fun m e=>(by cases e),fun m m' e=>(by cases e)⟩
 ·exact (((((o _ _).alloc (by simp) _).alloc (by simp <;> omega) _).alloc (by simp <;> omega) _).alloc (by simp <;> omega) _).alloc (by simp <;> omega) _
 ·have:=blk_new (((((w.alloc (.map #[] 0)).alloc (.map #[] 0)).alloc (.map #[] 0)).alloc (.map #[] 0)).alloc (.map #[] 0)) #[.slice ha u.h.length hc,.slice fa u.fs.length fc,.int .i64 u.main,.map (some w.heap.size),.slice none 0 0,.map (some (w.heap.size + 1)),.map (some (w.heap.size + 2)),.map (some (w.heap.size + 3)),.map (some (w.heap.size + 4))] 119
  rw [s5] at this
  exact this
 ·rw [show setF RpS.none.S=fun _=>none from setF_nil.symm]
  exact ((((m1.below (o _ _)).below (o _ _)).below (o _ _)).below (o _ _)).below (o _ _)
 ·rw [show setT RpS.none.C=fun _=>none from setT_nil.symm]
  exact (((m2.below (o _ _)).below (o _ _)).below (o _ _)).below (o _ _)
 ·exact ((m3.below (o _ _)).below (o _ _)).below (o _ _)
 ·exact (m4.below (o _ _)).below (o _ _)
 ·exact m5.below (o _ _)
 ·exact Nat.lt_succ_self _
 ·exact Nat.lt_succ_self _
 ·exact Nat.lt_succ_self _
 ·exact Nat.lt_succ_self _
 ·exact Nat.lt_succ_self _
section
variable {u:Unt} {ha:Option Addr} {hc:Nat} {fa:Option Addr} {fc:Nat} {b:RB} {ig:Str × Str→Nat} {st:RpS} {oa:Option Addr} {oc:Nat} {w wr w':World} {f q:Int} {X:Str × Str→Str→Prop}
theorem RInv.slen (k:RInv u f q X st):st.S.length≤u.fs.length:=nodup_len _ _ k.nd (fun x hx=>by
 have:=(k.rs _ hx).lt
 exact ⟨x.toNat,by omega,by omega⟩)
theorem RM.count (k:RM u ha hc fa fc b ig st oa oc w wr) (iv:RInv u f q X st):mapN wr b.gr=st.S.length:=by
 obtain ⟨h1,ks,h2,h3,h4⟩:=k.mr.mapN
 rw [h4]
 exact Nat.le_antisymm (nodup_sub_len h2 (fun x hx=>(setF_some _ _).1 ((h3 x).1 hx))) (nodup_sub_len iv.nd (fun x hx=>(h3 x).2 ((setF_some _ _).2 hx)))
def todoN (w:World) (g:Nat):Nat:=match w.cell? ⟨g,4,none⟩ with
 | some v=>slLen v
 | none=>0
theorem RM.todo (k:RM u ha hc fa fc b ig st oa oc w wr):todoN wr b.R=st.T.length:=by
 unfold todoN
 rw [k.cells.2.2.2.2.1]
 rfl
theorem RM.unit {w0:World} (h:ClssAt w0 ha u.h) (hf:FncsAt w0 fa u.fs) (k:RM u ha hc fa fc b ig st oa oc (w0.alloc (unC u ha hc fa fc)) wr):UB u ha hc fa fc w0 wr:=(UB.start (hc:=hc) (fc:=fc) h hf).below k.hb
theorem RM.iter (k:RM u ha hc fa fc b ig st oa oc w wr) {κ:Type} [DecidableEq κ] {enc:κ→Value} {F:κ→Option Value} {n:Nat} {left:List (κ × Value)} {ri gk:Nat} (it:IterF wr ri gk enc F n left) (hg:wr.grownBy w' (some ri)) (hlo:w.heap.size≤ri):RM u ha hc fa fc b ig st oa oc w w':=by
 obtain ⟨E,e1,e2⟩:=k.me
 have hne:∀ {κ':Type} [DecidableEq κ'] {g':Nat} {enc':κ'→Value} {F':κ'→Option Value},MapE wr g' enc' F'→MapE w' g' enc' F':=fun ⟨n',h⟩=>⟨n',h.grown hg (fun e=>iter_mapF it h (by simpa using e.symm))⟩
 exact ⟨k.hb.grown hg k.hb.size (fun q hq=>by cases hq;exact hlo),k.rb.grown hg (blk_iter k.rb it),k.mr.grown hg (fun e=>iter_mapF it k.mr (by simpa using e.symm)),hne k.mc,hne k.mt,hne k.mv,⟨E,hne e1,e2⟩,fun m L e=>hne (k.mi m L e),k.ow.kept hg (.inr (fun e=>owns_iter k.ow it e.symm)),k.od,k.ih,k.ij⟩
end
theorem IterF.kept {κ κ':Type} [DecidableEq κ] [DecidableEq κ'] {w w':World} {r g n:Nat} {enc:κ→Value} {F:κ→Option Value} {left:List (κ × Value)} (h:IterF w r g enc F n left) {g' m:Nat} {enc':κ'→Value} {F':κ'→Option Value} (hm:MapF w g' enc' F' m) (hg:w.grownBy w' (some g')) (hne:g ≠ g'):IterF w' r g enc F n left :=
 h.grown hg (by simpa using hne) (by have:=iter_mapF h hm;simpa using this)
theorem IterF.apart {κ κ':Type} [DecidableEq κ] [DecidableEq κ'] {w w':World} {r g n:Nat} {enc:κ→Value} {F:κ→Option Value} {left:List (κ × Value)} (h:IterF w r g enc F n left) {r' g' m:Nat} {enc':κ'→Value} {F':κ'→Option Value} {left':List (κ' × Value)} (hm:IterF w r' g' enc' F' m left') (hg:w.grownBy w' (some r')) (hne:r ≠ r'):IterF w' r g enc F n left :=
 h.grown hg (by have:=iter_mapF hm h.map;simpa using this.symm) (by simpa using hne)
def VE (st:RpS) (e:Cal):Prop:=∃ m L,st.vt (e.f,e.i)=some m∧st.tg m=some L∧e.c ∈ L
def RpS.edg (st:RpS) (ed:Cal→Prop):RpS:={ st with ed:=ed }
def calK (e:Cky):Cal:=⟨e.1,e.2.1,e.2.2⟩
def keyK (e:Cal):Cky:=(e.f,e.i,e.c)
theorem calK_inj {a b:Cky} (h:calK a=calK b):a=b:=by
 unfold calK at h
 simp only [Cal.mk.injEq] at h
 exact Prod.ext h.1 (Prod.ext h.2.1 h.2.2)
theorem edg_in {u:Unt} {P:Int→Prop} {e:Cal} (k:EdgS u P e):e ∈ edgU u u.fs.length:=by
 have ht:=k.trg
 obtain ⟨h1,x,⟨j,q,hj,hq,e1,e2,rfl⟩,h3⟩:=k
 unfold edgU
 rw [List.mem_flatMap]
 refine ⟨j,List.mem_range.2 hj,?_⟩
 rw [List.getElem?_eq_getElem hj]
 unfold edgF
 rw [List.mem_flatMap]
 refine ⟨q,List.mem_range.2 hq,?_⟩
 unfold edgI
 rw [List.mem_map]
 rw [e1,e2] at ht
 exact ⟨e.c,((trgL_spec u j q).2 _).2 ht,cal_ext e1.symm e2.symm rfl⟩
theorem keys_len {u:Unt} {P:Int→Prop} {l:List Cky} (hn:l.Nodup) (h:∀ e ∈ l,EdgS u P (calK e)):l.length≤sumC u.fs * u.fs.length:=by
 have h1:=nodup_sub_len (m:=(edgU u u.fs.length).map keyK) hn (fun e he=>List.mem_map.2 ⟨calK e,edg_in (h e he),rfl⟩)
 rw [List.length_map] at h1
 have h2:=edgU_len (u:=u) (Nat.le_refl u.fs.length)
 rw [List.take_length] at h2
 omega
theorem rapE_sorted {u:Unt} {l:List Cky} (hn:l.Nodup) (h:∀ e,e ∈ l ↔ EdgS u (Rap u) (calK e)):RapE u (sortC (l.map calK)):=by
 refine ⟨sortC_lt ?_,fun e=>?_⟩
 ·unfold List.Nodup at *
  rw [List.pairwise_map]
  exact hn.imp (fun h e=>h (calK_inj e))
 ·rw [(sortC_perm _).mem_iff,List.mem_map]
  constructor
  ·rintro ⟨k,hk,rfl⟩;exact (h k).1 hk
  ·intro he
   exact ⟨keyK e,(h _).2 he,rfl⟩
def RapPost (u:Unt) (w:World) (e:Ending) (w':World):Prop :=
 Below w.heap.size w w'∧∃ (F:List Int) (E:List Cal) (a:Option Addr) (c:Nat) (ea:Option Addr) (ec:Nat),e = .returned (.tuple #[.slice a F.length c,.slice ea E.length ec])∧RapF u F∧RapE u E∧IntsAt w' a F∧CalsAt w' ea E
end Go.Proofs.YtkbmnfijeknenaaGreatDoor
