/-
  Edges compared by the program.
  Edges of one's own sorted by the library; the program's graph, plain part.
  The program's graph of call edges.
  The program's reached functions: plain part, memory.
-/
import Derived.Test.YtkbmnfijeknenaaGreatDoorGA
import Derived.Test.YtkbmnfijeknenaaGreatDoorH0
import Derived.Test.YtkbmnfijeknenaaGreatDoorShelf
import Derived.Shelf.SlSortCmp.NoneTotal
import Derived.Test.YtkbmnfijeknenaaGreatDoorSortf
import Derived.Test.YtkbmnfijeknenaaGreatDoorHX
import Derived.Test.YtkbmnfijeknenaaGreatDoorRG
import Derived.Test.YtkbmnfijeknenaaGreatDoorKA
namespace Go.Proofs.YtkbmnfijeknenaaGreatDoor
open Go.RowKit Go.Unit0 Go.AM Go.Sort

theorem ints_new2 (w:World) (i j:Int):IntsAt (w.alloc (.cells #[.int .i64 i,.int .i64 j] 3)) (some ⟨w.heap.size,0,none⟩) [i,j]:=by
 intro k hk
 have hk2:k < 2:=by simpa using hk
 have hb:=(blk_new w #[.int .i64 i,.int .i64 j] 3).cell k (by simpa using hk2)
 refine ⟨_,_,rfl,?_⟩
 rw [Nat.zero_add,hb]
 rcases (show k=0 ∨ k=1 by omega) with rfl | rfl <;> rfl
set_option maxHeartbeats 1000000 in
theorem cmpOr (x y:Int) (a:Option Addr) (c:Nat) (w:World) (h:IntsAt w a [x,y]) :
 Calls Tryz.prog 56 #[.slice a 2 c] w (Same w (.int .i64 (if x=0 then y else x))):=by
 have HL:=Lib.hid h
 clear h
 obtain ⟨r,hr⟩:∃ r,r=(if x=0 then y else x):=⟨_,rfl⟩
 rw [← hr]
 have HR:=Lib.hid hr
 clear hr
 go_enter Tryz.func56,Tryz.ntmps56
 go_wp2
 go_loop [8] (fun i=>∃ k:Nat,k≤2∧i = .int .i64 k∧Hid (1≤k→x=0)∧Hid (2≤k→y=0)) (fun i=>2 - (intOf i).toNat)
 case atStart=>exact ⟨0,by omega,rfl,fun h=>by omega,fun h=>by omega⟩
 case round =>
  obtain ⟨k,hk,rfl,H1,H2⟩:=hrel
  by_cases hlt:k < 2
  case neg =>
   go_wp2
   go_ret
   exact ⟨ret_int (by rw [HR.out,if_pos (H1.out (by omega)),H2.out (by omega)]),rfl⟩
  obtain ⟨b,off,he,hc⟩:=HL.out k (by simpa using hlt)
  subst he
  have HZ:Hid ((k=0→[x,y][k]'(by simpa using hlt)=x)∧(k=1→[x,y][k]'(by simpa using hlt)=y)):=by
   constructor <;> (intro e;subst e;rfl)
  generalize [x,y][k]=z at *
  by_cases hz:z=0
  case pos =>
   subst hz
   go_wp2
   go_round
   case rel=>exact ⟨k + 1,by omega,by go_num,(fun _=>by
    by_cases e:k=0
    ·exact (HZ.out.1 e).symm
    ·exact H1.out (by omega)),fun _=>(HZ.out.2 (by omega)).symm⟩
   case measure=>simp [intOf];omega
  case neg =>
   have t1:(z == 0)=false:=by simpa using hz
   have HN:=Lib.hid hz
   clear hz
   go_wp2
   go_ret
   refine ⟨ret_int ?_,rfl⟩
   by_cases e:k=0
   ·have e1:=HZ.out.1 e
    rw [HR.out,← e1,if_neg HN.out]
   ·rw [HR.out,if_pos (H1.out (by omega)),HZ.out.2 (by omega)]
def cmpE (x y:Edg):Int:=if Lib.compareInt x.1 y.1=0 then Lib.compareInt x.2 y.2 else Lib.compareInt x.1 y.1
structure GR (W:World) where
 u:World
 h:∃ q os,u=grow (W.drewN q) os
theorem GR.below {W:World} (o:GR W):Go.RowKit.Below W.heap.size W o.u:=by
 obtain ⟨q,os,e⟩:=o.h
 rw [e]
 exact ⟨rfl,rfl,rfl,by simp [grow],fun k hk=>heap_grow_old _ _ (by simpa using hk)⟩
set_option maxHeartbeats 2000000 in
theorem cloE (x y:Edg) (W:World) :
 Calls Tryz.prog 55 #[.agg #[.int .i64 x.1,.int .i64 x.2],.agg #[.int .i64 y.1,.int .i64 y.2]] W (fun e w'=>e = .returned (.int .i64 (cmpE x y))∧∃ q os,w' = grow (W.drewN q) os):=by
 obtain ⟨x1,x2⟩:=x
 obtain ⟨y1,y2⟩:=y
 have H1:Hid (∀ w,Calls Tryz.prog 57 #[.int .i64 x1,.int .i64 y1] w (fun e w'=>e = .returned (.int .i64 (Lib.compareInt x1 y1))∧w' = w)):=fun w=>Tryz.cmp_Compare_int x1 y1 w
 have H2:Hid (∀ w,Calls Tryz.prog 57 #[.int .i64 x2,.int .i64 y2] w (fun e w'=>e = .returned (.int .i64 (Lib.compareInt x2 y2))∧w' = w)):=fun w=>Tryz.cmp_Compare_int x2 y2 w
 have HR:Hid (cmpE (x1,x2) (y1,y2)=if Lib.compareInt x1 y1=0 then Lib.compareInt x2 y2 else Lib.compareInt x1 y1):=rfl
 generalize cmpE (x1,x2) (y1,y2)=r at *
 generalize Lib.compareInt x1 y1=r1 at *
 generalize Lib.compareInt x2 y2=r2 at *
 have HO:Hid (∀ (a:Option Addr) (c:Nat) (w1:World),IntsAt w1 a [r1,r2]→Calls Tryz.prog 56 #[.slice a 2 c] w1 (Same w1 (.int .i64 r))):=fun a c w1 h=>by rw [HR.out];exact cmpOr r1 r2 a c w1 h
 clear HR
 have HX:Hid (Blk ((W.alloc (.cells #[.int .i64 x1,.int .i64 x2] 42)).alloc (.cells #[.int .i64 y1,.int .i64 y2] 42)) W.heap.size #[.int .i64 x1,.int .i64 x2] 42):=(blk_new ..).below (one_below ..)
 have HY:Hid (Blk ((W.alloc (.cells #[.int .i64 x1,.int .i64 x2] 42)).alloc (.cells #[.int .i64 y1,.int .i64 y2] 42)) (W.heap.size + 1) #[.int .i64 y1,.int .i64 y2] 42):=blk_new2 ..
 have HG:Hid (∃ os,(W.alloc (.cells #[.int .i64 x1,.int .i64 x2] 42)).alloc (.cells #[.int .i64 y1,.int .i64 y2] 42)=grow W os):=⟨_,by rw [alloc_eq_grow,alloc_eq_grow,grow_grow]⟩
 go_enter Tryz.func55,Tryz.ntmps55
 go_upto_region 1 with (fail)
 generalize (W.alloc _).alloc _=W1 at *
 have k0:∀ o:GR W1,o.u.cell? ⟨W.heap.size,0,none⟩=some (.int .i64 x1):=fun o=>(HX.out.below o.below).cell 0 (by simp)
 have k1:∀ o:GR W1,o.u.cell? ⟨W.heap.size,1,none⟩=some (.int .i64 x2):=fun o=>(HX.out.below o.below).cell 1 (by simp)
 have k2:∀ o:GR W1,o.u.cell? ⟨W.heap.size + 1,0,none⟩=some (.int .i64 y1):=fun o=>(HY.out.below o.below).cell 0 (by simp)
 have k3:∀ o:GR W1,o.u.cell? ⟨W.heap.size + 1,1,none⟩=some (.int .i64 y2):=fun o=>(HY.out.below o.below).cell 1 (by simp)
 have hcur:∃ q os,W1.drew=grow (W1.drewN q) os:=⟨1,#[],by rw [grow_empty];rfl⟩
 have hne:Nonempty (GR W1):=⟨⟨_,hcur⟩⟩
 refine wp_region_Y (fun w'=>∃ o:GR W1,w' = o.u) (by kernel_rfl) ?_
 change wpAnyY _ _ _ _ _ _ _ _ W1.drew
 refine wpAnyY_take 0 rfl (by kernel_rfl) (fun _ _ _ _ h=>h) ⟨⟨_,hcur⟩,rfl⟩ (fun K hK=>?_);go_simp;refine hK _ ?_;clear hK K
 refine wpAnyY_take 1 rfl (by kernel_rfl) (fun _ _ _ _ h=>h) ⟨⟨_,hcur⟩,rfl⟩ (fun K hK=>?_);go_simp;refine hK _ ?_;clear hK K
 refine wpAnyY_take 2 rfl (by kernel_rfl) (fun _ _ _ _ h=>h) ⟨⟨_,hcur⟩,rfl⟩ (fun K hK=>?_);go_simp;refine hK _ ?_;clear hK K
 refine wpAnyY_take 3 rfl (by kernel_rfl) (fun _ _ _ _ h=>h) ⟨⟨_,hcur⟩,rfl⟩ (fun K hK=>?_);go_simp;refine hK _ ?_;clear hK K
 refine wpAnyY_take 5 rfl (by kernel_rfl) (fun _ _ _ _ h=>h) ⟨⟨_,hcur⟩,rfl⟩ (fun K hK=>?_);go_simp;refine hK _ ?_;clear hK K
 refine wpAnyY_take 6 rfl (by kernel_rfl) (fun _ _ _ _ h=>h) ⟨⟨_,hcur⟩,rfl⟩ (fun K hK=>?_);go_simp;refine hK _ ?_;clear hK K
 refine wpAnyY_take 7 rfl (by kernel_rfl) (fun _ _ _ _ h=>h) ⟨⟨_,hcur⟩,rfl⟩ (fun K hK=>?_);go_simp;refine hK _ ?_;clear hK K
 refine wpAnyY_take 8 rfl (by kernel_rfl) (fun _ _ _ _ h=>h) ⟨⟨_,hcur⟩,rfl⟩ (fun K hK=>?_);go_simp;refine hK _ ?_;clear hK K
 refine wpAnyY_one 4 rfl (by kernel_rfl) ?_
 go_wp2_with fail
 refine (H1.out _).mono ?_
 rintro e w2 ⟨rfl,rfl⟩
 go_wp2
 refine ⟨⟨⟨_,hcur⟩,rfl⟩,?_⟩
 refine wpAnyY_one 9 rfl (by kernel_rfl) ?_
 go_wp2_with fail
 refine (H2.out _).mono ?_
 rintro e w2 ⟨rfl,rfl⟩
 go_wp2
 refine ⟨⟨⟨_,hcur⟩,rfl⟩,?_⟩
 refine wpAnyY_one 10 rfl (by kernel_rfl) ?_
 go_wp2
 have hcur2:∃ q os,(W1.alloc (.cells #[.int .i64 r1,.int .i64 r2] 3)).drew=grow (W1.drewN q) os:=⟨1,_,by rw [alloc_eq_grow];rfl⟩
 refine ⟨⟨⟨_,hcur2⟩,rfl⟩,?_⟩
 refine wpAnyY_one 11 rfl (by kernel_rfl) ?_
 go_wp2_with fail
 refine (HO.out (some ⟨W1.heap.size,0,none⟩) 2 _ ((ints_new2 W1 r1 r2).below ((Go.RowKit.Below.refl _ _).drew))).mono ?_
 rintro e w2 ⟨rfl,rfl⟩
 go_wp2
 refine ⟨⟨⟨_,hcur2⟩,rfl⟩,?_⟩
 refine wpAnyY_one 12 rfl (by kernel_rfl) ?_
 go_wp2
 refine ⟨⟨⟨_,hcur2⟩,rfl⟩,?_⟩
 refine wpAnyY_done (by kernel_rfl) ?_ _
 go_wp2
 go_ret
 refine ⟨rfl,?_⟩
 obtain ⟨os,hos⟩:=HG.out
 exact ⟨1,_,by rw [hos,alloc_eq_grow,grow_grow];rfl⟩
-- the order
theorem cmpE_lt (x y:Edg):ltOf cmpE x y=true ↔ ltE x y:=by
 unfold ltOf cmpE ltE Lib.compareInt
 simp only [decide_eq_true_eq]
 by_cases h1:x.1 < y.1
 ·simp [h1]
 ·by_cases h2:y.1 < x.1
  ·have h3:¬ x.1=y.1:=by omega
   simp [h1,h2,h3]
  ·have h3:x.1=y.1:=by omega
   by_cases h4:x.2 < y.2
   ·simp [h3,h4]
   ·by_cases h5:y.2 < x.2
    ·simp [h3,h4,h5]
    ·simp [h3,h4,h5]
theorem cmpE_nlt (x y:Edg):ltOf cmpE x y=false ↔ ¬ ltE x y:=by
 rw [← cmpE_lt]
 simp
theorem swoE:SWO (ltOf cmpE) where
 irrefl x:=(cmpE_nlt _ _).2 (ltE_irrefl x)
 trans x y z h1 h2:=(cmpE_lt _ _).2 (ltE_trans _ _ _ ((cmpE_lt _ _).1 h1) ((cmpE_lt _ _).1 h2))
 ntrans x y z h1 h2:=by
  rw [cmpE_nlt] at *
  unfold ltE at *
  omega
theorem totE (x y:Edg) (h1:ltOf cmpE x y=false) (h2:ltOf cmpE y x=false):x=y:=by
 rw [cmpE_nlt] at *
 unfold ltE at *
 exact Prod.ext (by omega) (by omega)
def sortE (L:List Edg):List Edg:=L.mergeSort fun x y=>!(ltOf cmpE) y x
theorem sortE_perm (L:List Edg):(sortE L).Perm L:=List.mergeSort_perm _ _
theorem sortE_len (L:List Edg):(sortE L).length=L.length:=(sortE_perm L).length_eq
theorem sortE_pw (L:List Edg):(sortE L).Pairwise (fun a b=>¬ ltE b a):=by
 have h:=List.pairwise_mergeSort (le:=fun (x y:Edg)=>!(ltOf cmpE) y x) (fun a b c h1 h2=>by
  simp only [Bool.not_eq_true',cmpE_nlt] at *
  unfold ltE at *
  omega) (fun a b=>by
  simp only [Bool.or_eq_true,Bool.not_eq_true',cmpE_nlt]
  unfold ltE
  omega) L
 exact h.imp fun h=>by simpa [cmpE_nlt] using h
-- the row of cells
theorem flatK_E (L:List Edg):flatK encE 2 L.toArray=(flatE L).toArray:=by
 refine ext_get! (by simp [flatE_len]) fun t ht=>?_
 have ht':t < L.toArray.size * 2:=by simpa using ht
 rw [get_flatK _ _ _ t ht']
 have h1:t / 2 < L.length:=by simp at ht';omega
 have h2:=flatE_get L (t / 2) (t % 2) h1 (Nat.mod_lt _ (by omega))
 have h3:t / 2 * 2 + t % 2=t:=by omega
 rw [h3] at h2
 have h4:L.toArray[t / 2]! = L[t / 2]:=by simp [h1]
 rw [h4,List.getElem!_toArray,List.getElem!_eq_getElem?_getD,List.getElem!_eq_getElem?_getD,h2]
end Go.Proofs.YtkbmnfijeknenaaGreatDoor
namespace Go.Proofs.YtkbmnfijeknenaaGreatDoor
open Go.RowKit Go.Unit0 Go.AM Go.Sort

set_option maxHeartbeats 1000000 in
theorem sortE_own (L:List Edg) (a:Option Addr) (c base:Nat) (w:World) (own:w.ownsRow base 42 2 (.slice a L.length c) L.length (flatE L)) (hl:L.length≤1000000) :
 Calls Tryz.prog 54 #[.slice a L.length c,.func (.func 55) #[] #[]] w (fun e w'=>e = .returned (.tuple #[])∧w.grownBy w' (Value.slice a L.length c).ownBlock∧w'.ownsRow base 42 2 (.slice a L.length c) L.length (flatE (sortE L))):=by
 have own0:=own
 obtain ⟨hln,hown⟩:=own
 rcases hown with ⟨e,h0⟩ | ⟨g,cap,cur,e,hbase,hh,hn,hcap,hsz,ht⟩
 ·have hl0:L = []:=List.eq_nil_of_length_eq_zero h0
  subst hl0
  cases e
  have h0:=AnyF.slices_SortFunc_none Tryz.sortEdge none 0 (.func (.func 55) #[] #[]) w
  change Calls Tryz.prog 54 _ _ _ at h0
  refine h0.mono ?_
  rintro e w' ⟨rfl,rfl⟩
  refine ⟨rfl,World.grownBy.refl _ _,?_⟩
  have e0:sortE [] = []:=by simp [sortE]
  rw [e0]
  exact own0
 ·cases e
  have hg:g < w.heap.size:=(Array.getElem?_eq_some_iff.1 hh).1
  have eg:∀ args w,(callFunc 55 args).run Tryz.prog w = .ok (.enter 55 args) w:=enters_of Tryz.func55 (by kernel_rfl) rfl
  have hH:HoldsK encE 2 w g 0 L.toArray:=by
   unfold HoldsK
   rw [flatK_E]
   intro j hj
   have hj':j < (flatE L).length:=by simpa using hj
   refine ⟨?_,by simp [World.frozen?,hh]⟩
   have c:=own0.cells (g:=g) rfl j (flatE L)[j] (List.getElem?_eq_getElem hj')
   rw [addr_add] at c
   rw [c]
   simp [hj']
  have h:=AnyQ.slices_SortFunc_total Tryz.sortEdge 2 Tryz.isAgg42 Tryz.sizeOf42 encE (fun _=>rfl) (fun x v hv=>by simp [encE] at hv;rcases hv with rfl | rfl <;> rfl) cmpE swoE 55 #[] g 0 c L.toArray w eg (fun _ _ _ _ x y=>cloE x y _) hH hg (by simp;omega) totE
  change Calls Tryz.prog 54 _ _ _ at h
  have e1:L.toArray.size=L.length:=by simp
  rw [e1] at h
  refine h.mono ?_
  rintro e w' ⟨rfl,n,os,rfl⟩
  have e2:sortWorldK encE 2 w g 0 n (L.toArray.toList.mergeSort fun x y=>!(ltOf cmpE) y x).toArray os=grow (putRow id (Sort.ahead w n) g 0 (flatE (sortE L)).toArray) os:=by
   unfold sortWorldK putRowK
   rw [flatK_E]
   rfl
  rw [e2]
  refine ⟨rfl,grownBy_put _,by rw [flatE_len,sortE_len],.inr ⟨g,c,_,rfl,hbase,heap_put _ hh,hn,hcap,by simp [putCells,hsz],?_⟩⟩
  have e3:L.length * 2=(flatE (sortE L)).length:=by rw [flatE_len,sortE_len]
  rw [e3]
  refine take_put cur _ ?_
  rw [flatE_len,sortE_len,hsz]
  omega
-- the program's graph
def encEV (e:Edg):Value:=.agg #[.int .i64 e.1,.int .i64 e.2]
theorem keyE:MKey Tryz.prog 42 encEV:=mkey_row (ks:=[.i,.i]) (by kernel_rfl) (fun e=>[KC.i .i64 e.1,KC.i .i64 e.2]) [some (some .i64),some (some .i64)] (fun _=>rfl) (fun a b h=>by
 simp only [List.cons.injEq,KC.i.injEq,and_true,true_and] at h
 exact Prod.ext h.1 h.2) (fun _=>rfl) (fun _=>rfl)
theorem undMEB:Tryz.prog.underlying 104=some (.map 42 4):=by kernel_rfl
theorem storeCal {ops:Array Oper} {rest:List Oper} {o:Oper} {a:Act} {w:World} {Q:Exit→Act→World→Prop} (hgd:o.guard=none) (x y:Operand) (ho:o.op = .store 51 x y)
 (g:Nat) (i j k:Int) (hx:a.eval x = .pointer (some ⟨g,0,none⟩)) (hy:a.eval y = .agg #[.int .i64 i,.int .i64 j,.int .i64 k])
 (old:Array Value) (hg:Blk w g old 51) (hold:old.size=3)
 (h:wpList Tryz.prog ops Q rest (a.put o.dst undef) (w.setRow g #[.int .i64 i,.int .i64 j,.int .i64 k])):wpList Tryz.prog ops Q (o :: rest) a w :=
 wpList_store_row hgd 51 x y ho g _ hx hy 51 old hg (by kernel_rfl) hold (by simp [Value.oneCell']) h
theorem storeEdge {ops:Array Oper} {rest:List Oper} {o:Oper} {a:Act} {w:World} {Q:Exit→Act→World→Prop} (hgd:o.guard=none) (x y:Operand) (ho:o.op = .store 42 x y)
 (g:Nat) (i j:Int) (hx:a.eval x = .pointer (some ⟨g,0,none⟩)) (hy:a.eval y = .agg #[.int .i64 i,.int .i64 j])
 (old:Array Value) (hg:Blk w g old 42) (hold:old.size=2)
 (h:wpList Tryz.prog ops Q rest (a.put o.dst undef) (w.setRow g #[.int .i64 i,.int .i64 j])):wpList Tryz.prog ops Q (o :: rest) a w :=
 wpList_store_row hgd 42 x y ho g _ hx hy 42 old hg (by kernel_rfl) hold (by simp [Value.oneCell']) h
theorem storeGraph {ops:Array Oper} {rest:List Oper} {o:Oper} {a:Act} {w:World} {Q:Exit→Act→World→Prop} (hgd:o.guard=none) (x y:Operand) (ho:o.op = .store 39 x y)
 (g:Nat) (i:Int) (ad:Option Addr) (n c:Nat) (hx:a.eval x = .pointer (some ⟨g,0,none⟩)) (hy:a.eval y = .agg #[.int .i64 i,.slice ad n c])
 (old:Array Value) (hg:Blk w g old 39) (hold:old.size=2)
 (h:wpList Tryz.prog ops Q rest (a.put o.dst undef) (w.setRow g #[.int .i64 i,.slice ad n c])):wpList Tryz.prog ops Q (o :: rest) a w :=
 wpList_store_row hgd 39 x y ho g _ hx hy 39 old hg (by kernel_rfl) hold (by simp [Value.oneCell']) h
def GraphPost (n:Nat) (l:List Cal) (w:World) (e:Ending) (w':World):Prop :=
 Go.RowKit.Below w.heap.size w w'∧∃ (L:List Edg) (a:Option Addr) (c:Nat),e = .returned (.agg #[.int .i64 n,.slice a L.length c])∧GraphL n l L∧w'.ownsRow w.heap.size 42 2 (.slice a L.length c) L.length (flatE L)∧L.length≤1000000
structure GO (u:Unt) (ha:Option Addr) (hc:Nat) (fa:Option Addr) (fc:Nat) (l:List Cal) (w wr:World) (gm k:Nat) (F:Edg→Option Value):Prop where
 ub:UB u ha hc fa fc w wr
 rs:Blk wr (w.heap.size + 1) #[.int .i64 0,.slice none 0 0] 39
 mp:MapF wr gm encEV F k
 gg:w.heap.size + 2≤gm
 ed:∀ e,(F e).isSome=true ↔ edgeIn u.fs.length (l.take k) e
theorem GO.below {u:Unt} {ha:Option Addr} {hc:Nat} {fa:Option Addr} {fc:Nat} {l:List Cal} {w wr w':World} {gm k:Nat} {F:Edg→Option Value} (x:GO u ha hc fa fc l w wr gm k F) (hb:Go.RowKit.Below wr.heap.size wr w'):GO u ha hc fa fc l w w' gm k F :=
 ⟨x.ub.below hb,x.rs.below hb,x.mp.below hb,x.gg,x.ed⟩
theorem edge_t {n:Nat} {l:List Cal} {x:Cal} {F:Edg→Option Value} (h:∀ e,(F e).isSome=true ↔ edgeIn n l e) (hr:rightC n x=true) (v:Value) (e:Edg):((if e=(x.f,x.c) then some v else F e).isSome=true ↔ edgeIn n (l ++ [x]) e):=by
 by_cases he:e=(x.f,x.c)
 ·rw [if_pos he]
  exact ⟨fun _=>⟨x,by simp,hr,he⟩,fun _=>rfl⟩
 ·rw [if_neg he,h e]
  constructor
  ·rintro ⟨c,hc,h1,h2⟩
   exact ⟨c,by simp [hc],h1,h2⟩
  ·rintro ⟨c,hc,h1,h2⟩
   rcases List.mem_append.1 hc with hc | hc
   ·exact ⟨c,hc,h1,h2⟩
   ·rw [List.mem_singleton.1 hc] at h2
    exact absurd h2 he
theorem edge_f {n:Nat} {l:List Cal} {x:Cal} {F:Edg→Option Value} (h:∀ e,(F e).isSome=true ↔ edgeIn n l e) (hr:¬ rightC n x=true) (e:Edg):((F e).isSome=true ↔ edgeIn n (l ++ [x]) e):=by
 rw [h e]
 constructor
 ·rintro ⟨c,hc,h1,h2⟩
  exact ⟨c,by simp [hc],h1,h2⟩
 ·rintro ⟨c,hc,h1,h2⟩
  rcases List.mem_append.1 hc with hc | hc
  ·exact ⟨c,hc,h1,h2⟩
  ·rw [List.mem_singleton.1 hc] at h1
   exact absurd h1 hr
structure GP (u:Unt) (ha:Option Addr) (hc:Nat) (fa:Option Addr) (fc:Nat) (w wr:World) (gb gm ri m:Nat) (F:Edg→Option Value) (left:List (Edg × Value)) (done:List Edg) (oa:Option Addr) (oc:Nat):Prop where
 ub:UB u ha hc fa fc w wr
 rs:Blk wr (w.heap.size + 1) #[.int .i64 0,.slice none 0 0] 39
 gr:Blk wr gb #[.int .i64 u.fs.length,.slice oa done.length oc] 39
 it:IterF wr ri gm encEV F m left
 ow:wr.ownsRow (w.heap.size + 2) 42 2 (.slice oa done.length oc) done.length (flatE done)
 gb:w.heap.size + 2≤gb
 gi:w.heap.size + 2≤ri
 gg:w.heap.size + 2≤gm
theorem GP.below {u:Unt} {ha:Option Addr} {hc:Nat} {fa:Option Addr} {fc:Nat} {w wr w':World} {gb gm ri m:Nat} {F:Edg→Option Value} {left:List (Edg × Value)} {done:List Edg} {oa:Option Addr} {oc:Nat}
 (x:GP u ha hc fa fc w wr gb gm ri m F left done oa oc) (hb:Go.RowKit.Below wr.heap.size wr w'):GP u ha hc fa fc w w' gb gm ri m F left done oa oc :=
 ⟨x.ub.below hb,x.rs.below hb,x.gr.below hb,x.it.below hb,owns_below x.ow hb,x.gb,x.gi,x.gg⟩
end Go.Proofs.YtkbmnfijeknenaaGreatDoor
namespace Go.Proofs.YtkbmnfijeknenaaGreatDoor
open Go.RowKit Go.Unit0 Go.AM

set_option maxRecDepth 100000 in
set_option maxHeartbeats 8000000 in
theorem graphP (u:Unt) (ha:Option Addr) (hc:Nat) (fa:Option Addr) (fc:Nat) (l:List Cal) (la:Option Addr) (lc:Nat) (w:World) (h:ClssAt w ha u.h) (f:FncsAt w fa u.fs) (hl:CalsAt w la l) (hll:l.length≤1000000) :
 Calls Tryz.prog 19 #[unV u ha hc fa fc,.slice la l.length lc] w (GraphPost u.fs.length l w):=by
 have S0:Hid (UB u ha hc fa fc w ((w.alloc (unC u ha hc fa fc)).alloc (.cells #[.int .i64 0,.slice none 0 0] 39))):=(UB.start (hc:=hc) (fc:=fc) h f).below (one_below ..)
 have RS0:Hid (Blk ((w.alloc (unC u ha hc fa fc)).alloc (.cells #[.int .i64 0,.slice none 0 0] 39)) (w.heap.size + 1) #[.int .i64 0,.slice none 0 0] 39):=blk_new2 ..
 have HZ:Hid (((w.alloc (unC u ha hc fa fc)).alloc (.cells #[.int .i64 0,.slice none 0 0] 39)).heap.size=w.heap.size + 2):=by show _=_;simp
 have HL:=Lib.hid hl
 have HH:=Lib.hid h
 have HF:=Lib.hid f
 have HR:=Tryz.results19
 clear h f hl
 unfold unV
 go_enter Tryz.func19,Tryz.ntmps19
 go_upto_region 1 with (fail)
 generalize (w.alloc _).alloc _=W at *
 obtain ⟨z0,z1,z2⟩:=S0.out.cells
 go_wp2_with (refine wpList_makeF rfl 104 rfl undMEB encEV ?_;intro hmp)
 clear z0 z1 z2
 have R0:Hid (GO u ha hc fa fc l w (W.alloc (.map #[] 0)) W.heap.size 0 (fun _=>none)) :=
  ⟨S0.out.below (one_below ..),RS0.out.below (one_below ..),hmp,by rw [HZ.out];exact Nat.le_refl _,fun e=>⟨fun h=>(by cases h),fun ⟨c,hc,_⟩=>by simp at hc⟩⟩
 clear hmp S0 RS0 HZ
 generalize W.heap.size=gm at *
 generalize W.alloc (.map #[] 0)=W1 at *
 go_loopw [17] (fun i wr=>∃ (k:Nat) (F:Edg→Option Value),k≤l.length∧i = .int .i64 k∧Hid (GO u ha hc fa fc l w wr gm k F)) (fun i _=>l.length - (intOf i).toNat)
 case atStart=>exact ⟨0,_,Nat.zero_le _,rfl,R0.out⟩
 case round =>
  clear R0
  obtain ⟨k,F,hk,rfl,S⟩:=hrel
  by_cases hlt:k < l.length
  case pos =>
   obtain ⟨bb,off,he,m0,m1,m2⟩:=HL.out.below S.out.ub.hb k hlt
   subst he
   have HT:Hid (l.take (k + 1)=l.take k ++ [l[k]]):=List.take_succ_eq_append_getElem hlt
   generalize l[k]=x at *
   have BZ:Hid (Blk (wr.alloc (.cells #[.int .i64 0,.int .i64 0,.int .i64 0] 51)) wr.heap.size _ 51):=blk_new ..
   have hsz:wr.heap.size≤wr.heap.size:=Nat.le_refl _
   go_upto_region 6 with (refine storeCal rfl _ _ rfl wr.heap.size _ _ _ rfl rfl _ BZ.out rfl ?_)
   have HB2:=Lib.hid (below_row (one_below wr (.cells #[.int .i64 0,.int .i64 0,.int .i64 0] 51)) hsz #[.int .i64 x.f,.int .i64 x.i,.int .i64 x.c])
   have B2:=Lib.hid (BZ.out.setRow #[.int .i64 x.f,.int .i64 x.i,.int .i64 x.c])
   have S2:=Lib.hid (S.out.below HB2.out)
   clear S BZ HB2 m0 m1 m2 hsz
   generalize (wr.alloc _).setRow wr.heap.size _=W2 at *
   generalize wr.heap.size=n2 at *
   have y0:=B2.out.cell 0 (by simp)
   have y2:=B2.out.cell 2 (by simp)
   simp only [List.getElem_toArray,List.getElem_cons_zero,List.getElem_cons_succ] at y0 y2
   by_cases hr:rightC u.fs.length x=true
   case pos =>
    have HRC:=Lib.hid hr
    obtain ⟨g1,g2,g3,g4⟩:=rightC_iff.1 hr
    have t1:=decide_eq_true g1
    have t2:=decide_eq_true g2
    have t3:=decide_eq_true g3
    have t4:=decide_eq_true g4
    clear hr g1 g2 g3 g4
    go_wp2_with (at_mapUpdate;refine wpList_mapF rfl _ _ _ _ rfl keyE undMEB gm rfl S2.out.mp (x.f,x.c) rfl (.bool true) rfl ?_;intro w3 hm3 hg3 hs3)
    have S3:Hid (GO u ha hc fa fc l w w3 gm (k + 1) (fun e=>if e=(x.f,x.c) then some (.bool true) else F e)) :=
     ⟨S2.out.ub.grow HH.out HF.out hg3 (fun q hq=>by cases hq;have:=S2.out.gg;omega),S2.out.rs.grown hg3 (blk_mapF S2.out.rs S2.out.mp),hm3,S2.out.gg,fun e=>by rw [HT.out];exact edge_t S2.out.ed HRC.out _ e⟩
    go_roundw
    case rel=>exact ⟨k + 1,_,by omega,by go_num,S3.out⟩
    case measure=>simp [intOf];omega
   case neg =>
    have S3:Hid (GO u ha hc fa fc l w W2 gm (k + 1) F) :=
     ⟨S2.out.ub,S2.out.rs,more S2.out.mp (Nat.le_succ _),S2.out.gg,fun e=>by rw [HT.out];exact edge_f S2.out.ed hr e⟩
    have HN:Hid (¬ (0≤x.f∧x.f < (u.fs.length:Int)∧0≤x.c∧x.c < (u.fs.length:Int))):=fun h=>hr (rightC_iff.2 h)
    clear S2 hr
    by_cases g1:0≤x.f
    case neg =>
     have t1:=decide_eq_false g1
     clear g1
     go_wp2
     go_roundw
     case rel=>exact ⟨k + 1,_,by omega,by go_num,S3.out⟩
     case measure=>simp [intOf];omega
    have t1:=decide_eq_true g1
    by_cases g2:x.f < (u.fs.length:Int)
    case neg =>
     have t2:=decide_eq_false g2
     clear g1 g2
     go_wp2
     go_roundw
     case rel=>exact ⟨k + 1,_,by omega,by go_num,S3.out⟩
     case measure=>simp [intOf];omega
    have t2:=decide_eq_true g2
    by_cases g3:0≤x.c
    case neg =>
     have t3:=decide_eq_false g3
     clear g1 g2 g3
     go_wp2
     go_roundw
     case rel=>exact ⟨k + 1,_,by omega,by go_num,S3.out⟩
     case measure=>simp [intOf];omega
    have t3:=decide_eq_true g3
    have g4:¬ x.c < (u.fs.length:Int):=fun g4=>HN.out ⟨g1,g2,g3,g4⟩
    have t4:=decide_eq_false g4
    clear g1 g2 g3 g4
    go_wp2
    go_roundw
    case rel=>exact ⟨k + 1,_,by omega,by go_num,S3.out⟩
    case measure=>simp [intOf];omega
  case neg =>
   obtain rfl:k=l.length:=by omega
   have HE:Hid (∀ e,(F e).isSome=true ↔ edgeIn u.fs.length l e):=by
    have:=S.out.ed
    rw [List.take_length] at this
    exact this
   have BG:Hid (Blk (wr.alloc (.cells #[.int .i64 0,.slice none 0 0] 39)) wr.heap.size _ 39):=blk_new ..
   have hsz:wr.heap.size≤wr.heap.size:=Nat.le_refl _
   have hge:w.heap.size + 2≤wr.heap.size:=Nat.le_trans S.out.gg (Nat.le_of_lt S.out.mp.lt)
   go_upto_region 10 with (refine storeGraph rfl _ _ rfl wr.heap.size _ _ _ _ rfl rfl _ BG.out rfl ?_)
   have HB2:=Lib.hid (below_row (one_below wr (.cells #[.int .i64 0,.slice none 0 0] 39)) hsz #[.int .i64 u.fs.length,.slice none 0 0])
   have B2:=Lib.hid (BG.out.setRow #[.int .i64 u.fs.length,.slice none 0 0])
   have S2:=Lib.hid (S.out.below HB2.out)
   clear S BG HB2 hsz
   generalize (wr.alloc _).setRow wr.heap.size _=W2 at *
   generalize wr.heap.size=gb at *
   go_wp2_with (at_range;refine wpList_rangeF rfl _ _ rfl undMEB gm rfl S2.out.mp ?_;intro w4 left0 hit hall hln hb4 hs4)
   have hri:w.heap.size + 2≤W2.heap.size:=Nat.le_trans hge (Nat.le_of_lt B2.out.lt)
   have R0:Hid (GP u ha hc fa fc w w4 gb gm W2.heap.size l.length F left0 [] none 0) :=
    ⟨S2.out.ub.below hb4,S2.out.rs.below hb4,B2.out.below hb4,hit,World.ownsRow_nil _ _ _ _,hge,hri,S2.out.gg⟩
   have HALL:Hid ((∀ e,e ∈ left0.map (·.1) ↔ edgeIn u.fs.length l e)∧(left0.map (·.1)).Nodup):=by
    refine ⟨fun e=>?_,hit.holds.2⟩
    rw [← HE.out e]
    constructor
    ·intro he
     obtain ⟨p,hp,rfl⟩:=List.mem_map.1 he
     rw [hit.holds.1 p hp];rfl
    ·intro he
     obtain ⟨v,hv⟩:=Option.isSome_iff_exists.1 he
     exact List.mem_map.2 ⟨(e,v),hall e v hv,rfl⟩
   have HLN:left0.length≤1000000:=by omega
   clear hit hall hln hb4 hs4 B2 S2 hri hge HE
   generalize W2.heap.size=ri at *
   go_frame
   go_loopw [] (fun wr=>∃ left,∃ (done:List Edg) (oa:Option Addr) (oc:Nat),Hid (GP u ha hc fa fc w wr gb gm ri l.length F left done oa oc)∧Hid ((done ++ left.map (·.1)).Perm (left0.map (·.1)))) (fun wr=>leftN wr ri)
   case atStart=>exact ⟨left0,[],none,0,R0.out,List.Perm.refl _⟩
   case round =>
    clear R0
    obtain ⟨left,done,oa,oc,R,PM⟩:=hrel
    have hdl:=perm_len PM.out
    go_wp2_with (at_next;refine wpList_nextF rfl _ rfl ri gm left rfl R.out.it ?_ ?_)
    ·intro h0
     subst h0
     have PD:Hid (done.Perm (left0.map (·.1))):=by
      have h:=PM.out
      rw [List.map_nil,List.append_nil] at h
      exact h
     clear PM
     have y1:=R.out.gr.cell 1 (by simp)
     simp only [List.getElem_toArray,List.getElem_cons_zero,List.getElem_cons_succ] at y1
     go_wp2_with fail
     refine (sortE_own done oa oc (w.heap.size + 2) wr R.out.ow (by omega)).mono ?_
     rintro e w5 ⟨rfl,hg5,own5⟩
     have U5:=Lib.hid (R.out.ub.grow HH.out HF.out hg5 (fun q hq=>by have:=(R.out.ow.lt q hq).1;omega))
     have G5:=Lib.hid (R.out.gr.grown hg5 (owns_ne R.out.ow R.out.gr (by decide)))
     have R5:=Lib.hid (R.out.rs.grown hg5 (owns_ne R.out.ow R.out.rs (by decide)))
     have O5:=Lib.hid own5
     have hgb:=R.out.gb
     clear R y1 hg5 own5
     have y0:=G5.out.cell 0 (by simp)
     have y1:=G5.out.cell 1 (by simp)
     simp only [List.getElem_toArray,List.getElem_cons_zero,List.getElem_cons_succ] at y0 y1
     go_wp2_with (refine storeGraph rfl _ _ rfl (w.heap.size + 1) _ _ _ _ rfl rfl _ R5.out rfl ?_)
     have hX:Blk (w5.setRow (w.heap.size + 1) #[.int .i64 u.fs.length,.slice oa done.length oc]) (w.heap.size + 1) #[.int .i64 u.fs.length,.slice oa done.length oc] 39:=R5.out.setRow _
     refine bodyPost_ret (v:=.agg #[.int .i64 u.fs.length,.slice oa done.length oc]) (results_c HR _ _ (w.heap.size + 1) _ _ rfl hX Tryz.underlying39 rfl (by kernel_rfl)) rfl ?_
     have hb6:=below_setRow U5.out.hb (Nat.le_succ _) #[.int .i64 u.fs.length,.slice oa done.length oc]
     have O6:(w5.setRow (w.heap.size + 1) #[.int .i64 u.fs.length,.slice oa done.length oc]).ownsRow (w.heap.size + 2) 42 2 (.slice oa done.length oc) done.length (flatE (sortE done)) :=
      O5.out.kept (grown_row w5 (w.heap.size + 1) _) (by
       cases hv:Value.ownBlock (.slice oa done.length oc) with
       | none=>exact .inl rfl
       | some q=>exact .inr (fun e=>by cases e;have:=(O5.out.lt _ hv).1;omega))
     have hlen:=sortE_len done
     exact ⟨hb6,sortE done,oa,oc,by rw [hlen],graph_sorted HALL.out.2 HALL.out.1 ((sortE_perm done).trans PD.out) (sortE_pw done),by rw [hlen];exact owns_mono O6 (Nat.le_add_right _ _),by rw [hlen];omega⟩
    ·intro e1 e2 pv j w4 hp hF hit4 hg4 hs4 hen
     have PM2:=Lib.hid (perm_next PM.out hp)
     have hpl:=(perm_erase hp).length_eq
     have hm4:=R.out.it.leftN
     have R4:Hid (GP u ha hc fa fc w w4 gb gm ri l.length F (left.eraseIdx j) done oa oc) :=
      ⟨R.out.ub.grow HH.out HF.out hg4 (fun q hq=>by cases hq;have:=R.out.gi;omega),R.out.rs.grown hg4 (blk_iter R.out.rs R.out.it),R.out.gr.grown hg4 (blk_iter R.out.gr R.out.it),hit4,R.out.ow.kept hg4 (.inr (fun e=>owns_iter R.out.ow R.out.it e.symm)),R.out.gb,R.out.gi,R.out.gg⟩
     clear R PM hF hit4 hg4 hs4 hp
     try simp only [encEV] at hen
     have BZ:Hid (Blk (w4.alloc (.cells #[.int .i64 0,.int .i64 0] 42)) w4.heap.size _ 42):=blk_new ..
     have hsz:w4.heap.size≤w4.heap.size:=Nat.le_refl _
     go_upto_region 13 with (refine storeEdge rfl _ _ rfl w4.heap.size _ _ rfl rfl _ BZ.out rfl ?_)
     have HB5:=Lib.hid (below_row (one_below w4 (.cells #[.int .i64 0,.int .i64 0] 42)) hsz #[.int .i64 e1,.int .i64 e2])
     have B5:=Lib.hid (BZ.out.setRow #[.int .i64 e1,.int .i64 e2])
     have R5:=Lib.hid (R4.out.below HB5.out)
     clear R4 BZ HB5 hsz hen
     generalize (w4.alloc _).setRow w4.heap.size _=W5 at *
     generalize w4.heap.size=n5 at *
     have x0:=B5.out.cell 0 (by simp)
     have x1:=B5.out.cell 1 (by simp)
     have y1:=R5.out.gr.cell 1 (by simp)
     simp only [List.getElem_toArray,List.getElem_cons_zero,List.getElem_cons_succ] at x0 x1 y1
     have R6:=Lib.hid (R5.out.below (one_below W5 (.cells #[.int .i64 e1,.int .i64 e2] 42)))
     have B6:Hid (Blk (W5.alloc (.cells #[.int .i64 e1,.int .i64 e2] 42)) W5.heap.size #[.int .i64 e1,.int .i64 e2] 42):=blk_new ..
     have hbs:=R6.out.ub.hb.size
     have hb2:w.heap.size + 2≤(W5.alloc (.cells #[.int .i64 e1,.int .i64 e2] 42)).heap.size:=Nat.le_trans R6.out.gb (Nat.le_of_lt R6.out.gr.lt)
     go_wp2_with (at_builtin;refine app_edge rfl _ _ rfl (w.heap.size + 2) _ done rfl R6.out.ow W5.heap.size (e1,e2) rfl B6.out (by omega) hb2 ?_;intro v7 W7 own7 hg7;have G7:=R6.out.gr.grown hg7 (owns_ne R6.out.ow R6.out.gr (by decide));have q1:=G7.cell 1 (by simp);have q2:=G7.free 1;simp only [List.getElem_toArray,List.getElem_cons_zero,List.getElem_cons_succ] at q1;obtain ⟨-,oa7,oc7,rfl,-,-,-⟩:=owns_edgs own7)
     have hfr:∀ q,Value.ownBlock (.slice oa done.length oc)=some q→w.heap.size + 2≤q:=fun q hq=>(R6.out.ow.lt q hq).1
     have hgb:=R6.out.gb
     have U7:=R6.out.ub.grow HH.out HF.out hg7 (fun q hq=>by have:=hfr q hq;omega)
     have RS7:=R6.out.rs.grown hg7 (owns_ne R6.out.ow R6.out.rs (by decide))
     have I7:=R6.out.it.grown hg7 (owns_mapF R6.out.ow R6.out.it.map) (owns_iter R6.out.ow R6.out.it)
     have hgs:=grown_set W7 gb 1 (.slice oa7 (done ++ [(e1,e2)]).length oc7)
     have R8:Hid (GP u ha hc fa fc w (W7.setCell ⟨gb,1,none⟩ (.slice oa7 (done ++ [(e1,e2)]).length oc7)) gb gm ri l.length F (left.eraseIdx j) (done ++ [(e1,e2)]) oa7 oc7) :=
      ⟨U7.grow HH.out HF.out hgs (fun q hq=>by cases hq;omega),RS7.grown hgs (fun e=>by cases e;omega),G7.set 1 _,I7.grown hgs (fun e=>blk_mapF G7 I7.map e.symm) (fun e=>blk_iter G7 I7 e.symm),own7.kept hgs (.inr (fun e=>owns_ne own7 G7 (by decide) e.symm)),hgb,R6.out.gi,R6.out.gg⟩
     have hl1:(done ++ [(e1,e2)]).length=done.length + 1:=by simp
     rw [hl1] at R8
     clear hl1
     have hm8:=R8.out.it.leftN
     go_roundw
     case rel=>exact ⟨left.eraseIdx j,done ++ [(e1,e2)],oa7,oc7,R8.out,PM2.out⟩
     case measure =>
      rw [hm8,hm4]
      simp at hpl
      omega
end Go.Proofs.YtkbmnfijeknenaaGreatDoor
namespace Go.Unit0
theorem ri_pop {n:Nat} {l:List Cal} {m x:Int} {S T:List Int} (h:RI n l m S (T ++ [x])):RI n l m S T:=⟨h.nd,fun y hy=>h.sub y (by simp [hy]),h.rch,h.base⟩
theorem ri_push {n:Nat} {l:List Cal} {m z:Int} {S T:List Int} (h:RI n l m S T) (hz:z ∉ S) (hr:Rch n l (mainS n m) z):RI n l m (S ++ [z]) (T ++ [z]):=by
 refine ⟨?_,fun x hx=>?_,fun x hx=>?_,by simp [h.base]⟩
 ·rw [List.nodup_append]
  exact ⟨h.nd,by simp,fun a ha b hb e=>hz (by rw [List.mem_singleton.1 hb] at e;exact e ▸ ha)⟩
 ·rcases List.mem_append.1 hx with hx | hx
  ·exact List.mem_append_left _ (h.sub x hx)
  ·exact List.mem_append_right _ hx
 ·rcases List.mem_append.1 hx with hx | hx
  ·exact h.rch x hx
  ·rw [List.mem_singleton.1 hx];exact hr
theorem clos_pop {n:Nat} {l:List Cal} {x:Int} {S T:List Int} (h:ClosT n l S (fun y=>y ∈ T ++ [x])):ClosT n l S (fun y=>y ∈ T ∨ y=x) :=
 fun c hc hr hf hn=>h c hc hr hf (fun k=>hn (by
  rcases List.mem_append.1 k with k | k
  ·exact .inl k
  ·exact .inr (List.mem_singleton.1 k)))
theorem clos_push {n:Nat} {l:List Cal} {x z:Int} {S T:List Int} (h:ClosT n l S (fun y=>y ∈ T ∨ y=x)):ClosT n l (S ++ [z]) (fun y=>y ∈ T ++ [z] ∨ y=x):=fun c hc hr hf hn=>by
 have h1:c.f ∈ S:=by
  rcases List.mem_append.1 hf with k | k
  ·exact k
  ·exact absurd (.inl (List.mem_append_right _ k)) hn
 exact List.mem_append_left _ (h c hc hr h1 (fun k=>hn (by
  rcases k with k | k
  ·exact .inl (List.mem_append_left _ k)
  ·exact .inr k)))
theorem clos_end {n:Nat} {l:List Cal} {x:Int} {S T:List Int} (h:ClosT n l S (fun y=>y ∈ T ∨ y=x)) (hx:∀ c ∈ l,rightC n c=true→c.f=x→c.c ∈ S):ClosT n l S (fun y=>y ∈ T):=fun c hc hr hf hn=>by
 by_cases e:c.f=x
 ·exact hx c hc hr e
 ·exact h c hc hr hf (fun k=>by rcases k with k | k;exact hn k;exact e k)
theorem adj_rch {n:Nat} {l:List Cal} {m:Int} {L:List Edg} {S T:List Int} (hL:GraphL n l L) {f:Nat} (hf:f < n) (h:RI n l m S T) (hs:(f:Int) ∈ S) {z:Int} (hz:z ∈ (adjL n L)[f]'(by rw [adjL_len];exact hf)):Rch n l (mainS n m) z:=by
 obtain ⟨c,hc,hr,e⟩:=(hL.2 _).1 ((adjL_mem hf z).1 hz)
 have e1:(f:Int)=c.f:=congrArg Prod.fst e
 have e2:z=c.c:=congrArg Prod.snd e
 rw [e2]
 exact .step hc hr (e1 ▸ h.rch _ hs)
theorem adj_all {n:Nat} {l:List Cal} {L:List Edg} (hL:GraphL n l L) {f:Nat} (hf:f < n) {c:Cal} (hc:c ∈ l) (hr:rightC n c=true) (e:c.f=f):c.c ∈ (adjL n L)[f]'(by rw [adjL_len];exact hf) :=
 (adjL_mem hf _).2 ((hL.2 _).2 ⟨c,hc,hr,by rw [← e]⟩)
theorem ri_nat {n:Nat} {l:List Cal} {m:Int} {S T:List Int} (h:RI n l m S T):∀ x ∈ S,∃ j:Nat,j < n∧x=j:=fun x hx=>by
 have:=h.range hx
 exact ⟨x.toNat,by omega,by omega⟩
theorem clos_start {n:Nat} {l:List Cal} {m:Int}:ClosT n l [m] (fun y=>y ∈ [m]):=fun _ _ _ hf hn=>absurd hf hn
theorem reach_none {n:Nat} {l:List Cal} {m:Int} (h:¬ (0≤m∧m < n)):ReachL n l m []:=by
 refine ⟨.nil,fun x=>⟨fun h=>by simp at h,fun k=>?_⟩⟩
 have:False:=by
  induction k with
  | base hb=>exact h hb.2
  | step _ _ _ ih=>exact ih
 exact this.elim
theorem last_of {α:Type} {l:List α} (h:0 < l.length):∃ t x,l=t ++ [x]:=by
 have hne:l ≠ []:=fun e=>by rw [e] at h;simp at h
 exact ⟨l.dropLast,l.getLast hne,(List.dropLast_concat_getLast hne).symm⟩
end Go.Unit0
namespace Go.Proofs.YtkbmnfijeknenaaGreatDoor
open Go.RowKit Go.Unit0 Go.AM

theorem infoSI:(Tryz.prog.info? 31).map (fun i=>(i.zero,i.size,i.bytes))=some (some (.slice none 0 0),1,24):=by kernel_rfl
theorem EdgsAt.grown {w w':World} {a:Option Addr} {l:List Edg} {row:Option Nat} (h:EdgsAt w a l) (hg:w.grownBy w' row) (hne:∀ b off,a=some ⟨b,off,none⟩→some b ≠ row):EdgsAt w' a l:=by
 intro k hk
 obtain ⟨b,off,ha,h0,h1⟩:=h k hk
 exact ⟨b,off,ha,hg.cell h0 (hne b off ha),hg.cell h1 (hne b off ha)⟩
def ReachPost (n:Nat) (l:List Cal) (m:Int) (w:World) (e:Ending) (w':World):Prop :=
 Below w.heap.size w w'∧∃ (L:List Int) (a:Option Addr) (c:Nat),e = .returned (.slice a L.length c)∧ReachL n l m L∧IntsAt w' a L
structure RQ (w W1 wr:World) (B n k:Nat) (L:List Edg) (vs:List Value):Prop where
 gb:W1.grownBy wr (some B)
 ad:AdjV wr W1.heap.size B (adjL n (L.take k)) vs
structure RS (W2 wr:World) (gm n:Nat) (l:List Cal) (m:Int) (S T:List Int) (oa:Option Addr) (oc:Nat):Prop where
 hb:Below W2.heap.size W2 wr
 mp:MapF wr gm (Value.int .i64) (setF S) S.length
 ow:wr.ownsRow W2.heap.size 3 1 (.slice oa T.length oc) T.length (T.map intV)
 gg:W2.heap.size≤gm
 ri:RI n l m S T
theorem RS.below {W2 wr w':World} {gm n:Nat} {l:List Cal} {m:Int} {S T:List Int} {oa:Option Addr} {oc:Nat} (k:RS W2 wr gm n l m S T oa oc) (hb:Below wr.heap.size wr w'):RS W2 w' gm n l m S T oa oc :=
 ⟨k.hb.trans (hb.mono k.hb.size),k.mp.below hb,owns_below k.ow hb,k.gg,k.ri⟩
theorem RS.mapN {W2 wr:World} {gm n:Nat} {l:List Cal} {m:Int} {S T:List Int} {oa:Option Addr} {oc:Nat} (k:RS W2 wr gm n l m S T oa oc):mapN wr gm=S.length:=by
 obtain ⟨h1,ks,h2,h3,h4⟩:=k.mp.mapN
 rw [h4]
 exact Nat.le_antisymm (nodup_sub_len h2 (fun x hx=>(setF_some _ _).1 ((h3 x).1 hx))) (nodup_sub_len k.ri.nd (fun x hx=>(h3 x).2 ((setF_some _ _).2 hx)))
theorem RS.few {W2 wr:World} {gm n:Nat} {l:List Cal} {m:Int} {S T:List Int} {oa:Option Addr} {oc:Nat} (k:RS W2 wr gm n l m S T oa oc):S.length≤n:=nodup_len n S k.ri.nd (ri_nat k.ri)
end Go.Proofs.YtkbmnfijeknenaaGreatDoor
