/-
  What stays where a later block has changed; ranges and maps; a row put back.
  The sites of a variable, as the program finds them; a unit and a result boxed.
-/
import Derived.Test.YtffcklfigpmlgaaGreatDoorGA
import Derived.Test.YtffcklfigpmlgaaGreatDoorShelf
import Derived.Sort.OwnSortedInts
import Derived.Test.YtffcklfigpmlgaaGreatDoorMA
namespace Go.Proofs.YtffcklfigpmlgaaGreatDoor
open Go.RowKit Go.Unit0 Go.AM Go.Sort

theorem grownBy_put {w:World} {g n:Nat} {os:Array Obj} (d:Array Value):w.grownBy (grow (putRow id (Sort.ahead w n) g 0 d) os) (some g):=by
 refine ⟨rfl,rfl,rfl,by simp,fun k hk hne=>?_⟩
 rw [heap_grow_old _ _ (by simpa using hk)]
 have:g ≠ k:=fun e=>hne (by rw [e])
 simp [putRow,mapBlock,Sort.ahead,Array.getElem?_modify,this]
theorem heap_put {w:World} {g n:Nat} {os:Array Obj} {cur:Array Value} {e:TypeId} {fr:Nat × Nat} (d:Array Value) (hb:w.heap[g]? = some (.cells cur e fr)) :
 (grow (putRow id (Sort.ahead w n) g 0 d) os).heap[g]? = some (.cells (putCells id 0 d cur) e fr):=by
 have hg:g < w.heap.size:=(Array.getElem?_eq_some_iff.1 hb).1
 rw [heap_grow_old _ _ (by simpa using hg)]
 simp [putRow,mapBlock,Sort.ahead,Array.getElem?_modify,hb,onCells]
theorem take_put (cur:Array Value) (ts:List Value) (h:ts.length≤cur.size):(putCells id 0 ts.toArray cur).toList.take ts.length=ts:=by
 apply List.ext_getElem?
 intro j
 by_cases hj:j < ts.length
 ·rw [List.getElem?_take_of_lt hj,Array.getElem?_toList]
  simp [putCells,hj,show j < cur.size by omega]
 ·rw [List.getElem?_take_eq_none (by omega),List.getElem?_eq_none (by omega)]
theorem UB.grow {u:Unt} {ha:Option Addr} {hc:Nat} {fa:Option Addr} {fc:Nat} {w wr w':World} {row:Option Nat} (k:UB u ha hc fa fc w wr) (h0:ClssAt w ha u.h) (f0:FncsAt w fa u.fs) (hg:wr.grownBy w' row) (hrow:∀ q,row=some q→w.heap.size < q):UB u ha hc fa fc w w':=by
 have hb':=k.hb.grown hg k.hb.size (fun q hq=>Nat.le_of_lt (hrow q hq))
 exact ⟨hb',k.b1.grown hg (fun e=>by have:=hrow _ e.symm;omega),h0.below hb',f0.below hb'⟩
end Go.Proofs.YtffcklfigpmlgaaGreatDoor
namespace Go.Proofs.YtffcklfigpmlgaaGreatDoor
open Go.RowKit Go.Unit0 Go.AM

theorem cloneInt (l:List Int) (a:Option Addr) (c:Nat) (w:World) (hs:IntsAt w a l) (hl:l.length≤1000000):Calls Tryz.prog 54 #[.slice a l.length c] w (IntsPost l w):=by
 by_cases h0:0 < l.length
 ·obtain ⟨b,off,rfl,_⟩:=hs 0 h0
  refine (Tryz.slices_Clone_int b off l.length c l w (Nat.le_refl _) (by omega) (fun j hj=>?_)).mono ?_
  ·obtain ⟨b',off',he,hc⟩:=hs j hj
   cases he
   rw [hc,List.getD_eq_getElem?_getD,List.getElem?_eq_getElem hj];rfl
  ·rintro e w' ⟨v,rfl,own,_,hb⟩
   rw [List.take_length] at own
   obtain ⟨-,a',c',rfl,-,-⟩:=owns_ints own
   exact ⟨hb,a',c',rfl,own⟩
 ·have hl0:l = []:=List.eq_nil_of_length_eq_zero (by omega)
  subst hl0
  cases a with
  | none =>
    refine (Tryz.slices_Clone_int_nil 0 c w).mono ?_
    rintro e w' ⟨rfl,rfl⟩
    exact ⟨Below.refl _ _,none,0,rfl,World.ownsRow_nil _ _ _ _⟩
  | some ad =>
    refine (Tryz.slices_Clone_int_zero ad c w).mono ?_
    rintro e w' ⟨v,rfl,own,_,hb⟩
    obtain ⟨-,a',c',rfl,-,-⟩:=owns_ints (l:=[]) own
    exact ⟨hb,a',c',rfl,own⟩
structure URB (u:Unt) (ha:Option Addr) (hc:Nat) (fa:Option Addr) (fc:Nat) (r:Rsl) (p:RP) (w wr:World):Prop where
 ub:UB u ha hc fa fc w wr
 rb:RB8 r p (w.heap.size + 1) w wr
section
variable {u:Unt} {ha:Option Addr} {hc:Nat} {fa:Option Addr} {fc:Nat} {r:Rsl} {p:RP} {w wr w':World}
theorem URB.below (k:URB u ha hc fa fc r p w wr) (hb:Below wr.heap.size wr w'):URB u ha hc fa fc r p w w':=⟨k.ub.below hb,k.rb.below hb⟩
theorem URB.start (h:ClssAt w ha u.h) (f:FncsAt w fa u.fs) (hr:RslAt w p r):URB u ha hc fa fc r p w ((w.alloc (unC u ha hc fa fc)).alloc (rsC r p)) :=
 ⟨(UB.start (hc:=hc) (fc:=fc) h f).below (one_below ..),two_below ..,blk_new2 ..,hr.below (two_below ..)⟩
theorem URB.now (k:URB u ha hc fa fc r p w wr) {o:World} (hb:Below wr.heap.size wr o) :
 (o.cell? ⟨w.heap.size,0,none⟩=some (.slice ha u.h.length hc)∧o.cell? ⟨w.heap.size,1,none⟩=some (.slice fa u.fs.length fc)∧o.cell? ⟨w.heap.size,2,none⟩=some (.int .i64 u.main)) ∧
 (o.cell? ⟨w.heap.size + 1,0,none⟩=some (.slice p.ra r.reached p.rc)∧o.cell? ⟨w.heap.size + 1,1,none⟩=some (.slice p.ca r.calls.length p.cc)∧o.cell? ⟨w.heap.size + 1,2,none⟩=some (.slice p.va r.vars.length p.vc)∧o.cell? ⟨w.heap.size + 1,3,none⟩=some (.slice p.xa r.cells.length p.xc)) :=
 ⟨(k.below hb).ub.cells,(k.below hb).rb.cells⟩

theorem URB.grow {row:Option Nat} (k:URB u ha hc fa fc r p w wr) (h0:ClssAt w ha u.h) (f0:FncsAt w fa u.fs) (r0:RslAt w p r) (hg:wr.grownBy w' row) (hrow:∀ q,row=some q→w.heap.size + 1 < q):URB u ha hc fa fc r p w w':=by
 have hb':=k.ub.hb.grown hg k.ub.hb.size (fun q hq=>by have:=hrow q hq;omega)
 exact ⟨k.ub.grow h0 f0 hg (fun q hq=>by have:=hrow q hq;omega),hb',k.rb.b1.grown hg (fun e=>by have:=hrow _ e.symm;omega),r0.below hb'⟩
end
set_option maxRecDepth 100000 in
set_option maxHeartbeats 4000000 in
theorem ofP25 (u:Unt) (ha:Option Addr) (hc:Nat) (fa:Option Addr) (fc:Nat) (r:Rsl) (p:RP) (f v:Int) (w:World) (h:ClssAt w ha u.h) (hf:FncsAt w fa u.fs) (hr:RslAt w p r) (hl:u.fs.length≤1000) (hcap:u.fs.length≤fc) (hv:∀ f ∈ u.fs,f.vars.length≤1000) (hw:FewOk r) :
 Calls Tryz.prog 22 #[unV u ha hc fa fc,rsV r p,.int .i64 f,.int .i64 v] w (NumsPost (ofP u r f v) w):=by
 have S0:Hid (URB u ha hc fa fc r p w _):=URB.start (hc:=hc) (fc:=fc) h hf hr
 have HVA:Hid (∀ w1,ClssAt w1 ha u.h→FncsAt w1 fa u.fs→Calls Tryz.prog 53 #[unV u ha hc fa fc,.int .i64 f,.int .i64 v] w1 (Ret w1 (.int .i64 (varP u f v)))):=fun w1 h1 h2=>varPconstraint u ha hc fa fc f v w1 h1 h2 hl hcap hv
 have HO:Hid (ofP u r f v=if varP u f v < 0 then [] else (r.vars[(varP u f v).toNat]?).getD []):=rfl
 have HVL:=Lib.hid hw.vl
 clear h hf hr hv
 generalize ofP u r f v=L at *
 generalize varP u f v=n at *
 unfold unV rsV at *
 go_enter Tryz.func22,Tryz.ntmps22
 go_upto_region 1 with (fail)
 generalize (w.alloc _).alloc _=W at *
 obtain ⟨z0,z1,z2⟩:=S0.out.ub.cells
 go_upto_region 2 with (go_at_call 53;refine (HVA.out _ S0.out.ub.h S0.out.ub.f).mono ?_;rintro e w1 ⟨rfl,hb⟩)
 have R1:=Lib.hid (S0.out.rb.below hb)
 clear S0 hb z0 z1 z2 HVA
 obtain ⟨z0,z1,z2,z3⟩:=R1.out.cells
 by_cases g1:n < 0
 case pos =>
  have t1:=decide_eq_true g1
  have HL:Hid (L = []):=by show _=_;rw [HO.out,if_pos g1]
  clear g1
  go_wp2
  go_ret
  rw [HL.out]
  exact ⟨R1.out.hb,none,0,rfl,fun k hk=>by simp at hk⟩
 have t1:=decide_eq_false g1
 by_cases g2:(r.vars.length:Int)≤n
 case pos =>
  have t2:=decide_eq_true g2
  have HL:Hid (L = []):=by show _=_;rw [HO.out,if_neg g1,List.getElem?_eq_none (by omega)];rfl
  clear g1 g2
  go_wp2
  go_ret
  rw [HL.out]
  exact ⟨R1.out.hb,none,0,rfl,fun k hk=>by simp at hk⟩
 have t2:=decide_eq_false g2
 obtain ⟨k,rfl⟩:∃ k:Nat,n=k:=⟨n.toNat,by omega⟩
 have hk:k < r.vars.length:=by omega
 have HL:Hid (L=r.vars[k]):=by show _=_;rw [HO.out,if_neg g1,Int.toNat_natCast,List.getElem?_eq_getElem hk];rfl
 obtain ⟨b,off,xa,xc,he,c0,hi⟩:=R1.out.m.v k hk
 have hll:=HVL.out _ (List.getElem_mem hk)
 rw [he] at z2
 rw [← HL.out] at c0 hi hll
 have HI:=Lib.hid hi
 have HCL:Hid (∀ w1,IntsAt w1 xa L→Calls Tryz.prog 54 #[.slice xa L.length xc] w1 (IntsPost L w1)):=fun w1 h1=>cloneInt L xa xc w1 h1 (by omega)
 clear g1 g2 he hi HL HO
 go_wp2_with (go_at_call 54;refine (HCL.out _ HI.out).mono ?_;rintro e w2 ⟨hb2,qa,qc,rfl,own⟩)
 obtain ⟨-,_,_,he,-,hat⟩:=owns_ints own
 cases he
 have HA:=Lib.hid hat
 have HB:=Lib.hid (R1.out.hb.trans (hb2.mono R1.out.hb.size))
 clear own hat hb2 R1 HI HCL z0 z1 z2 z3 c0
 go_ret
 exact ⟨HB.out,qa,qc,rfl,HA.out⟩
end Go.Proofs.YtffcklfigpmlgaaGreatDoor
