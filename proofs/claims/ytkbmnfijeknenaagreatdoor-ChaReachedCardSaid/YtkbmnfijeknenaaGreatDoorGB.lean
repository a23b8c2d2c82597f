/-
  Edges of one's own sorted by the library; the program's graph, plain part.
  The program's graph of call edges.
  The program's functions of a set, ascending.
-/
import Derived.Test.YtkbmnfijeknenaaGreatDoorG3
import Derived.Test.YtkbmnfijeknenaaGreatDoorH0
import Derived.Test.YtkbmnfijeknenaaGreatDoorSortf
import Derived.Sort.OwnSortedInts
namespace Go.Proofs.YtkbmnfijeknenaaGreatDoor
open Go.RowKit Go.Unit0 Go.AM Go.Sort

set_option maxHeartbeats 1000000 in
theorem sortE_own (L : List Edg) (a : Option Addr) (c base : Nat) (w : World) (own : w.ownsRow base 42 2 (.slice a L.length c) L.length (flatE L)) (hl : L.length ≤ 1000000) :
    Calls Tryz.prog 54 #[.slice a L.length c, .func (.func 55) #[] #[]] w (fun e w' => e = .returned (.tuple #[]) ∧ w.grownBy w' (Value.slice a L.length c).ownBlock ∧ w'.ownsRow base 42 2 (.slice a L.length c) L.length (flatE (sortE L))) := by
  have own0 := own
  obtain ⟨hln, hown⟩ := own
  rcases hown with ⟨e, h0⟩ | ⟨g, cap, cur, e, hbase, hh, hn, hcap, hsz, ht⟩
  · have hl0 : L = [] := List.eq_nil_of_length_eq_zero h0
    subst hl0
    cases e
    have h0 := AnyF.slices_SortFunc_none Tryz.sortEdge none 0 (.func (.func 55) #[] #[]) w
    change Calls Tryz.prog 54 _ _ _ at h0
    refine h0.mono ?_
    rintro e w' ⟨rfl, rfl⟩
    refine ⟨rfl, World.grownBy.refl _ _, ?_⟩
    have e0 : sortE [] = [] := by simp [sortE]
    rw [e0]
    exact own0
  · cases e
    have hg : g < w.heap.size := (Array.getElem?_eq_some_iff.1 hh).1
    have eg : ∀ args w, (callFunc 55 args).run Tryz.prog w = .ok (.enter 55 args) w := enters_of Tryz.func55 (by kernel_rfl) rfl
    have hH : HoldsK encE 2 w g 0 L.toArray := by
      unfold HoldsK
      rw [flatK_E]
      intro j hj
      have hj' : j < (flatE L).length := by simpa using hj
      refine ⟨?_, by simp [World.frozen?, hh]⟩
      have c := own0.cells (g := g) rfl j (flatE L)[j] (List.getElem?_eq_getElem hj')
      rw [addr_add] at c
      rw [c]
      simp [hj']
    have h := AnyQ.slices_SortFunc_total Tryz.sortEdge 2 Tryz.isAgg42 Tryz.sizeOf42 encE (fun _ => rfl) (fun x v hv => by simp [encE] at hv; rcases hv with rfl | rfl <;> rfl) cmpE swoE 55 #[] g 0 c L.toArray w eg (fun _ _ _ _ x y => cloE x y _) hH hg (by simp; omega) totE
    change Calls Tryz.prog 54 _ _ _ at h
    have e1 : L.toArray.size = L.length := by simp
    rw [e1] at h
    refine h.mono ?_
    rintro e w' ⟨rfl, n, os, rfl⟩
    have e2 : sortWorldK encE 2 w g 0 n (L.toArray.toList.mergeSort fun x y => !(ltOf cmpE) y x).toArray os = grow (putRow id (Sort.ahead w n) g 0 (flatE (sortE L)).toArray) os := by
      unfold sortWorldK putRowK
      rw [flatK_E]
      rfl
    rw [e2]
    refine ⟨rfl, grownBy_put _, by rw [flatE_len, sortE_len], .inr ⟨g, c, _, rfl, hbase, heap_put _ hh, hn, hcap, by simp [putCells, hsz], ?_⟩⟩
    have e3 : L.length * 2 = (flatE (sortE L)).length := by rw [flatE_len, sortE_len]
    rw [e3]
    refine take_put cur _ ?_
    rw [flatE_len, sortE_len, hsz]
    omega
-- the program's graph
def encEV (e : Edg) : Value := .agg #[.int .i64 e.1, .int .i64 e.2]
theorem keyE : MKey Tryz.prog 42 encEV := mkey_row (ks := [.i, .i]) (by kernel_rfl) (fun e => [KC.i .i64 e.1, KC.i .i64 e.2]) [some (some .i64), some (some .i64)] (fun _ => rfl) (fun a b h => by
  simp only [List.cons.injEq, KC.i.injEq, and_true, true_and] at h
  exact Prod.ext h.1 h.2) (fun _ => rfl) (fun _ => rfl)
theorem undMEB : Tryz.prog.underlying 104 = some (.map 42 4) := by kernel_rfl
theorem storeCal {ops : Array Oper} {rest : List Oper} {o : Oper} {a : Act} {w : World} {Q : Exit → Act → World → Prop} (hgd : o.guard = none) (x y : Operand) (ho : o.op = .store 51 x y)
    (g : Nat) (i j k : Int) (hx : a.eval x = .pointer (some ⟨g, 0, none⟩)) (hy : a.eval y = .agg #[.int .i64 i, .int .i64 j, .int .i64 k])
    (old : Array Value) (hg : Blk w g old 51) (hold : old.size = 3)
    (h : wpList Tryz.prog ops Q rest (a.put o.dst undef) (w.setRow g #[.int .i64 i, .int .i64 j, .int .i64 k])) : wpList Tryz.prog ops Q (o :: rest) a w :=
  wpList_store_row hgd 51 x y ho g _ hx hy 51 old hg (by kernel_rfl) hold (by simp [Value.oneCell']) h
theorem storeEdge {ops : Array Oper} {rest : List Oper} {o : Oper} {a : Act} {w : World} {Q : Exit → Act → World → Prop} (hgd : o.guard = none) (x y : Operand) (ho : o.op = .store 42 x y)
    (g : Nat) (i j : Int) (hx : a.eval x = .pointer (some ⟨g, 0, none⟩)) (hy : a.eval y = .agg #[.int .i64 i, .int .i64 j])
    (old : Array Value) (hg : Blk w g old 42) (hold : old.size = 2)
    (h : wpList Tryz.prog ops Q rest (a.put o.dst undef) (w.setRow g #[.int .i64 i, .int .i64 j])) : wpList Tryz.prog ops Q (o :: rest) a w :=
  wpList_store_row hgd 42 x y ho g _ hx hy 42 old hg (by kernel_rfl) hold (by simp [Value.oneCell']) h
theorem storeGraph {ops : Array Oper} {rest : List Oper} {o : Oper} {a : Act} {w : World} {Q : Exit → Act → World → Prop} (hgd : o.guard = none) (x y : Operand) (ho : o.op = .store 39 x y)
    (g : Nat) (i : Int) (ad : Option Addr) (n c : Nat) (hx : a.eval x = .pointer (some ⟨g, 0, none⟩)) (hy : a.eval y = .agg #[.int .i64 i, .slice ad n c])
    (old : Array Value) (hg : Blk w g old 39) (hold : old.size = 2)
    (h : wpList Tryz.prog ops Q rest (a.put o.dst undef) (w.setRow g #[.int .i64 i, .slice ad n c])) : wpList Tryz.prog ops Q (o :: rest) a w :=
  wpList_store_row hgd 39 x y ho g _ hx hy 39 old hg (by kernel_rfl) hold (by simp [Value.oneCell']) h
def GraphPost (n : Nat) (l : List Cal) (w : World) (e : Ending) (w' : World) : Prop :=
  Go.RowKit.Below w.heap.size w w' ∧ ∃ (L : List Edg) (a : Option Addr) (c : Nat), e = .returned (.agg #[.int .i64 n, .slice a L.length c]) ∧ GraphL n l L ∧ w'.ownsRow w.heap.size 42 2 (.slice a L.length c) L.length (flatE L) ∧ L.length ≤ 1000000
structure GO (u : Unt) (ha : Option Addr) (hc : Nat) (fa : Option Addr) (fc : Nat) (l : List Cal) (w wr : World) (gm k : Nat) (F : Edg → Option Value) : Prop where
  ub : UB u ha hc fa fc w wr
  rs : Blk wr (w.heap.size + 1) #[.int .i64 0, .slice none 0 0] 39
  mp : MapF wr gm encEV F k
  gg : w.heap.size + 2 ≤ gm
  ed : ∀ e, (F e).isSome = true ↔ edgeIn u.fs.length (l.take k) e
theorem GO.below {u : Unt} {ha : Option Addr} {hc : Nat} {fa : Option Addr} {fc : Nat} {l : List Cal} {w wr w' : World} {gm k : Nat} {F : Edg → Option Value} (x : GO u ha hc fa fc l w wr gm k F) (hb : Go.RowKit.Below wr.heap.size wr w') : GO u ha hc fa fc l w w' gm k F :=
  ⟨x.ub.below hb, x.rs.below hb, x.mp.below hb, x.gg, x.ed⟩
theorem edge_t {n : Nat} {l : List Cal} {x : Cal} {F : Edg → Option Value} (h : ∀ e, (F e).isSome = true ↔ edgeIn n l e) (hr : rightC n x = true) (v : Value) (e : Edg) : ((if e = (x.f, x.c) then some v else F e).isSome = true ↔ edgeIn n (l ++ [x]) e) := by
  by_cases he : e = (x.f, x.c)
  · rw [if_pos he]
    exact ⟨fun _ => ⟨x, by simp, hr, he⟩, fun _ => rfl⟩
  · rw [if_neg he, h e]
    constructor
    · rintro ⟨c, hc, h1, h2⟩
      exact ⟨c, by simp [hc], h1, h2⟩
    · rintro ⟨c, hc, h1, h2⟩
      rcases List.mem_append.1 hc with hc | hc
      · exact ⟨c, hc, h1, h2⟩
      · rw [List.mem_singleton.1 hc] at h2
        exact absurd h2 he
theorem edge_f {n : Nat} {l : List Cal} {x : Cal} {F : Edg → Option Value} (h : ∀ e, (F e).isSome = true ↔ edgeIn n l e) (hr : ¬ rightC n x = true) (e : Edg) : ((F e).isSome = true ↔ edgeIn n (l ++ [x]) e) := by
  rw [h e]
  constructor
  · rintro ⟨c, hc, h1, h2⟩
    exact ⟨c, by simp [hc], h1, h2⟩
  · rintro ⟨c, hc, h1, h2⟩
    rcases List.mem_append.1 hc with hc | hc
    · exact ⟨c, hc, h1, h2⟩
    · rw [List.mem_singleton.1 hc] at h1
      exact absurd h1 hr
structure GP (u : Unt) (ha : Option Addr) (hc : Nat) (fa : Option Addr) (fc : Nat) (w wr : World) (gb gm ri m : Nat) (F : Edg → Option Value) (left : List (Edg × Value)) (done : List Edg) (oa : Option Addr) (oc : Nat) : Prop where
  ub : UB u ha hc fa fc w wr
  rs : Blk wr (w.heap.size + 1) #[.int .i64 0, .slice none 0 0] 39
  gr : Blk wr gb #[.int .i64 u.fs.length, .slice oa done.length oc] 39
  it : IterF wr ri gm encEV F m left
  ow : wr.ownsRow (w.heap.size + 2) 42 2 (.slice oa done.length oc) done.length (flatE done)
  gb : w.heap.size + 2 ≤ gb
  gi : w.heap.size + 2 ≤ ri
  gg : w.heap.size + 2 ≤ gm
theorem GP.below {u : Unt} {ha : Option Addr} {hc : Nat} {fa : Option Addr} {fc : Nat} {w wr w' : World} {gb gm ri m : Nat} {F : Edg → Option Value} {left : List (Edg × Value)} {done : List Edg} {oa : Option Addr} {oc : Nat}
    (x : GP u ha hc fa fc w wr gb gm ri m F left done oa oc) (hb : Go.RowKit.Below wr.heap.size wr w') : GP u ha hc fa fc w w' gb gm ri m F left done oa oc :=
  ⟨x.ub.below hb, x.rs.below hb, x.gr.below hb, x.it.below hb, owns_below x.ow hb, x.gb, x.gi, x.gg⟩
end Go.Proofs.YtkbmnfijeknenaaGreatDoor
namespace Go.Proofs.YtkbmnfijeknenaaGreatDoor
open Go.RowKit Go.Unit0 Go.AM

set_option maxRecDepth 100000 in
set_option maxHeartbeats 8000000 in
theorem graphP (u : Unt) (ha : Option Addr) (hc : Nat) (fa : Option Addr) (fc : Nat) (l : List Cal) (la : Option Addr) (lc : Nat) (w : World) (h : ClssAt w ha u.h) (f : FncsAt w fa u.fs) (hl : CalsAt w la l) (hll : l.length ≤ 1000000) :
    Calls Tryz.prog 19 #[unV u ha hc fa fc, .slice la l.length lc] w (GraphPost u.fs.length l w) := by
  have S0 : Hid (UB u ha hc fa fc w ((w.alloc (unC u ha hc fa fc)).alloc (.cells #[.int .i64 0, .slice none 0 0] 39))) := (UB.start (hc := hc) (fc := fc) h f).below (one_below ..)
  have RS0 : Hid (Blk ((w.alloc (unC u ha hc fa fc)).alloc (.cells #[.int .i64 0, .slice none 0 0] 39)) (w.heap.size + 1) #[.int .i64 0, .slice none 0 0] 39) := blk_new2 ..
  have HZ : Hid (((w.alloc (unC u ha hc fa fc)).alloc (.cells #[.int .i64 0, .slice none 0 0] 39)).heap.size = w.heap.size + 2) := by show _ = _; simp
  have HL := Lib.hid hl
  have HH := Lib.hid h
  have HF := Lib.hid f
  have HR := Tryz.results19
  clear h f hl
  unfold unV
  go_enter Tryz.func19, Tryz.ntmps19
  go_upto_region 1 with (fail)
  generalize (w.alloc _).alloc _ = W at *
  obtain ⟨z0, z1, z2⟩ := S0.out.cells
  go_wp2_with (refine wpList_makeF rfl 104 rfl undMEB encEV ?_; intro hmp)
  clear z0 z1 z2
  have R0 : Hid (GO u ha hc fa fc l w (W.alloc (.map #[] 0)) W.heap.size 0 (fun _ => none)) :=
    ⟨S0.out.below (one_below ..), RS0.out.below (one_below ..), hmp, by rw [HZ.out]; exact Nat.le_refl _, fun e => ⟨fun h => (by cases h), fun ⟨c, hc, _⟩ => by simp at hc⟩⟩
  clear hmp S0 RS0 HZ
  generalize W.heap.size = gm at *
  generalize W.alloc (.map #[] 0) = W1 at *
  go_loopw [17] (fun i wr => ∃ (k : Nat) (F : Edg → Option Value), k ≤ l.length ∧ i = .int .i64 k ∧ Hid (GO u ha hc fa fc l w wr gm k F)) (fun i _ => l.length - (intOf i).toNat)
  case atStart => exact ⟨0, _, Nat.zero_le _, rfl, R0.out⟩
  case round =>
    clear R0
    obtain ⟨k, F, hk, rfl, S⟩ := hrel
    by_cases hlt : k < l.length
    case pos =>
      obtain ⟨bb, off, he, m0, m1, m2⟩ := HL.out.below S.out.ub.hb k hlt
      subst he
      have HT : Hid (l.take (k + 1) = l.take k ++ [l[k]]) := List.take_succ_eq_append_getElem hlt
      generalize l[k] = x at *
      have BZ : Hid (Blk (wr.alloc (.cells #[.int .i64 0, .int .i64 0, .int .i64 0] 51)) wr.heap.size _ 51) := blk_new ..
      have hsz : wr.heap.size ≤ wr.heap.size := Nat.le_refl _
      go_upto_region 6 with (refine storeCal rfl _ _ rfl wr.heap.size _ _ _ rfl rfl _ BZ.out rfl ?_)
      have HB2 := Lib.hid (below_row (one_below wr (.cells #[.int .i64 0, .int .i64 0, .int .i64 0] 51)) hsz #[.int .i64 x.f, .int .i64 x.i, .int .i64 x.c])
      have B2 := Lib.hid (BZ.out.setRow #[.int .i64 x.f, .int .i64 x.i, .int .i64 x.c])
      have S2 := Lib.hid (S.out.below HB2.out)
      clear S BZ HB2 m0 m1 m2 hsz
      generalize (wr.alloc _).setRow wr.heap.size _ = W2 at *
      generalize wr.heap.size = n2 at *
      have y0 := B2.out.cell 0 (by simp)
      have y2 := B2.out.cell 2 (by simp)
      simp only [List.getElem_toArray, List.getElem_cons_zero, List.getElem_cons_succ] at y0 y2
      by_cases hr : rightC u.fs.length x = true
      case pos =>
        have HRC := Lib.hid hr
        obtain ⟨g1, g2, g3, g4⟩ := rightC_iff.1 hr
        have t1 := decide_eq_true g1
        have t2 := decide_eq_true g2
        have t3 := decide_eq_true g3
        have t4 := decide_eq_true g4
        clear hr g1 g2 g3 g4
        go_wp2_with (at_mapUpdate; refine wpList_mapF rfl _ _ _ _ rfl keyE undMEB gm rfl S2.out.mp (x.f, x.c) rfl (.bool true) rfl ?_; intro w3 hm3 hg3 hs3)
        have S3 : Hid (GO u ha hc fa fc l w w3 gm (k + 1) (fun e => if e = (x.f, x.c) then some (.bool true) else F e)) :=
          ⟨S2.out.ub.grow HH.out HF.out hg3 (fun q hq => by cases hq; have := S2.out.gg; omega), S2.out.rs.grown hg3 (blk_mapF S2.out.rs S2.out.mp), hm3, S2.out.gg, fun e => by rw [HT.out]; exact edge_t S2.out.ed HRC.out _ e⟩
        go_roundw
        case rel => exact ⟨k + 1, _, by omega, by go_num, S3.out⟩
        case measure => simp [intOf]; omega
      case neg =>
        have S3 : Hid (GO u ha hc fa fc l w W2 gm (k + 1) F) :=
          ⟨S2.out.ub, S2.out.rs, more S2.out.mp (Nat.le_succ _), S2.out.gg, fun e => by rw [HT.out]; exact edge_f S2.out.ed hr e⟩
        have HN : Hid (¬ (0 ≤ x.f ∧ x.f < (u.fs.length : Int) ∧ 0 ≤ x.c ∧ x.c < (u.fs.length : Int))) := fun h => hr (rightC_iff.2 h)
        clear S2 hr
        by_cases g1 : 0 ≤ x.f
        case neg =>
          have t1 := decide_eq_false g1
          clear g1
          go_wp2
          go_roundw
          case rel => exact ⟨k + 1, _, by omega, by go_num, S3.out⟩
          case measure => simp [intOf]; omega
        have t1 := decide_eq_true g1
        by_cases g2 : x.f < (u.fs.length : Int)
        case neg =>
          have t2 := decide_eq_false g2
          clear g1 g2
          go_wp2
          go_roundw
          case rel => exact ⟨k + 1, _, by omega, by go_num, S3.out⟩
          case measure => simp [intOf]; omega
        have t2 := decide_eq_true g2
        by_cases g3 : 0 ≤ x.c
        case neg =>
          have t3 := decide_eq_false g3
          clear g1 g2 g3
          go_wp2
          go_roundw
          case rel => exact ⟨k + 1, _, by omega, by go_num, S3.out⟩
          case measure => simp [intOf]; omega
        have t3 := decide_eq_true g3
        have g4 : ¬ x.c < (u.fs.length : Int) := fun g4 => HN.out ⟨g1, g2, g3, g4⟩
        have t4 := decide_eq_false g4
        clear g1 g2 g3 g4
        go_wp2
        go_roundw
        case rel => exact ⟨k + 1, _, by omega, by go_num, S3.out⟩
        case measure => simp [intOf]; omega
    case neg =>
      obtain rfl : k = l.length := by omega
      have HE : Hid (∀ e, (F e).isSome = true ↔ edgeIn u.fs.length l e) := by
        have := S.out.ed
        rw [List.take_length] at this
        exact this
      have BG : Hid (Blk (wr.alloc (.cells #[.int .i64 0, .slice none 0 0] 39)) wr.heap.size _ 39) := blk_new ..
      have hsz : wr.heap.size ≤ wr.heap.size := Nat.le_refl _
      have hge : w.heap.size + 2 ≤ wr.heap.size := Nat.le_trans S.out.gg (Nat.le_of_lt S.out.mp.lt)
      go_upto_region 10 with (refine storeGraph rfl _ _ rfl wr.heap.size _ _ _ _ rfl rfl _ BG.out rfl ?_)
      have HB2 := Lib.hid (below_row (one_below wr (.cells #[.int .i64 0, .slice none 0 0] 39)) hsz #[.int .i64 u.fs.length, .slice none 0 0])
      have B2 := Lib.hid (BG.out.setRow #[.int .i64 u.fs.length, .slice none 0 0])
      have S2 := Lib.hid (S.out.below HB2.out)
      clear S BG HB2 hsz
      generalize (wr.alloc _).setRow wr.heap.size _ = W2 at *
      generalize wr.heap.size = gb at *
      go_wp2_with (at_range; refine wpList_rangeF rfl _ _ rfl undMEB gm rfl S2.out.mp ?_; intro w4 left0 hit hall hln hb4 hs4)
      have hri : w.heap.size + 2 ≤ W2.heap.size := Nat.le_trans hge (Nat.le_of_lt B2.out.lt)
      have R0 : Hid (GP u ha hc fa fc w w4 gb gm W2.heap.size l.length F left0 [] none 0) :=
        ⟨S2.out.ub.below hb4, S2.out.rs.below hb4, B2.out.below hb4, hit, World.ownsRow_nil _ _ _ _, hge, hri, S2.out.gg⟩
      have HALL : Hid ((∀ e, e ∈ left0.map (·.1) ↔ edgeIn u.fs.length l e) ∧ (left0.map (·.1)).Nodup) := by
        refine ⟨fun e => ?_, hit.holds.2⟩
        rw [← HE.out e]
        constructor
        · intro he
          obtain ⟨p, hp, rfl⟩ := List.mem_map.1 he
          rw [hit.holds.1 p hp]; rfl
        · intro he
          obtain ⟨v, hv⟩ := Option.isSome_iff_exists.1 he
          exact List.mem_map.2 ⟨(e, v), hall e v hv, rfl⟩
      have HLN : left0.length ≤ 1000000 := by omega
      clear hit hall hln hb4 hs4 B2 S2 hri hge HE
      generalize W2.heap.size = ri at *
      go_frame
      go_loopw [] (fun wr => ∃ left, ∃ (done : List Edg) (oa : Option Addr) (oc : Nat), Hid (GP u ha hc fa fc w wr gb gm ri l.length F left done oa oc) ∧ Hid ((done ++ left.map (·.1)).Perm (left0.map (·.1)))) (fun wr => leftN wr ri)
      case atStart => exact ⟨left0, [], none, 0, R0.out, List.Perm.refl _⟩
      case round =>
        clear R0
        obtain ⟨left, done, oa, oc, R, PM⟩ := hrel
        have hdl := perm_len PM.out
        go_wp2_with (at_next; refine wpList_nextF rfl _ rfl ri gm left rfl R.out.it ?_ ?_)
        · intro h0
          subst h0
          have PD : Hid (done.Perm (left0.map (·.1))) := by
            have h := PM.out
            rw [List.map_nil, List.append_nil] at h
            exact h
          clear PM
          have y1 := R.out.gr.cell 1 (by simp)
          simp only [List.getElem_toArray, List.getElem_cons_zero, List.getElem_cons_succ] at y1
          go_wp2_with fail
          refine (sortE_own done oa oc (w.heap.size + 2) wr R.out.ow (by omega)).mono ?_
          rintro e w5 ⟨rfl, hg5, own5⟩
          have U5 := Lib.hid (R.out.ub.grow HH.out HF.out hg5 (fun q hq => by have := (R.out.ow.lt q hq).1; omega))
          have G5 := Lib.hid (R.out.gr.grown hg5 (owns_ne R.out.ow R.out.gr (by decide)))
          have R5 := Lib.hid (R.out.rs.grown hg5 (owns_ne R.out.ow R.out.rs (by decide)))
          have O5 := Lib.hid own5
          have hgb := R.out.gb
          clear R y1 hg5 own5
          have y0 := G5.out.cell 0 (by simp)
          have y1 := G5.out.cell 1 (by simp)
          simp only [List.getElem_toArray, List.getElem_cons_zero, List.getElem_cons_succ] at y0 y1
          go_wp2_with (refine storeGraph rfl _ _ rfl (w.heap.size + 1) _ _ _ _ rfl rfl _ R5.out rfl ?_)
          have hX : Blk (w5.setRow (w.heap.size + 1) #[.int .i64 u.fs.length, .slice oa done.length oc]) (w.heap.size + 1) #[.int .i64 u.fs.length, .slice oa done.length oc] 39 := R5.out.setRow _
          refine bodyPost_ret (v := .agg #[.int .i64 u.fs.length, .slice oa done.length oc]) (results_c HR _ _ (w.heap.size + 1) _ _ rfl hX Tryz.underlying39 rfl (by kernel_rfl)) rfl ?_
          have hb6 := below_setRow U5.out.hb (Nat.le_succ _) #[.int .i64 u.fs.length, .slice oa done.length oc]
          have O6 : (w5.setRow (w.heap.size + 1) #[.int .i64 u.fs.length, .slice oa done.length oc]).ownsRow (w.heap.size + 2) 42 2 (.slice oa done.length oc) done.length (flatE (sortE done)) :=
            O5.out.kept (grown_row w5 (w.heap.size + 1) _) (by
              cases hv : Value.ownBlock (.slice oa done.length oc) with
              | none => exact .inl rfl
              | some q => exact .inr (fun e => by cases e; have := (O5.out.lt _ hv).1; omega))
          have hlen := sortE_len done
          exact ⟨hb6, sortE done, oa, oc, by rw [hlen], graph_sorted HALL.out.2 HALL.out.1 ((sortE_perm done).trans PD.out) (sortE_pw done), by rw [hlen]; exact owns_mono O6 (Nat.le_add_right _ _), by rw [hlen]; omega⟩
        · intro e1 e2 pv j w4 hp hF hit4 hg4 hs4 hen
          have PM2 := Lib.hid (perm_next PM.out hp)
          have hpl := (perm_erase hp).length_eq
          have hm4 := R.out.it.leftN
          have R4 : Hid (GP u ha hc fa fc w w4 gb gm ri l.length F (left.eraseIdx j) done oa oc) :=
            ⟨R.out.ub.grow HH.out HF.out hg4 (fun q hq => by cases hq; have := R.out.gi; omega), R.out.rs.grown hg4 (blk_iter R.out.rs R.out.it), R.out.gr.grown hg4 (blk_iter R.out.gr R.out.it), hit4, R.out.ow.kept hg4 (.inr (fun e => owns_iter R.out.ow R.out.it e.symm)), R.out.gb, R.out.gi, R.out.gg⟩
          clear R PM hF hit4 hg4 hs4 hp
          try simp only [encEV] at hen
          have BZ : Hid (Blk (w4.alloc (.cells #[.int .i64 0, .int .i64 0] 42)) w4.heap.size _ 42) := blk_new ..
          have hsz : w4.heap.size ≤ w4.heap.size := Nat.le_refl _
          go_upto_region 13 with (refine storeEdge rfl _ _ rfl w4.heap.size _ _ rfl rfl _ BZ.out rfl ?_)
          have HB5 := Lib.hid (below_row (one_below w4 (.cells #[.int .i64 0, .int .i64 0] 42)) hsz #[.int .i64 e1, .int .i64 e2])
          have B5 := Lib.hid (BZ.out.setRow #[.int .i64 e1, .int .i64 e2])
          have R5 := Lib.hid (R4.out.below HB5.out)
          clear R4 BZ HB5 hsz hen
          generalize (w4.alloc _).setRow w4.heap.size _ = W5 at *
          generalize w4.heap.size = n5 at *
          have x0 := B5.out.cell 0 (by simp)
          have x1 := B5.out.cell 1 (by simp)
          have y1 := R5.out.gr.cell 1 (by simp)
          simp only [List.getElem_toArray, List.getElem_cons_zero, List.getElem_cons_succ] at x0 x1 y1
          have R6 := Lib.hid (R5.out.below (one_below W5 (.cells #[.int .i64 e1, .int .i64 e2] 42)))
          have B6 : Hid (Blk (W5.alloc (.cells #[.int .i64 e1, .int .i64 e2] 42)) W5.heap.size #[.int .i64 e1, .int .i64 e2] 42) := blk_new ..
          have hbs := R6.out.ub.hb.size
          have hb2 : w.heap.size + 2 ≤ (W5.alloc (.cells #[.int .i64 e1, .int .i64 e2] 42)).heap.size := Nat.le_trans R6.out.gb (Nat.le_of_lt R6.out.gr.lt)
          go_wp2_with (at_builtin; refine app_edge rfl _ _ rfl (w.heap.size + 2) _ done rfl R6.out.ow W5.heap.size (e1, e2) rfl B6.out (by omega) hb2 ?_; intro v7 W7 own7 hg7; have G7 := R6.out.gr.grown hg7 (owns_ne R6.out.ow R6.out.gr (by decide)); have q1 := G7.cell 1 (by simp); have q2 := G7.free 1; simp only [List.getElem_toArray, List.getElem_cons_zero, List.getElem_cons_succ] at q1; obtain ⟨-, oa7, oc7, rfl, -, -, -⟩ := owns_edgs own7)
          have hfr : ∀ q, Value.ownBlock (.slice oa done.length oc) = some q → w.heap.size + 2 ≤ q := fun q hq => (R6.out.ow.lt q hq).1
          have hgb := R6.out.gb
          have U7 := R6.out.ub.grow HH.out HF.out hg7 (fun q hq => by have := hfr q hq; omega)
          have RS7 := R6.out.rs.grown hg7 (owns_ne R6.out.ow R6.out.rs (by decide))
          have I7 := R6.out.it.grown hg7 (owns_mapF R6.out.ow R6.out.it.map) (owns_iter R6.out.ow R6.out.it)
          have hgs := grown_set W7 gb 1 (.slice oa7 (done ++ [(e1, e2)]).length oc7)
          have R8 : Hid (GP u ha hc fa fc w (W7.setCell ⟨gb, 1, none⟩ (.slice oa7 (done ++ [(e1, e2)]).length oc7)) gb gm ri l.length F (left.eraseIdx j) (done ++ [(e1, e2)]) oa7 oc7) :=
            ⟨U7.grow HH.out HF.out hgs (fun q hq => by cases hq; omega), RS7.grown hgs (fun e => by cases e; omega), G7.set 1 _, I7.grown hgs (fun e => blk_mapF G7 I7.map e.symm) (fun e => blk_iter G7 I7 e.symm), own7.kept hgs (.inr (fun e => owns_ne own7 G7 (by decide) e.symm)), hgb, R6.out.gi, R6.out.gg⟩
          have hl1 : (done ++ [(e1, e2)]).length = done.length + 1 := by simp
          rw [hl1] at R8
          clear hl1
          have hm8 := R8.out.it.leftN
          go_roundw
          case rel => exact ⟨left.eraseIdx j, done ++ [(e1, e2)], oa7, oc7, R8.out, PM2.out⟩
          case measure =>
            rw [hm8, hm4]
            simp at hpl
            omega
end Go.Proofs.YtkbmnfijeknenaaGreatDoor
namespace Go.Proofs.YtkbmnfijeknenaaGreatDoor
open Go.RowKit Go.Unit0 Go.AM Go.Sort

def sortI (l : List Int) : List Int := l.mergeSort fun x y => decide (x ≤ y)
theorem sortI_perm (l : List Int) : (sortI l).Perm l := List.mergeSort_perm _ _
theorem sortI_len (l : List Int) : (sortI l).length = l.length := (sortI_perm l).length_eq
theorem sortI_le (l : List Int) : (sortI l).Pairwise (· ≤ ·) := by
  have h := List.pairwise_mergeSort (le := fun (x y : Int) => decide (x ≤ y)) (fun a b c h1 h2 => by simp at *; omega) (fun a b => by simp; omega) l
  exact h.imp fun h => by simpa using h
theorem sortI_lt {l : List Int} (hn : l.Nodup) : (sortI l).Pairwise (· < ·) := by
  have hn2 : (sortI l).Nodup := (sortI_perm l).nodup_iff.2 hn
  have := List.pairwise_and_iff.2 ⟨sortI_le l, hn2⟩
  exact this.imp (fun h => by have := h.1; have := h.2; omega)
def posL (l : List Int) : List Int := l.filter (fun x => decide (0 ≤ x))
theorem posL_t {l : List Int} {x : Int} (h : 0 ≤ x) : posL (l ++ [x]) = posL l ++ [x] := by simp [posL, h]
theorem posL_f {l : List Int} {x : Int} (h : ¬ 0 ≤ x) : posL (l ++ [x]) = posL l := by simp [posL, h]
theorem posL_len (l : List Int) : (posL l).length ≤ l.length := List.length_filter_le _ _
set_option maxHeartbeats 1000000 in
theorem sort_ownI (l : List Int) (a : Option Addr) (c base : Nat) (w : World) (own : w.ownsRow base 3 1 (.slice a l.length c) l.length (l.map intV)) (hl : l.length ≤ 1000000) :
    Calls Tryz.prog 100 #[.slice a l.length c] w (fun e w' => e = .returned (.tuple #[]) ∧ w.grownBy w' (Value.slice a l.length c).ownBlock ∧ w'.ownsRow base 3 1 (.slice a l.length c) l.length ((sortI l).map intV)) := by
  have own0 := own
  obtain ⟨_, hown⟩ := own
  rcases hown with ⟨e, h0⟩ | ⟨g, cap, cur, e, hbase, hh, hn, hcap, hsz, ht⟩
  · have hl0 : l = [] := List.eq_nil_of_length_eq_zero h0
    subst hl0
    cases e
    have e0 : sortI [] = [] := by simp [sortI]
    rw [e0]
    refine (Tryz.slices_Sort_int_none none 0 w).mono ?_
    rintro e w' ⟨rfl, rfl⟩
    exact ⟨rfl, World.grownBy.refl _ _, own0⟩
  · cases e
    have hH := holds_of_blockI (ss := l) hh (by rw [Nat.mul_one] at ht; exact ht)
    have h := Tryz.slices_Sort_int g 0 c l w hH (Array.getElem?_eq_some_iff.1 hh).1 (by omega)
    refine h.mono ?_
    rintro e w' ⟨rfl, n, os, rfl⟩
    have ow := ownsRow_sortedI (n := n) (os := os) (ts := sortI l) (sortI_len l) hbase hh (by omega) hcap hsz
    exact ⟨rfl, grownBy_sortedI _, ow⟩
structure FP (w wr : World) (g ri m : Nat) (F : Int → Option Value) (left : List (Int × Value)) (l : List Int) (oa : Option Addr) (oc : Nat) : Prop where
  hb : Go.RowKit.Below w.heap.size w wr
  it : IterF wr ri g (Value.int .i64) F m left
  ow : wr.ownsRow w.heap.size 3 1 (.slice oa l.length oc) l.length (l.map intV)
  gi : w.heap.size ≤ ri
theorem FP.below {w wr w' : World} {g ri m : Nat} {F : Int → Option Value} {left : List (Int × Value)} {l : List Int} {oa : Option Addr} {oc : Nat} (k : FP w wr g ri m F left l oa oc) (hb : Go.RowKit.Below wr.heap.size wr w') : FP w w' g ri m F left l oa oc :=
  ⟨k.hb.trans (hb.mono k.hb.size), k.it.below hb, owns_below k.ow hb, k.gi⟩
def SetPost (S : Int → Prop) (w : World) (e : Ending) (w' : World) : Prop :=
  Go.RowKit.Below w.heap.size w w' ∧ ∃ (L : List Int) (a : Option Addr) (c : Nat), e = .returned (.slice a L.length c) ∧ L.Pairwise (· < ·) ∧ (∀ x, x ∈ L ↔ S x) ∧ w'.ownsRow w.heap.size 3 1 (.slice a L.length c) L.length (L.map intV)
set_option maxRecDepth 100000 in
set_option maxHeartbeats 4000000 in
theorem functionsP (F : Int → Option Value) (g m : Nat) (w : World) (hm : MapF w g (Value.int .i64) F m) (hml : m ≤ 1000000) :
    Calls Tryz.prog 51 #[.map (some g)] w (SetPost (fun x => 0 ≤ x ∧ (F x).isSome = true) w) := by
  have HM := Lib.hid hm
  clear hm
  go_enter Tryz.func51, Tryz.ntmps51
  go_wp2_with (at_range; refine wpList_rangeF rfl _ _ rfl undMIB g rfl HM.out ?_; intro w1 left0 hit hall hln hb1 hs1)
  have R0 : Hid (FP w w1 g w.heap.size m F left0 [] none 0) := ⟨hb1, hit, World.ownsRow_nil _ _ _ _, Nat.le_refl _⟩
  have HALL : Hid ((∀ x, x ∈ left0.map (·.1) ↔ (F x).isSome = true) ∧ (left0.map (·.1)).Nodup) := by
    refine ⟨fun e => ?_, hit.holds.2⟩
    constructor
    · intro he
      obtain ⟨p, hp, rfl⟩ := List.mem_map.1 he
      rw [hit.holds.1 p hp]; rfl
    · intro he
      obtain ⟨v, hv⟩ := Option.isSome_iff_exists.1 he
      exact List.mem_map.2 ⟨(e, v), hall e v hv, rfl⟩
  have HLN : left0.length ≤ 1000000 := by omega
  clear hit hall hln hb1 hs1 HM
  generalize hri : w.heap.size = ri at R0 ⊢
  have hri' : w.heap.size ≤ ri := Nat.le_of_eq hri
  clear hri
  go_frame
  go_loopw [3] (fun v wr => ∃ left, ∃ (done : List Int) (oa : Option Addr) (oc : Nat), v = .slice oa (posL done).length oc ∧ Hid (FP w wr g ri m F left (posL done) oa oc) ∧ Hid ((done ++ left.map (·.1)).Perm (left0.map (·.1)))) (fun _ wr => leftN wr ri)
  case atStart => exact ⟨left0, [], none, 0, rfl, R0.out, List.Perm.refl _⟩
  case round =>
    clear R0
    obtain ⟨left, done, oa, oc, rfl, R, PM⟩ := hrel
    have hdl := perm_len PM.out
    have hpl := posL_len done
    go_wp2_with (at_next; refine wpList_nextF rfl _ rfl ri g left rfl R.out.it ?_ ?_)
    · intro h0
      subst h0
      have PD : Hid (done.Perm (left0.map (·.1))) := by
        have h := PM.out
        rw [List.map_nil, List.append_nil] at h
        exact h
      clear PM
      go_wp2_with fail
      refine (sort_ownI (posL done) oa oc w.heap.size wr R.out.ow (by omega)).mono ?_
      rintro e w5 ⟨rfl, hg5, own5⟩
      have HB5 := Lib.hid (R.out.hb.grown hg5 R.out.hb.size (fun q hq => (R.out.ow.lt q hq).1))
      have O5 := Lib.hid own5
      clear R hg5 own5
      go_wp2
      go_ret
      have hlen := sortI_len (posL done)
      have O6 := O5.out
      rw [← hlen] at O6 ⊢
      refine ⟨HB5.out, sortI (posL done), oa, oc, rfl, sortI_lt ((PD.out.nodup_iff.2 HALL.out.2).filter _), fun x => ?_, O6⟩
      rw [(sortI_perm _).mem_iff, posL, List.mem_filter, PD.out.mem_iff, HALL.out.1 x]
      simp [and_comm]
    · intro x pv j w4 hp hF hit4 hg4 hs4 hen
      have PM2 := Lib.hid (perm_next PM.out hp)
      have hel := (perm_erase hp).length_eq
      have hm4 := R.out.it.leftN
      have R4 : Hid (FP w w4 g ri m F (left.eraseIdx j) (posL done) oa oc) :=
        ⟨R.out.hb.grown hg4 R.out.hb.size (fun q hq => by cases hq; exact R.out.gi), hit4, R.out.ow.kept hg4 (.inr (fun e => owns_iter R.out.ow R.out.it e.symm)), R.out.gi⟩
      clear R PM hF hit4 hg4 hs4 hp
      by_cases hx : 0 ≤ x
      case neg =>
        have HP : Hid (posL (done ++ [x]) = posL done) := posL_f hx
        have t1 := decide_eq_false hx
        clear hx
        go_wp2
        have hm8 := R4.out.it.leftN
        go_roundw
        case rel => exact ⟨left.eraseIdx j, done ++ [x], oa, oc, by rw [HP.out], by rw [HP.out]; exact R4.out, PM2.out⟩
        case measure =>
          rw [hm8, hm4]
          simp at hel
          omega
      case pos =>
        have HP : Hid (posL (done ++ [x]) = posL done ++ [x]) := posL_t hx
        have t1 := decide_eq_true hx
        clear hx
        have R6 := Lib.hid (R4.out.below (one_below w4 (.cells #[.int .i64 x] 3)))
        have hbs := R6.out.hb.size
        go_wp2_with (at_builtin; refine app_ints rfl _ _ rfl w.heap.size _ (posL done) rfl R6.out.ow _ 1 [x] rfl (ints_new _ _) (by omega) (by simp) hbs ?_; intro v7 W7 own7 hg7; obtain ⟨-, oa7, oc7, rfl, -, -⟩ := owns_ints own7)
        have R8 : Hid (FP w W7 g ri m F (left.eraseIdx j) (posL done ++ [x]) oa7 oc7) :=
          ⟨R6.out.hb.grown hg7 hbs (fun q hq => (R6.out.ow.lt q hq).1), R6.out.it.grown hg7 (owns_mapF R6.out.ow R6.out.it.map) (owns_iter R6.out.ow R6.out.it), own7, R6.out.gi⟩
        have hm8 := R8.out.it.leftN
        go_roundw
        case rel => exact ⟨left.eraseIdx j, done ++ [x], oa7, oc7, by rw [HP.out, List.length_append] <;> rfl, by rw [HP.out]; exact R8.out, PM2.out⟩
        case measure =>
          rw [hm8, hm4]
          simp at hel
          omega
end Go.Proofs.YtkbmnfijeknenaaGreatDoor
