/-
  An analysis in contexts, in memory.
-/
import Derived.Test.YtdbmmdjmkbnboaaGreatDoorQn
namespace Go.Unit0
structure Ict where
  fn : Int
  ctx : List Int
structure Icl where
  fr : Ict
  at_ : Int
  tt : Ict
structure Ivr where
  inn : Ict
  var : Int
  refs : List Ict
structure Ctr where
  insts : List Ict
  calls : List Icl
  vars : List Ivr
def sumR (l : List Ivr) : Nat := (l.map (fun x => x.refs.length)).sum
theorem sumR_snoc {l : List Ivr} {k : Nat} (hk : k < l.length) : sumR (l.take (k + 1)) = sumR (l.take k) + l[k].refs.length := by
  have e : l.take (k + 1) = l.take k ++ [l[k]] := List.take_succ_eq_append_getElem hk
  unfold sumR
  rw [e, List.map_append, List.sum_append]; simp
theorem sumR_le (l : List Ivr) (k : Nat) : sumR (l.take k) ≤ sumR l := by
  conv => rhs; rw [← List.take_append_drop k l]
  unfold sumR
  rw [List.map_append, List.sum_append]; omega
/-- few enough to be compared -/
structure FewC (r : Ctr) : Prop where
  i : r.insts.length ≤ 150
  v : r.vars.length ≤ 800
  ix : ∀ x ∈ r.insts, x.ctx.length ≤ 8000
  vr : sumR r.vars ≤ 8000
-- the sites of a variable; the contexts of a function
def refL (f v : Int) (x : Ivr) : List Int := if x.inn.fn = f ∧ x.var = v then x.refs.map (·.fn) else []
def ofQ (r : Ctr) (f v : Int) (q : Nat) : List Int := (r.vars.take q).flatMap (refL f v)
theorem ofQ_succ {r : Ctr} {f v : Int} {q : Nat} (hq : q < r.vars.length) : ofQ r f v (q + 1) = ofQ r f v q ++ refL f v r.vars[q] := by
  unfold ofQ
  rw [List.take_succ_eq_append_getElem hq, List.flatMap_append]; simp
theorem refL_len (f v : Int) (x : Ivr) : (refL f v x).length ≤ x.refs.length := by
  unfold refL; split <;> simp
theorem ofQ_len (r : Ctr) (f v : Int) : ∀ q, (ofQ r f v q).length ≤ sumR (r.vars.take q)
  | 0 => by simp [ofQ]
  | q + 1 => by
    have ih := ofQ_len r f v q
    by_cases hq : q < r.vars.length
    · rw [ofQ_succ hq, List.length_append, sumR_snoc hq]
      have := refL_len f v r.vars[q]
      omega
    · unfold ofQ at *
      rw [List.take_of_length_le (by omega)] at ih
      rw [List.take_of_length_le (show r.vars.length ≤ q + 1 by omega)]
      exact ih
def ctxQ (r : Ctr) (f : Int) (q : Nat) : List (List Int) := ((r.insts.take q).filter (fun x => decide (x.fn = f))).map (·.ctx)
theorem ctxQ_t {r : Ctr} {f : Int} {q : Nat} (hq : q < r.insts.length) (h : r.insts[q].fn = f) : ctxQ r f (q + 1) = ctxQ r f q ++ [r.insts[q].ctx] := by
  unfold ctxQ
  rw [List.take_succ_eq_append_getElem hq, List.filter_append, List.map_append]; simp [h]
theorem ctxQ_f {r : Ctr} {f : Int} {q : Nat} (hq : q < r.insts.length) (h : ¬ r.insts[q].fn = f) : ctxQ r f (q + 1) = ctxQ r f q := by
  unfold ctxQ
  rw [List.take_succ_eq_append_getElem hq, List.filter_append, List.map_append]; simp [h]
theorem ctxQ_len (r : Ctr) (f : Int) (q : Nat) : (ctxQ r f q).length ≤ q := by
  unfold ctxQ
  rw [List.length_map]
  exact Nat.le_trans (List.length_filter_le _ _) (by simp; omega)
end Go.Unit0
namespace Go.Proofs.YtdbmmdjmkbnboaaGreatDoor
open Go.RowKit Go.Unit0

/-- functions or sites in contexts at an address -/
def IctsAt (w : World) (a : Option Addr) (l : List Ict) : Prop :=
  ∀ k (h : k < l.length), ∃ b off ca cc, a = some ⟨b, off, none⟩ ∧ w.cell? ⟨b, off + k * 2, none⟩ = some (.int .i64 l[k].fn) ∧ w.cell? ⟨b, off + k * 2 + 1, none⟩ = some (.slice ca l[k].ctx.length cc) ∧ IntsAt w ca l[k].ctx
theorem IctsAt.below {w w' : World} {a : Option Addr} {l : List Ict} (h : IctsAt w a l) (hb : Below w.heap.size w w') : IctsAt w' a l := by
  intro k hk
  obtain ⟨b, off, ca, cc, ha, h0, h1, h2⟩ := h k hk
  exact ⟨b, off, ca, cc, ha, cell_below hb h0, cell_below hb h1, h2.below hb⟩
def IclsAt (w : World) (a : Option Addr) (l : List Icl) : Prop :=
  ∀ k (h : k < l.length), ∃ b off ca cc da dc, a = some ⟨b, off, none⟩ ∧ w.cell? ⟨b, off + k * 5, none⟩ = some (.int .i64 l[k].fr.fn) ∧ w.cell? ⟨b, off + k * 5 + 1, none⟩ = some (.slice ca l[k].fr.ctx.length cc) ∧ w.cell? ⟨b, off + k * 5 + 2, none⟩ = some (.int .i64 l[k].at_) ∧ w.cell? ⟨b, off + k * 5 + 3, none⟩ = some (.int .i64 l[k].tt.fn) ∧ w.cell? ⟨b, off + k * 5 + 4, none⟩ = some (.slice da l[k].tt.ctx.length dc)
theorem IclsAt.below {w w' : World} {a : Option Addr} {l : List Icl} (h : IclsAt w a l) (hb : Below w.heap.size w w') : IclsAt w' a l := by
  intro k hk
  obtain ⟨b, off, ca, cc, da, dc, ha, h0, h1, h2, h3, h4⟩ := h k hk
  exact ⟨b, off, ca, cc, da, dc, ha, cell_below hb h0, cell_below hb h1, cell_below hb h2, cell_below hb h3, cell_below hb h4⟩
def IvrsAt (w : World) (a : Option Addr) (l : List Ivr) : Prop :=
  ∀ k (h : k < l.length), ∃ b off ca cc ra rc, a = some ⟨b, off, none⟩ ∧ w.cell? ⟨b, off + k * 4, none⟩ = some (.int .i64 l[k].inn.fn) ∧ w.cell? ⟨b, off + k * 4 + 1, none⟩ = some (.slice ca l[k].inn.ctx.length cc) ∧ w.cell? ⟨b, off + k * 4 + 2, none⟩ = some (.int .i64 l[k].var) ∧ w.cell? ⟨b, off + k * 4 + 3, none⟩ = some (.slice ra l[k].refs.length rc) ∧ IctsAt w ra l[k].refs
theorem IvrsAt.below {w w' : World} {a : Option Addr} {l : List Ivr} (h : IvrsAt w a l) (hb : Below w.heap.size w w') : IvrsAt w' a l := by
  intro k hk
  obtain ⟨b, off, ca, cc, ra, rc, ha, h0, h1, h2, h3, h4⟩ := h k hk
  exact ⟨b, off, ca, cc, ra, rc, ha, cell_below hb h0, cell_below hb h1, cell_below hb h2, cell_below hb h3, h4.below hb⟩
/-- where an analysis' lists lie -/
structure CP where
  ia : Option Addr
  ic : Nat
  ca : Option Addr
  cc : Nat
  va : Option Addr
  vc : Nat
abbrev ctA (r : Ctr) (p : CP) : Array Value := #[.slice p.ia r.insts.length p.ic, .slice p.ca r.calls.length p.cc, .slice p.va r.vars.length p.vc]
abbrev ctC (r : Ctr) (p : CP) : Obj := .cells #[.slice p.ia r.insts.length p.ic, .slice p.ca r.calls.length p.cc, .slice p.va r.vars.length p.vc] 33
def ctV (r : Ctr) (p : CP) : Value := .agg #[.slice p.ia r.insts.length p.ic, .slice p.ca r.calls.length p.cc, .slice p.va r.vars.length p.vc]
structure CtrAt (w : World) (p : CP) (r : Ctr) : Prop where
  i : IctsAt w p.ia r.insts
  c : IclsAt w p.ca r.calls
  v : IvrsAt w p.va r.vars
theorem CtrAt.below {w w' : World} {p : CP} {r : Ctr} (h : CtrAt w p r) (hb : Below w.heap.size w w') : CtrAt w' p r := ⟨h.i.below hb, h.c.below hb, h.v.below hb⟩
/-- an analysis boxed -/
structure CB8 (r : Ctr) (p : CP) (w wr : World) : Prop where
  hb : Below w.heap.size w wr
  b1 : Blk wr w.heap.size #[.slice p.ia r.insts.length p.ic, .slice p.ca r.calls.length p.cc, .slice p.va r.vars.length p.vc] 33
  m : CtrAt wr p r
section
variable {r : Ctr} {p : CP} {w wr w' : World}
theorem CB8.below (k : CB8 r p w wr) (hb : Below wr.heap.size wr w') : CB8 r p w w' := ⟨k.hb.trans (hb.mono k.hb.size), k.b1.below hb, k.m.below hb⟩
theorem CB8.start (h : CtrAt w p r) : CB8 r p w (w.alloc (ctC r p)) := ⟨one_below .., blk_new .., h.below (one_below ..)⟩
theorem CB8.cells (k : CB8 r p w wr) : wr.cell? ⟨w.heap.size, 0, none⟩ = some (.slice p.ia r.insts.length p.ic) ∧ wr.cell? ⟨w.heap.size, 1, none⟩ = some (.slice p.ca r.calls.length p.cc) ∧ wr.cell? ⟨w.heap.size, 2, none⟩ = some (.slice p.va r.vars.length p.vc) :=
  ⟨k.b1.cell 0 (by simp), k.b1.cell 1 (by simp), k.b1.cell 2 (by simp)⟩
end
theorem storeIct {ops : Array Oper} {rest : List Oper} {o : Oper} {a : Act} {w : World} {Q : Exit → Act → World → Prop} (hgd : o.guard = none) (hd : o.dst = none) (x y : Operand) (ho : o.op = .store 59 x y)
    (g : Nat) (n : Int) (p : Option Addr) (l c : Nat) (hx : a.eval x = .pointer (some ⟨g, 0, none⟩)) (hy : a.eval y = .agg #[.int .i64 n, .slice p l c])
    (old : Array Value) (hg : Blk w g old 59) (hold : old.size = 2)
    (h : wpList Tryz.prog ops Q rest a (w.setRow g #[.int .i64 n, .slice p l c])) : wpList Tryz.prog ops Q (o :: rest) a w :=
  wpList_store_row hgd 59 x y ho g _ hx hy 59 old hg (by kernel_rfl) hold (by simp [Value.oneCell']) (by rw [hd]; exact h)
abbrev zIvC : Obj := .cells #[.int .i64 0, .slice none 0 0, .int .i64 0, .slice none 0 0] 64
abbrev zIcC : Obj := .cells #[.int .i64 0, .slice none 0 0] 59
abbrev zIhC : Obj := .cells #[.int .i64 0, .slice none 0 0] 66
theorem storeIvr {ops : Array Oper} {rest : List Oper} {o : Oper} {a : Act} {w : World} {Q : Exit → Act → World → Prop} (hgd : o.guard = none) (hd : o.dst = none) (x y : Operand) (ho : o.op = .store 64 x y)
    (g : Nat) (n : Int) (p : Option Addr) (l c : Nat) (v : Int) (q : Option Addr) (m d : Nat) (hx : a.eval x = .pointer (some ⟨g, 0, none⟩)) (hy : a.eval y = .agg #[.int .i64 n, .slice p l c, .int .i64 v, .slice q m d])
    (old : Array Value) (hg : Blk w g old 64) (hold : old.size = 4)
    (h : wpList Tryz.prog ops Q rest a (w.setRow g #[.int .i64 n, .slice p l c, .int .i64 v, .slice q m d])) : wpList Tryz.prog ops Q (o :: rest) a w :=
  wpList_store_row hgd 64 x y ho g _ hx hy 64 old hg (by kernel_rfl) hold (by simp [Value.oneCell']) (by rw [hd]; exact h)
/-- a row of one's own has grown -/
theorem CB8.grow {r : Ctr} {p : CP} {w wr w' : World} {e s n : Nat} {v : Value} {xs : List Value} (k : CB8 r p w wr) (hm : CtrAt w p r) (own : wr.ownsRow w.heap.size e s v n xs) (hne : 33 ≠ e) (hg : wr.grownBy w' v.ownBlock) : CB8 r p w w' :=
  ⟨grow_below k.hb own hg, k.b1.grown hg (owns_ne own k.b1 hne), hm.below (grow_below k.hb own hg)⟩
theorem storeIhs {ops : Array Oper} {rest : List Oper} {o : Oper} {a : Act} {w : World} {Q : Exit → Act → World → Prop} (hgd : o.guard = none) (hd : o.dst = none) (x y : Operand) (ho : o.op = .store 66 x y)
    (g : Nat) (n : Int) (p : Option Addr) (l c : Nat) (hx : a.eval x = .pointer (some ⟨g, 0, none⟩)) (hy : a.eval y = .agg #[.int .i64 n, .slice p l c])
    (old : Array Value) (hg : Blk w g old 66) (hold : old.size = 2)
    (h : wpList Tryz.prog ops Q rest a (w.setRow g #[.int .i64 n, .slice p l c])) : wpList Tryz.prog ops Q (o :: rest) a w :=
  wpList_store_row hgd 66 x y ho g _ hx hy 66 old hg (by kernel_rfl) hold (by simp [Value.oneCell']) (by rw [hd]; exact h)
end Go.Proofs.YtdbmmdjmkbnboaaGreatDoor
