/-
  What Apply computes, plainly; its memory: a report that grows.
-/
import Derived.Test.YtpgmjfnjdgdmcaaDoorP28
namespace Go.Proofs.YtpgmjfnjdgdmcaaDoor
open Go.RowKit Go.Sort

/-- the first error -/
def firstE {α : Type} (E : α → Int) : List α → Int
  | [] => 0
  | x :: l => if E x ≠ 0 then E x else firstE E l
theorem firstE_at {α : Type} {E : α → Int} : ∀ {l : List α} {k : Nat} (h : k < l.length), (∀ n ∈ l.take k, E n = 0) → E l[k] ≠ 0 → firstE E l = E l[k]
  | n :: l, 0, _, _, h2 => by simp only [firstE]; rw [if_pos (by simpa using h2)]; rfl
  | n :: l, k + 1, h, h1, h2 => by
    simp only [firstE]
    rw [if_neg (by simpa using h1 n (by simp))]
    exact firstE_at (l := l) (k := k) (by simpa using h) (fun m hm => h1 m (by simp [hm])) (by simpa using h2)
theorem firstE_all {α : Type} {E : α → Int} : ∀ {l : List α}, (∀ n ∈ l, E n = 0) → firstE E l = 0
  | [], _ => rfl
  | n :: l, h => by
    simp only [firstE]
    rw [if_neg (by simpa using h n (by simp))]
    exact firstE_all fun m hm => h m (by simp [hm])
/-- ascending, one by one -/
def Asc (l : List Fd) (k : Nat) : Prop := ∀ i, 1 ≤ i → i < k → ∀ (h : i < l.length), cmpF (l[i - 1]'(by omega)) l[i] < 0
open Classical in
/-- the error of Apply -/
noncomputable def appE (l : List Fd) (notes : List Nt) : Int :=
  if 1000 < l.length ∨ 200 < notes.length then 3 else if firstE findE l ≠ 0 then firstE findE l else if ¬ Asc l l.length then 13 else firstE noteE notes
def isOpen (notes : List Nt) (f : Fd) : Bool := decide (fstN notes f < 0)
def openOf (notes : List Nt) (l : List Fd) : List Fd := l.filter (isOpen notes)
def hidOf (notes : List Nt) (l : List Fd) : List (Fd × Int) := (l.filter fun f => !isOpen notes f).map fun f => (f, fstN notes f)
def hits (notes : List Nt) (l : List Fd) (k : Nat) : Bool := l.any fun f => fstN notes f == (k : Int)
def usedOf (notes : List Nt) (l : List Fd) : List Bool := (List.range notes.length).map (hits notes l)
def unusedTo (notes : List Nt) (l : List Fd) (n : Nat) : List Nat := (List.range n).filter fun k => !hits notes l k
theorem openOf_snoc (notes : List Nt) (l : List Fd) (x : Fd) : openOf notes (l ++ [x]) = if isOpen notes x = true then openOf notes l ++ [x] else openOf notes l := by
  unfold openOf
  rw [List.filter_append]
  cases h : isOpen notes x <;> simp [h]
theorem hidOf_snoc (notes : List Nt) (l : List Fd) (x : Fd) : hidOf notes (l ++ [x]) = if isOpen notes x = true then hidOf notes l else hidOf notes l ++ [(x, fstN notes x)] := by
  unfold hidOf
  rw [List.filter_append, List.map_append]
  cases h : isOpen notes x <;> simp [h]
theorem hits_snoc (notes : List Nt) (l : List Fd) (x : Fd) (k : Nat) : hits notes (l ++ [x]) k = (hits notes l k || fstN notes x == (k : Int)) := by simp [hits]
theorem usedOf_len (notes : List Nt) (l : List Fd) : (usedOf notes l).length = notes.length := by simp [usedOf]
theorem usedOf_open (notes : List Nt) (l : List Fd) (x : Fd) (h : fstN notes x < 0) : usedOf notes (l ++ [x]) = usedOf notes l := by
  unfold usedOf
  apply List.map_congr_left
  intro k _
  rw [hits_snoc]
  have : (fstN notes x == (k : Int)) = false := beq_eq_false_iff_ne.2 (by omega)
  rw [this, Bool.or_false]
theorem usedOf_set (notes : List Nt) (l : List Fd) (x : Fd) (n : Nat) (h : fstN notes x = n) : usedOf notes (l ++ [x]) = (usedOf notes l).set n true := by
  apply List.ext_getElem
  · simp [usedOf]
  · intro i h1 h2
    simp only [usedOf, List.getElem_map, List.getElem_range, List.getElem_set]
    rw [hits_snoc]
    split
    · rename_i e; subst e; simp [h]
    · rename_i e
      have : (fstN notes x == (i : Int)) = false := beq_eq_false_iff_ne.2 (by omega)
      rw [this, Bool.or_false]
theorem usedOf_get (notes : List Nt) (l : List Fd) (k : Nat) (h : k < (usedOf notes l).length) : (usedOf notes l)[k] = hits notes l k := by simp [usedOf]
theorem usedOf_nil (notes : List Nt) : usedOf notes [] = List.replicate notes.length false := by
  apply List.ext_getElem
  · simp [usedOf]
  · intro i h1 h2
    simp [usedOf, hits]
theorem unusedTo_succ (notes : List Nt) (l : List Fd) (n : Nat) : unusedTo notes l (n + 1) = if hits notes l n = true then unusedTo notes l n else unusedTo notes l n ++ [n] := by
  unfold unusedTo
  rw [List.range_succ, List.filter_append]
  cases h : hits notes l n <;> simp [h]
theorem openOf_le (notes : List Nt) (l : List Fd) : (openOf notes l).length ≤ l.length := List.length_filter_le _ _
theorem hidOf_le (notes : List Nt) (l : List Fd) : (hidOf notes l).length ≤ l.length := by unfold hidOf; rw [List.length_map]; exact List.length_filter_le _ _
theorem unusedTo_le (notes : List Nt) (l : List Fd) (n : Nat) : (unusedTo notes l n).length ≤ n := by
  have h := List.length_filter_le (fun k => !hits notes l k) (List.range n)
  rw [List.length_range] at h
  exact h

theorem rows_len {α : Type} (c : α → List Value) (s : Nat) (hc : ∀ x, (c x).length = s) (l : List α) : ((l.map c).flatten).length = l.length * s := by
  induction l with
  | nil => simp
  | cons m l ih => rw [List.map_cons, List.flatten_cons, List.length_append, hc, ih, List.length_cons, Nat.add_mul]; omega
theorem rows_get {α : Type} (c : α → List Value) (s : Nat) (hc : ∀ x, (c x).length = s) : ∀ (l : List α) (k : Nat) (h : k < l.length) (i : Nat), i < s → ((l.map c).flatten)[k * s + i]? = (c l[k])[i]?
  | m :: l, 0, _, i, hi => by
    rw [List.map_cons, List.flatten_cons, Nat.zero_mul, Nat.zero_add, List.getElem_cons_zero, List.getElem?_append_left (by rw [hc]; exact hi)]
  | m :: l, k + 1, h, i, hi => by
    have ih := rows_get c s hc l k (by simpa using h) i hi
    have e : (k + 1) * s + i = s + (k * s + i) := by rw [Nat.add_mul]; omega
    rw [List.map_cons, List.flatten_cons, List.getElem_cons_succ, List.getElem?_append_right (by rw [hc, e]; omega), ← ih, hc, e]
    congr 1
    omega
structure FdX where
  f : Fd
  pa : Option Addr
  pc : Nat
def fdC (x : FdX) : List Value := [.int .i64 x.f.kind, .string x.f.pl.cls, .string x.f.pl.meth, .int .i64 x.f.pl.instr, .string x.f.what, .slice x.pa x.f.path.length x.pc]
def hdC (x : FdX × Int) : List Value := [.int .i64 x.1.f.kind, .string x.1.f.pl.cls, .string x.1.f.pl.meth, .int .i64 x.1.f.pl.instr, .string x.1.f.what, .slice x.1.pa x.1.f.path.length x.1.pc, .int .i64 x.2]
def inC (n : Nat) : List Value := [.int .i64 (n : Int)]
def fdCells (l : List FdX) : List Value := (l.map fdC).flatten
def hdCells (l : List (FdX × Int)) : List Value := (l.map hdC).flatten
def inCells (l : List Nat) : List Value := (l.map inC).flatten
theorem fdCells_snoc (l : List FdX) (x : FdX) : fdCells (l ++ [x]) = fdCells l ++ fdC x := by simp [fdCells]
theorem hdCells_snoc (l : List (FdX × Int)) (x : FdX × Int) : hdCells (l ++ [x]) = hdCells l ++ hdC x := by simp [hdCells]
theorem inCells_snoc (l : List Nat) (x : Nat) : inCells (l ++ [x]) = inCells l ++ inC x := by simp [inCells]
theorem fdC_one (x : FdX) : ∀ u ∈ fdC x, u.oneCell' = true := by
  intro u hu
  simp only [fdC, List.mem_cons, List.not_mem_nil, or_false] at hu
  rcases hu with rfl | rfl | rfl | rfl | rfl | rfl <;> rfl
theorem hdC_one (x : FdX × Int) : ∀ u ∈ hdC x, u.oneCell' = true := by
  intro u hu
  simp only [hdC, List.mem_cons, List.not_mem_nil, or_false] at hu
  rcases hu with rfl | rfl | rfl | rfl | rfl | rfl | rfl <;> rfl
theorem inC_one (x : Nat) : ∀ u ∈ inC x, u.oneCell' = true := by
  intro u hu
  simp only [inC, List.mem_cons, List.not_mem_nil, or_false] at hu
  subst hu; rfl
/-- places that are kept: those of a copy, or those that came in -/
def PlsK (w wr : World) (a : Option Addr) (l : List Pl) : Prop := (PlsT wr a l ∨ PlsAt w a l) ∧ (a = none → l = [])
theorem PlsT.grown {w w' : World} {a : Option Addr} {l : List Pl} {row : Option Nat} (h : PlsT w a l) (hg : w.grownBy w' row) (hr : ∀ g, row = some g → ∃ cs t fr, w.heap[g]? = some (.cells cs t fr) ∧ t ≠ 25) : PlsT w' a l := by
  by_cases hl : l = []
  · subst hl; exact ⟨pls_nil _ _, fun h => absurd rfl h⟩
  obtain ⟨h1, h2⟩ := h
  obtain ⟨g, cs, fr, rfl, hh⟩ := h2 hl
  have hlt : g < w.heap.size := (Array.getElem?_eq_some_iff.1 hh).1
  have hne : some g ≠ row := by
    intro e
    obtain ⟨cs', t, fr', h3, h4⟩ := hr g e.symm
    rw [hh] at h3
    simp only [Option.some.injEq, Obj.cells.injEq] at h3
    exact h4 h3.2.1.symm
  have hblk := hg.block g hlt hne
  refine ⟨fun k hk => ?_, fun _ => ⟨g, cs, fr, rfl, by rw [hblk, hh]⟩⟩
  obtain ⟨b, off, ha, c0, c1, c2⟩ := h1 k hk
  simp only [Option.some.injEq, Addr.mk.injEq] at ha
  obtain ⟨rfl, rfl, _⟩ := ha
  refine ⟨g, 0, rfl, ?_, ?_, ?_⟩
  · rw [World.cell?_of_block (w := w) hblk]; exact c0
  · rw [World.cell?_of_block (w := w) hblk]; exact c1
  · rw [World.cell?_of_block (w := w) hblk]; exact c2
theorem PlsT.below {w w' : World} {a : Option Addr} {l : List Pl} (h : PlsT w a l) (hb : Below w.heap.size w w') : PlsT w' a l :=
  h.grown (row := none) ⟨hb.os, hb.tape, hb.output, hb.size, fun k hk _ => hb.block k hk⟩ (fun _ e => by cases e)
theorem PlsK.grown {w0 w w' : World} {a : Option Addr} {l : List Pl} {row : Option Nat} (h : PlsK w0 w a l) (hg : w.grownBy w' row) (hr : ∀ g, row = some g → ∃ cs t fr, w.heap[g]? = some (.cells cs t fr) ∧ t ≠ 25) : PlsK w0 w' a l :=
  ⟨h.1.imp (fun x => x.grown hg hr) id, h.2⟩
theorem PlsK.below {w0 w w' : World} {a : Option Addr} {l : List Pl} (h : PlsK w0 w a l) (hb : Below w.heap.size w w') : PlsK w0 w' a l := ⟨h.1.imp (fun x => x.below hb) id, h.2⟩
theorem PlsK.at {w0 w : World} {a : Option Addr} {l : List Pl} (h : PlsK w0 w a l) (hb : Below w0.heap.size w0 w) : PlsAt w a l := h.1.elim (·.1) (·.below hb)
theorem owns_ne {w : World} {base : Nat} {e : TypeId} {s n : Nat} {v : Value} {xs : List Value} (h : w.ownsRow base e s v n xs) {g : Nat} {cs : Array Value} {t : TypeId} {fr : Nat × Nat} (hg : w.heap[g]? = some (.cells cs t fr)) (hne : t ≠ e) : some g ≠ v.ownBlock := by
  rcases h.2 with ⟨rfl, _⟩ | ⟨g', cap, cur, rfl, _, hh, _⟩
  · simp [Value.ownBlock]
  · simp only [Value.ownBlock, ne_eq, Option.some.injEq]
    rintro rfl
    rw [hg] at hh
    simp only [Option.some.injEq, Obj.cells.injEq] at hh
    exact hne hh.2.1
theorem owns_row {w : World} {base : Nat} {e : TypeId} {s n : Nat} {v : Value} {xs : List Value} (h : w.ownsRow base e s v n xs) : ∀ g, v.ownBlock = some g → ∃ cs fr, w.heap[g]? = some (.cells cs e fr) := by
  intro g hg
  rcases h.2 with ⟨rfl, _⟩ | ⟨g', cap, cur, rfl, _, hh, _⟩
  · simp [Value.ownBlock] at hg
  · simp only [Value.ownBlock, Option.some.injEq] at hg
    subst hg
    exact ⟨_, _, hh⟩
theorem owns_apart {w : World} {b1 b2 : Nat} {e1 e2 : TypeId} {s1 n1 s2 n2 : Nat} {v1 v2 : Value} {x1 x2 : List Value} (h1 : w.ownsRow b1 e1 s1 v1 n1 x1) (h2 : w.ownsRow b2 e2 s2 v2 n2 x2) (hne : e1 ≠ e2) : v1.ownBlock = none ∨ v1.ownBlock ≠ v2.ownBlock := by
  cases hv : v1.ownBlock with
  | none => exact .inl rfl
  | some g =>
    obtain ⟨cs, fr, hh⟩ := owns_row h1 g hv
    exact .inr (owns_ne h2 hh hne)
theorem grown_set (w : World) (g i : Nat) (v : Value) : w.grownBy (w.setCell ⟨g, i, none⟩ v) (some g) := by
  refine ⟨rfl, rfl, rfl, by simp [World.setCell], fun k hk hne => ?_⟩
  simp only [World.setCell, Array.getElem?_modify]
  rw [if_neg (fun e => hne (by rw [e]))]
theorem grown_row (w : World) (g : Nat) (cs : Array Value) : w.grownBy (w.setRow g cs) (some g) :=
  ⟨rfl, rfl, rfl, by simp, fun k _ hne => setRow_other w g k cs (fun e => hne (by rw [e]))⟩

def zeroRep : Array Value := #[.slice none 0 0, .slice none 0 0, .slice none 0 0]
/-- a report in the making -/
structure AS (w wr : World) (gr gu : Nat) (vO vH vU : Value) (O : List FdX) (H : List (FdX × Int)) (U : List Nat) (us : List Bool) : Prop where
  hb : Below w.heap.size w wr
  hgr : w.heap.size < gr
  hgu : w.heap.size < gu
  res : Blk wr w.heap.size zeroRep 46
  r : Blk wr gr #[vO, vH, vU] 46
  u : Blk wr gu (us.map Value.bool).toArray 4
  oO : wr.ownsRow w.heap.size 28 6 vO O.length (fdCells O)
  oH : wr.ownsRow w.heap.size 53 7 vH H.length (hdCells H)
  oU : wr.ownsRow w.heap.size 3 1 vU U.length (inCells U)
  pO : ∀ x ∈ O, PlsK w wr x.pa x.f.path
  pH : ∀ x ∈ H, PlsK w wr x.1.pa x.1.f.path
section
variable {w wr : World} {gr gu : Nat} {vO vH vU : Value} {O : List FdX} {H : List (FdX × Int)} {U : List Nat} {us : List Bool}
theorem AS.below (h : AS w wr gr gu vO vH vU O H U us) {w' : World} (hb : Below wr.heap.size wr w') : AS w w' gr gu vO vH vU O H U us := by
  have hg : wr.grownBy w' none := ⟨hb.os, hb.tape, hb.output, hb.size, fun k hk _ => hb.block k hk⟩
  have hn : ∀ v : Value, v.ownBlock = none ∨ v.ownBlock ≠ none := fun v => by cases v.ownBlock <;> simp
  exact ⟨h.hb.trans (hb.mono h.hb.size), h.hgr, h.hgu, h.res.below hb, h.r.below hb, h.u.below hb, h.oO.kept hg (hn _), h.oH.kept hg (hn _), h.oU.kept hg (hn _), fun x hx => (h.pO x hx).below hb, fun x hx => (h.pH x hx).below hb⟩
theorem AS.setR (h : AS w wr gr gu vO vH vU O H U us) (cs : Array Value) :
    (wr.setRow gr cs).grownBy (wr.setRow gr cs) none ∧ Below w.heap.size w (wr.setRow gr cs) ∧ Blk (wr.setRow gr cs) gr cs 46 ∧ Blk (wr.setRow gr cs) w.heap.size zeroRep 46 ∧ Blk (wr.setRow gr cs) gu (us.map Value.bool).toArray 4 := by
  have hne : gu ≠ gr := by
    rintro rfl
    have h1 := h.u
    have h2 := h.r
    unfold Blk at h1 h2
    rw [h1] at h2
    simp at h2
  refine ⟨⟨rfl, rfl, rfl, Nat.le_refl _, fun _ _ _ => rfl⟩, h.hb.grown (grown_row wr gr cs) h.hb.size (fun k hk => ?_), h.r.setRow cs, h.res.setRow_ne (by have := h.hgr; omega) cs, h.u.setRow_ne hne cs⟩
  simp only [Option.some.injEq] at hk
  have := h.hgr; omega
theorem AS.addO (h : AS w wr gr gu vO vH vU O H U us) {v' : Value} {w' : World} {x : FdX} (ho : w'.ownsRow w.heap.size 28 6 v' (O ++ [x]).length (fdCells (O ++ [x]))) (hg : wr.grownBy w' vO.ownBlock) (hp : PlsK w wr x.pa x.f.path) :
    AS w (w'.setRow gr #[v', vH, vU]) gr gu v' vH vU (O ++ [x]) H U us := by
  have t1 : some w.heap.size ≠ vO.ownBlock := owns_ne h.oO h.res (by decide)
  have t2 : some gr ≠ vO.ownBlock := owns_ne h.oO h.r (by decide)
  have t3 : some gu ≠ vO.ownBlock := owns_ne h.oO h.u (by decide)
  have r1 := h.res.grown hg t1
  have r2 := h.r.grown hg t2
  have r3 := h.u.grown hg t3
  have hH := h.oH.kept hg (owns_apart h.oH h.oO (by decide))
  have hU := h.oU.kept hg (owns_apart h.oU h.oO (by decide))
  have hrow : ∀ g, vO.ownBlock = some g → ∃ cs t fr, wr.heap[g]? = some (.cells cs t fr) ∧ t ≠ 25 := fun g e => by
    obtain ⟨cs, fr, hh⟩ := owns_row h.oO g e
    exact ⟨cs, 28, fr, hh, by decide⟩
  have hb' : Below w.heap.size w w' := h.hb.grown hg h.hb.size (fun k hk => (h.oO.lt k hk).1)
  have hgr2 := grown_row w' gr #[v', vH, vU]
  have hrow2 : ∀ g, some gr = some g → ∃ cs t fr, w'.heap[g]? = some (.cells cs t fr) ∧ t ≠ 25 := fun g e => by
    simp only [Option.some.injEq] at e
    subst e
    exact ⟨_, 46, _, r2, by decide⟩
  have hne : gu ≠ gr := by
    rintro rfl
    unfold Blk at r2 r3
    rw [r3] at r2
    simp at r2
  refine ⟨hb'.grown hgr2 hb'.size (fun k hk => ?_), h.hgr, h.hgu, r1.setRow_ne (by have := h.hgr; omega) _, r2.setRow _, r3.setRow_ne hne _, ho.kept hgr2 ?_, hH.kept hgr2 ?_, hU.kept hgr2 ?_, fun y hy => ?_, fun y hy => ?_⟩
  · simp only [Option.some.injEq] at hk
    have := h.hgr; omega
  · exact .inr (Ne.symm (owns_ne ho r2 (by decide)))
  · exact .inr (Ne.symm (owns_ne hH r2 (by decide)))
  · exact .inr (Ne.symm (owns_ne hU r2 (by decide)))
  · rcases List.mem_append.1 hy with hy | hy
    · exact ((h.pO y hy).grown hg hrow).grown hgr2 hrow2
    · rw [List.mem_singleton.1 hy]
      exact (hp.grown hg hrow).grown hgr2 hrow2
  · exact ((h.pH y hy).grown hg hrow).grown hgr2 hrow2
theorem AS.addH (h : AS w wr gr gu vO vH vU O H U us) {v' : Value} {w' : World} {x : FdX × Int} (ho : w'.ownsRow w.heap.size 53 7 v' (H ++ [x]).length (hdCells (H ++ [x]))) (hg : wr.grownBy w' vH.ownBlock) (hp : PlsK w wr x.1.pa x.1.f.path) :
    AS w (w'.setRow gr #[vO, v', vU]) gr gu vO v' vU O (H ++ [x]) U us := by
  have t1 : some w.heap.size ≠ vH.ownBlock := owns_ne h.oH h.res (by decide)
  have t2 : some gr ≠ vH.ownBlock := owns_ne h.oH h.r (by decide)
  have t3 : some gu ≠ vH.ownBlock := owns_ne h.oH h.u (by decide)
  have r1 := h.res.grown hg t1
  have r2 := h.r.grown hg t2
  have r3 := h.u.grown hg t3
  have hO := h.oO.kept hg (owns_apart h.oO h.oH (by decide))
  have hU := h.oU.kept hg (owns_apart h.oU h.oH (by decide))
  have hrow : ∀ g, vH.ownBlock = some g → ∃ cs t fr, wr.heap[g]? = some (.cells cs t fr) ∧ t ≠ 25 := fun g e => by
    obtain ⟨cs, fr, hh⟩ := owns_row h.oH g e
    exact ⟨cs, 53, fr, hh, by decide⟩
  have hb' : Below w.heap.size w w' := h.hb.grown hg h.hb.size (fun k hk => (h.oH.lt k hk).1)
  have hgr2 := grown_row w' gr #[vO, v', vU]
  have hrow2 : ∀ g, some gr = some g → ∃ cs t fr, w'.heap[g]? = some (.cells cs t fr) ∧ t ≠ 25 := fun g e => by
    simp only [Option.some.injEq] at e
    subst e
    exact ⟨_, 46, _, r2, by decide⟩
  have hne : gu ≠ gr := by
    rintro rfl
    unfold Blk at r2 r3
    rw [r3] at r2
    simp at r2
  refine ⟨hb'.grown hgr2 hb'.size (fun k hk => ?_), h.hgr, h.hgu, r1.setRow_ne (by have := h.hgr; omega) _, r2.setRow _, r3.setRow_ne hne _, hO.kept hgr2 ?_, ho.kept hgr2 ?_, hU.kept hgr2 ?_, fun y hy => ?_, fun y hy => ?_⟩
  · simp only [Option.some.injEq] at hk
    have := h.hgr; omega
  · exact .inr (Ne.symm (owns_ne hO r2 (by decide)))
  · exact .inr (Ne.symm (owns_ne ho r2 (by decide)))
  · exact .inr (Ne.symm (owns_ne hU r2 (by decide)))
  · exact ((h.pO y hy).grown hg hrow).grown hgr2 hrow2
  · rcases List.mem_append.1 hy with hy | hy
    · exact ((h.pH y hy).grown hg hrow).grown hgr2 hrow2
    · rw [List.mem_singleton.1 hy]
      exact (hp.grown hg hrow).grown hgr2 hrow2
theorem AS.addU (h : AS w wr gr gu vO vH vU O H U us) {v' : Value} {w' : World} {x : Nat} (ho : w'.ownsRow w.heap.size 3 1 v' (U ++ [x]).length (inCells (U ++ [x]))) (hg : wr.grownBy w' vU.ownBlock) :
    AS w (w'.setRow gr #[vO, vH, v']) gr gu vO vH v' O H (U ++ [x]) us := by
  have t1 : some w.heap.size ≠ vU.ownBlock := owns_ne h.oU h.res (by decide)
  have t2 : some gr ≠ vU.ownBlock := owns_ne h.oU h.r (by decide)
  have t3 : some gu ≠ vU.ownBlock := owns_ne h.oU h.u (by decide)
  have r1 := h.res.grown hg t1
  have r2 := h.r.grown hg t2
  have r3 := h.u.grown hg t3
  have hO := h.oO.kept hg (owns_apart h.oO h.oU (by decide))
  have hH := h.oH.kept hg (owns_apart h.oH h.oU (by decide))
  have hrow : ∀ g, vU.ownBlock = some g → ∃ cs t fr, wr.heap[g]? = some (.cells cs t fr) ∧ t ≠ 25 := fun g e => by
    obtain ⟨cs, fr, hh⟩ := owns_row h.oU g e
    exact ⟨cs, 3, fr, hh, by decide⟩
  have hb' : Below w.heap.size w w' := h.hb.grown hg h.hb.size (fun k hk => (h.oU.lt k hk).1)
  have hgr2 := grown_row w' gr #[vO, vH, v']
  have hrow2 : ∀ g, some gr = some g → ∃ cs t fr, w'.heap[g]? = some (.cells cs t fr) ∧ t ≠ 25 := fun g e => by
    simp only [Option.some.injEq] at e
    subst e
    exact ⟨_, 46, _, r2, by decide⟩
  have hne : gu ≠ gr := by
    rintro rfl
    unfold Blk at r2 r3
    rw [r3] at r2
    simp at r2
  refine ⟨hb'.grown hgr2 hb'.size (fun k hk => ?_), h.hgr, h.hgu, r1.setRow_ne (by have := h.hgr; omega) _, r2.setRow _, r3.setRow_ne hne _, hO.kept hgr2 ?_, hH.kept hgr2 ?_, ho.kept hgr2 ?_, fun y hy => ?_, fun y hy => ?_⟩
  · simp only [Option.some.injEq] at hk
    have := h.hgr; omega
  · exact .inr (Ne.symm (owns_ne hO r2 (by decide)))
  · exact .inr (Ne.symm (owns_ne hH r2 (by decide)))
  · exact .inr (Ne.symm (owns_ne ho r2 (by decide)))
  · exact ((h.pO y hy).grown hg hrow).grown hgr2 hrow2
  · exact ((h.pH y hy).grown hg hrow).grown hgr2 hrow2
theorem AS.use (h : AS w wr gr gu vO vH vU O H U us) (n : Nat) : AS w (wr.setCell ⟨gu, n, none⟩ (.bool true)) gr gu vO vH vU O H U (us.set n true) := by
  have hg := grown_set wr gu n (.bool true)
  have hne : gu ≠ gr := by
    rintro rfl
    have h1 := h.u
    have h2 := h.r
    unfold Blk at h1 h2
    rw [h1] at h2
    simp at h2
  have hrow : ∀ g, some gu = some g → ∃ cs t fr, wr.heap[g]? = some (.cells cs t fr) ∧ t ≠ 25 := fun g e => by
    simp only [Option.some.injEq] at e
    subst e
    exact ⟨_, 4, _, h.u, by decide⟩
  refine ⟨h.hb.grown hg h.hb.size (fun k hk => ?_), h.hgr, h.hgu, h.res.other (by have := h.hgu; omega) _ _, h.r.other hne _ _, ?_, h.oO.kept hg ?_, h.oH.kept hg ?_, h.oU.kept hg ?_, fun y hy => (h.pO y hy).grown hg hrow, fun y hy => (h.pH y hy).grown hg hrow⟩
  · simp only [Option.some.injEq] at hk
    have := h.hgu; omega
  · have := h.u.set n (.bool true)
    have e : (us.map Value.bool).toArray.setIfInBounds n (.bool true) = ((us.set n true).map Value.bool).toArray := by simp
    rw [e] at this
    exact this
  · exact .inr (Ne.symm (owns_ne h.oO h.u (by decide)))
  · exact .inr (Ne.symm (owns_ne h.oH h.u (by decide)))
  · exact .inr (Ne.symm (owns_ne h.oU h.u (by decide)))
end
/-- the value of a list of its own -/
theorem owns_slice {w : World} {base : Nat} {e : TypeId} {s n : Nat} {v : Value} {xs : List Value} (h : w.ownsRow base e s v n xs) : ∃ a c, v = .slice a n c := by
  rcases h.2 with ⟨rfl, rfl⟩ | ⟨g', cap, cur, rfl, _⟩
  · exact ⟨none, 0, rfl⟩
  · exact ⟨_, _, rfl⟩
/-- suppressed findings at an address -/
def HidsAt (w : World) (a : Option Addr) (l : List (Fd × Int)) : Prop :=
  ∀ k (h : k < l.length), ∃ b off pa pc, a = some ⟨b, off, none⟩ ∧ w.cell? ⟨b, off + k * 7, none⟩ = some (.int .i64 l[k].1.kind) ∧ w.cell? ⟨b, off + k * 7 + 1, none⟩ = some (.string l[k].1.pl.cls) ∧ w.cell? ⟨b, off + k * 7 + 2, none⟩ = some (.string l[k].1.pl.meth) ∧ w.cell? ⟨b, off + k * 7 + 3, none⟩ = some (.int .i64 l[k].1.pl.instr) ∧ w.cell? ⟨b, off + k * 7 + 4, none⟩ = some (.string l[k].1.what) ∧ w.cell? ⟨b, off + k * 7 + 5, none⟩ = some (.slice pa l[k].1.path.length pc) ∧ w.cell? ⟨b, off + k * 7 + 6, none⟩ = some (.int .i64 l[k].2) ∧ PlsAt w pa l[k].1.path ∧ (pa = none → l[k].1.path = [])
theorem HidsAt.below {w w' : World} {a : Option Addr} {l : List (Fd × Int)} (h : HidsAt w a l) (hb : Below w.heap.size w w') : HidsAt w' a l := by
  intro k hk
  obtain ⟨b, off, pa, pc, ha, h0, h1, h2, h3, h4, h5, h6, h7, h8⟩ := h k hk
  exact ⟨b, off, pa, pc, ha, cell_below hb h0, cell_below hb h1, cell_below hb h2, cell_below hb h3, cell_below hb h4, cell_below hb h5, cell_below hb h6, h7.below hb, h8⟩
/-- numbers at an address -/
def IntsAt (w : World) (a : Option Addr) (l : List Nat) : Prop := ∀ k (h : k < l.length), ∃ b off, a = some ⟨b, off, none⟩ ∧ w.cell? ⟨b, off + k, none⟩ = some (.int .i64 (l[k] : Int))
theorem IntsAt.below {w w' : World} {a : Option Addr} {l : List Nat} (h : IntsAt w a l) (hb : Below w.heap.size w w') : IntsAt w' a l := by
  intro k hk
  obtain ⟨b, off, ha, h0⟩ := h k hk
  exact ⟨b, off, ha, cell_below hb h0⟩
theorem fds_of {w0 w : World} {base n : Nat} {a : Option Addr} {c : Nat} {O : List FdX} (hb : Below w0.heap.size w0 w) (h : w.ownsRow base 28 6 (.slice a n c) O.length (fdCells O)) (hp : ∀ x ∈ O, PlsK w0 w x.pa x.f.path) : FdsAt w a (O.map (·.f)) := by
  intro k hk
  have hk' : k < O.length := by simpa using hk
  rcases h.2 with ⟨_, h0⟩ | ⟨g, cap, cur, hv, _⟩
  · omega
  · simp only [Value.slice.injEq] at hv
    obtain ⟨rfl, rfl, rfl⟩ := hv
    have c := fun i hi u hu => h.cells (g := g) rfl (k * 6 + i) u (by rw [fdCells, rows_get fdC 6 (fun _ => rfl) O k hk' i hi]; exact hu)
    have c0 := c 0 (by omega) _ rfl
    have c1 := c 1 (by omega) _ rfl
    have c2 := c 2 (by omega) _ rfl
    have c3 := c 3 (by omega) _ rfl
    have c4 := c 4 (by omega) _ rfl
    have c5 := c 5 (by omega) _ rfl
    rw [addr_add] at c0 c1 c2 c3 c4 c5
    have hpk := hp O[k] (List.getElem_mem hk')
    simp only [List.getElem_map]
    exact ⟨g, 0, O[k].pa, O[k].pc, rfl, by simpa using c0, by simpa [Nat.add_assoc] using c1, by simpa [Nat.add_assoc] using c2, by simpa [Nat.add_assoc] using c3, by simpa [Nat.add_assoc] using c4, by simpa [Nat.add_assoc] using c5, hpk.at hb, hpk.2⟩
theorem hids_of {w0 w : World} {base n : Nat} {a : Option Addr} {c : Nat} {O : List (FdX × Int)} (hb : Below w0.heap.size w0 w) (h : w.ownsRow base 53 7 (.slice a n c) O.length (hdCells O)) (hp : ∀ x ∈ O, PlsK w0 w x.1.pa x.1.f.path) : HidsAt w a (O.map fun x => (x.1.f, x.2)) := by
  intro k hk
  have hk' : k < O.length := by simpa using hk
  rcases h.2 with ⟨_, h0⟩ | ⟨g, cap, cur, hv, _⟩
  · omega
  · simp only [Value.slice.injEq] at hv
    obtain ⟨rfl, rfl, rfl⟩ := hv
    have c := fun i hi u hu => h.cells (g := g) rfl (k * 7 + i) u (by rw [hdCells, rows_get hdC 7 (fun _ => rfl) O k hk' i hi]; exact hu)
    have c0 := c 0 (by omega) _ rfl
    have c1 := c 1 (by omega) _ rfl
    have c2 := c 2 (by omega) _ rfl
    have c3 := c 3 (by omega) _ rfl
    have c4 := c 4 (by omega) _ rfl
    have c5 := c 5 (by omega) _ rfl
    have c6 := c 6 (by omega) _ rfl
    rw [addr_add] at c0 c1 c2 c3 c4 c5 c6
    have hpk := hp O[k] (List.getElem_mem hk')
    simp only [List.getElem_map]
    exact ⟨g, 0, O[k].1.pa, O[k].1.pc, rfl, by simpa using c0, by simpa [Nat.add_assoc] using c1, by simpa [Nat.add_assoc] using c2, by simpa [Nat.add_assoc] using c3, by simpa [Nat.add_assoc] using c4, by simpa [Nat.add_assoc] using c5, by simpa [Nat.add_assoc] using c6, hpk.at hb, hpk.2⟩
theorem ints_of {w : World} {base n : Nat} {a : Option Addr} {c : Nat} {U : List Nat} (h : w.ownsRow base 3 1 (.slice a n c) U.length (inCells U)) : IntsAt w a U := by
  intro k hk
  rcases h.2 with ⟨_, h0⟩ | ⟨g, cap, cur, hv, _⟩
  · omega
  · simp only [Value.slice.injEq] at hv
    obtain ⟨rfl, rfl, rfl⟩ := hv
    have c := fun i hi u hu => h.cells (g := g) rfl (k * 1 + i) u (by rw [inCells, rows_get inC 1 (fun _ => rfl) U k hk i hi]; exact hu)
    have c0 := c 0 (by omega) _ rfl
    rw [addr_add] at c0
    exact ⟨g, 0, rfl, by simpa using c0⟩
/-- what Apply returns -/
def APost (l : List Fd) (notes : List Nt) (w : World) (e : Ending) (w' : World) : Prop := Below w.heap.size w w' ∧
  ((appE l notes ≠ 0 ∧ e = .returned (.tuple #[.agg zeroRep, .int .i64 (appE l notes)])) ∨
   (appE l notes = 0 ∧ l.length ≤ 1000 ∧ notes.length ≤ 200 ∧ ∃ ao co ah ch au cu, e = .returned (.tuple #[.agg #[.slice ao (openOf notes l).length co, .slice ah (hidOf notes l).length ch, .slice au (unusedTo notes l notes.length).length cu], .int .i64 0]) ∧
     FdsAt w' ao (openOf notes l) ∧ HidsAt w' ah (hidOf notes l) ∧ IntsAt w' au (unusedTo notes l notes.length)))
end Go.Proofs.YtpgmjfnjdgdmcaaDoor
