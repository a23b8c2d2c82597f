/-
  The laws of memory that Apply's walks use.
-/
import Derived.Test.YtpgmjfnjdgdmcaaDoorP29
import Derived.Deep.LoopGhost
namespace Go.Proofs.YtpgmjfnjdgdmcaaDoor
open Go.RowKit Go.Sort

theorem set_row {w : World} {g : Nat} {cs : Array Value} {t : TypeId} (h : Blk w g cs t) (i : Nat) (v : Value) : w.setCell ⟨g, i, none⟩ v = w.setRow g (cs.setIfInBounds i v) := by
  unfold World.setCell World.setRow
  congr 1
  apply Array.ext_getElem?
  intro k
  simp only [Array.getElem?_modify]
  split
  · rename_i e
    subst e
    unfold Blk at h
    rw [h]
    simp
  · rfl
theorem info4 : (Tryd.prog.info? 4).map (fun i => (i.zero, i.size, i.bytes)) = some (some (.bool false), 1, 1) := by kernel_rfl
theorem info3 : (Tryd.prog.info? 3).map (fun i => (i.zero, i.size, i.bytes)) = some (some (.int .i64 0), 1, 8) := by kernel_rfl
theorem info28 : (Tryd.prog.info? 28).map (fun i => (i.zero, i.size, i.bytes)) = some (some (.agg #[.int .i64 0, .string ⟨#[]⟩, .string ⟨#[]⟩, .int .i64 0, .string ⟨#[]⟩, .slice none 0 0]), 6, 88) := by kernel_rfl
theorem info53 : (Tryd.prog.info? 53).map (fun i => (i.zero, i.size, i.bytes)) = some (some (.agg #[.int .i64 0, .string ⟨#[]⟩, .string ⟨#[]⟩, .int .i64 0, .string ⟨#[]⟩, .slice none 0 0, .int .i64 0]), 7, 96) := by kernel_rfl
theorem make78 (n : Nat) (hn : n ≤ 1000000) (u : World) : (Instr.makeSlice 78 (.int .i64 (n : Int)) (.int .i64 (n : Int))).run Tryd.prog u = .ok (.slice (some ⟨u.heap.size, 0, none⟩) n n) (u.alloc (.cells ((List.replicate n false).map Value.bool).toArray 4)) := by
  obtain ⟨i0, hi, hz0, hz1, hz2⟩ := info_parts info4
  have h := run_make (P := Tryd.prog) u 78 4 i0 (.bool false) Tryd.underlying78 hi hz0 .i64 .i64 (n : Int) (n : Int) (by omega) (Int.le_refl _) (by rw [hz2]; omega) (by omega)
  rw [h, hz1]
  have e : madeCells (Value.bool false).cells (((n : Int)).toNat * 1) = ((List.replicate n false).map Value.bool).toArray := by
    apply Array.ext'
    have := toList_madeCells_one (Value.bool false) n
    simp only [Value.cells, Int.toNat_natCast, Nat.mul_one, List.map_replicate]
    exact this
  rw [e]; simp
theorem store46 {ops : Array Oper} {rest : List Oper} {o : Oper} {a : Act} {w : World} {Q : Exit → Act → World → Prop} (hgd : o.guard = none) (x y : Operand) (ho : o.op = .store 46 x y)
    (g : Nat) (a0 a1 a2 : Option Addr) (n0 c0 n1 c1 n2 c2 : Nat) (hx : a.eval x = .pointer (some ⟨g, 0, none⟩)) (hy : a.eval y = .agg #[.slice a0 n0 c0, .slice a1 n1 c1, .slice a2 n2 c2])
    (old : Array Value) (hg : Blk w g old 46) (hold : old.size = 3)
    (h : wpList Tryd.prog ops Q rest (a.put o.dst undef) (w.setRow g #[.slice a0 n0 c0, .slice a1 n1 c1, .slice a2 n2 c2])) : wpList Tryd.prog ops Q (o :: rest) a w :=
  wpList_store_row hgd 46 x y ho g _ hx hy 46 old hg (by kernel_rfl) hold (by simp [Value.oneCell']) h
theorem app_fd {ops : Array Oper} {rest : List Oper} {o : Oper} {a : Act} {Q : Exit → Act → World → Prop} {w : World} (hgd : o.guard = none) (s x : Operand)
    (ho : o.op = .call { callee := .builtin .append, args := #[s, x], argTypes := #[41, 41] })
    (base : Nat) (v : Value) (l : List FdX) (hs : a.eval s = v) (hown : w.ownsRow base 28 6 v l.length (fdCells l))
    (g : Nat) (y : FdX) (hx : a.eval x = .slice (some ⟨g, 0, none⟩) 1 1) (hg : Blk w g (fdA y.f y.pa y.pc) 28)
    (hn : l.length ≤ 1000000) (hbase : base ≤ w.heap.size)
    (h : ∀ v' w', w'.ownsRow base 28 6 v' (l ++ [y]).length (fdCells (l ++ [y])) → w.grownBy w' v.ownBlock → wpList Tryd.prog ops Q rest (a.put o.dst v') w') : wpList Tryd.prog ops Q (o :: rest) a w := by
  obtain ⟨i0, hi, hz0, hz1, hz2⟩ := info_parts info28
  refine wpList_append_own w hgd s x 41 ho base 28 i0 _ 6 88 Tryd.underlying41 hi hz0 hz1 hz2 rfl (by decide) v l.length (fdCells l) hs hown ⟨g, 0, none⟩ 1 1 (fdC y) hx rfl ?_ (fdC_one y) (by unfold maxLen; omega) (by omega) hbase ?_
  · intro j u hu
    rw [addr_add, Nat.zero_add, cell_of_row _ _ _ _ _ _ hg]
    simpa [fdC, fdA] using hu
  · intro v' w' h1 h2 _
    refine h v' w' ?_ h2
    rw [fdCells_snoc, List.length_append]
    exact h1
def hdA (x : FdX × Int) : Array Value := (hdC x).toArray
theorem app_hd {ops : Array Oper} {rest : List Oper} {o : Oper} {a : Act} {Q : Exit → Act → World → Prop} {w : World} (hgd : o.guard = none) (s x : Operand)
    (ho : o.op = .call { callee := .builtin .append, args := #[s, x], argTypes := #[43, 43] })
    (base : Nat) (v : Value) (l : List (FdX × Int)) (hs : a.eval s = v) (hown : w.ownsRow base 53 7 v l.length (hdCells l))
    (g : Nat) (y : FdX × Int) (hx : a.eval x = .slice (some ⟨g, 0, none⟩) 1 1) (hg : Blk w g (hdA y) 53)
    (hn : l.length ≤ 1000000) (hbase : base ≤ w.heap.size)
    (h : ∀ v' w', w'.ownsRow base 53 7 v' (l ++ [y]).length (hdCells (l ++ [y])) → w.grownBy w' v.ownBlock → wpList Tryd.prog ops Q rest (a.put o.dst v') w') : wpList Tryd.prog ops Q (o :: rest) a w := by
  obtain ⟨i0, hi, hz0, hz1, hz2⟩ := info_parts info53
  refine wpList_append_own w hgd s x 43 ho base 53 i0 _ 7 96 Tryd.underlying43 hi hz0 hz1 hz2 rfl (by decide) v l.length (hdCells l) hs hown ⟨g, 0, none⟩ 1 1 (hdC y) hx rfl ?_ (hdC_one y) (by unfold maxLen; omega) (by omega) hbase ?_
  · intro j u hu
    rw [addr_add, Nat.zero_add, cell_of_row _ _ _ _ _ _ hg]
    simpa [hdA] using hu
  · intro v' w' h1 h2 _
    refine h v' w' ?_ h2
    rw [hdCells_snoc, List.length_append]
    exact h1
theorem app_in {ops : Array Oper} {rest : List Oper} {o : Oper} {a : Act} {Q : Exit → Act → World → Prop} {w : World} (hgd : o.guard = none) (s x : Operand)
    (ho : o.op = .call { callee := .builtin .append, args := #[s, x], argTypes := #[44, 44] })
    (base : Nat) (v : Value) (l : List Nat) (hs : a.eval s = v) (hown : w.ownsRow base 3 1 v l.length (inCells l))
    (g : Nat) (y : Nat) (hx : a.eval x = .slice (some ⟨g, 0, none⟩) 1 1) (hg : Blk w g #[.int .i64 (y : Int)] 3)
    (hn : l.length ≤ 1000000) (hbase : base ≤ w.heap.size)
    (h : ∀ v' w', w'.ownsRow base 3 1 v' (l ++ [y]).length (inCells (l ++ [y])) → w.grownBy w' v.ownBlock → wpList Tryd.prog ops Q rest (a.put o.dst v') w') : wpList Tryd.prog ops Q (o :: rest) a w := by
  obtain ⟨i0, hi, hz0, hz1, hz2⟩ := info_parts info3
  refine wpList_append_own w hgd s x 44 ho base 3 i0 _ 1 8 Tryd.underlying44 hi hz0 hz1 hz2 rfl (by decide) v l.length (inCells l) hs hown ⟨g, 0, none⟩ 1 1 (inC y) hx rfl ?_ (inC_one y) (by unfold maxLen; omega) (by omega) hbase ?_
  · intro j u hu
    rw [addr_add, Nat.zero_add, cell_of_row _ _ _ _ _ _ hg]
    simpa [inC] using hu
  · intro v' w' h1 h2 _
    refine h v' w' ?_ h2
    rw [inCells_snoc, List.length_append]
    exact h1
theorem appE_big {l : List Fd} {notes : List Nt} (h : 1000 < l.length ∨ 200 < notes.length) : appE l notes = 3 := if_pos h
theorem appE_find {l : List Fd} {notes : List Nt} (h : ¬ (1000 < l.length ∨ 200 < notes.length)) (h2 : firstE findE l ≠ 0) : appE l notes = firstE findE l := by unfold appE; rw [if_neg h, if_pos h2]
theorem appE_ord {l : List Fd} {notes : List Nt} (h : ¬ (1000 < l.length ∨ 200 < notes.length)) (h2 : firstE findE l = 0) (h3 : ¬ Asc l l.length) : appE l notes = 13 := by unfold appE; rw [if_neg h, if_neg (by simpa using h2), if_pos h3]
theorem appE_note {l : List Fd} {notes : List Nt} (h : ¬ (1000 < l.length ∨ 200 < notes.length)) (h2 : firstE findE l = 0) (h3 : Asc l l.length) : appE l notes = firstE noteE notes := by unfold appE; rw [if_neg h, if_neg (by simpa using h2), if_neg (by simpa using h3)]
theorem appE_zero {l : List Fd} {notes : List Nt} (h : appE l notes = 0) : ¬ (1000 < l.length ∨ 200 < notes.length) := by
  intro h1
  rw [appE_big h1] at h; omega

/-- the first loops: nothing but the report's cell is new -/
structure L1 (w wr : World) : Prop where
  hb : Below w.heap.size w wr
  res : Blk wr w.heap.size zeroRep 46
theorem L1.start (w : World) : L1 w (w.alloc (.cells zeroRep 46)) := ⟨(Below.refl _ _).alloc (Nat.le_refl _) _, blk_new _ _ _⟩
theorem L1.below {w wr w' : World} (h : L1 w wr) (hb : Below wr.heap.size wr w') : L1 w w' := ⟨h.hb.trans (hb.mono h.hb.size), h.res.below hb⟩
theorem L1.alloc {w wr : World} (h : L1 w wr) (o : Obj) : L1 w (wr.alloc o) := h.below ((Below.refl _ _).alloc (Nat.le_refl _) _)
theorem L1.setRow {w wr : World} (h : L1 w wr) (cs : Array Value) : Below w.heap.size w (wr.setRow w.heap.size cs) ∧ Blk (wr.setRow w.heap.size cs) w.heap.size cs 46 :=
  ⟨h.hb.grown (grown_row wr w.heap.size cs) h.hb.size (fun k hk => by simp only [Option.some.injEq] at hk; omega), h.res.setRow cs⟩
theorem L1.drew {w wr : World} (h : L1 w wr) : L1 w wr.drew := ⟨h.hb.drew, h.res⟩
theorem Asc.succ' {l : List Fd} {k : Nat} (h : Asc l k) (h1 : 1 ≤ k) (hk : k < l.length) (hc : cmpF (l[k - 1]'(by omega)) l[k] < 0) : Asc l (k + 1) := by
  intro i h1 h2 h3
  by_cases e : i < k
  · exact h i h1 e h3
  · obtain rfl : i = k := by omega
    exact hc
theorem Asc.not' {l : List Fd} {k : Nat} (h1 : 1 ≤ k) (hk : k < l.length) (hc : ¬ cmpF (l[k - 1]'(by omega)) l[k] < 0) : ¬ Asc l l.length := fun h => hc (h k h1 hk hk)
theorem Asc.all' {l : List Fd} {k : Nat} (h : Asc l k) (hk : l.length ≤ k) : Asc l l.length := fun i h1 h2 h3 => h i h1 (by omega) h3
theorem Asc.one (l : List Fd) : Asc l 1 := fun i h1 h2 => by omega
end Go.Proofs.YtpgmjfnjdgdmcaaDoor
