/-
  Rows of call edges. (Printed by genrows.py.)
-/
import Derived.Test.YtkbmnfijeknenaaGreatDoorGA
import Derived.Test.YtkbmnfijeknenaaGreatDoorTD
namespace Go.Proofs.YtkbmnfijeknenaaGreatDoor
open Go.RowKit Go.Unit0 Go.AM

def encC (e : Cal) : List Value := [.int .i64 e.f, .int .i64 e.i, .int .i64 e.c]
def flatC (L : List Cal) : List Value := L.flatMap encC
theorem flatC_len (L : List Cal) : (flatC L).length = L.length * 3 := by
  unfold flatC
  rw [List.length_flatMap]
  induction L with
  | nil => rfl
  | cons x L ih => rw [List.map_cons, List.sum_cons, ih, List.length_cons]; simp [encC]; omega
theorem flatC_get : ∀ (L : List Cal) (j r : Nat) (hj : j < L.length), r < 3 → (flatC L)[j * 3 + r]? = (encC L[j])[r]?
  | x :: L, 0, r, _, hr => by
    show (encC x ++ flatC L)[0 * 3 + r]? = _
    rw [List.getElem?_append_left (by simp [encC]; omega)]
    simp
  | x :: L, j + 1, r, hj, hr => by
    have ih := flatC_get L j r (by simpa using hj) hr
    show (encC x ++ flatC L)[(j + 1) * 3 + r]? = _
    rw [List.getElem?_append_right (by simp [encC]; omega)]
    have e : (j + 1) * 3 + r - (encC x).length = j * 3 + r := by simp [encC]; omega
    rw [e, ih]
    simp
theorem flatC_app (L : List Cal) (e : Cal) : flatC (L ++ [e]) = flatC L ++ encC e := by
  unfold flatC
  rw [List.flatMap_append]
  simp
theorem infoC : (Tryz.prog.info? 51).map (fun i => (i.zero, i.size, i.bytes)) = some (some (.agg #[.int .i64 0, .int .i64 0, .int .i64 0]), 3, 24) := by kernel_rfl
theorem ownsC {w : World} {base : Nat} {v : Value} {l : List Cal} {n : Nat} (h : w.ownsRow base 51 3 v n (flatC l)) : n = l.length ∧ ∃ a cap, v = .slice a n cap ∧ n ≤ cap ∧ CalsAt w a l := by
  have hl : n = l.length := by have := h.1; rw [flatC_len] at this; omega
  refine ⟨hl, ?_⟩
  rcases h.2 with ⟨rfl, h0⟩ | ⟨g, cap, cur, rfl, hb, hh, hn, _, hsz, ht⟩
  · exact ⟨none, 0, by rw [h0], by omega, fun k hk => by omega⟩
  · refine ⟨_, _, rfl, hn, fun k hk => ⟨g, 0, rfl, ?_, ?_, ?_⟩⟩
    · have c := h.cells (g := g) rfl (k * 3 + 0) (.int .i64 l[k].f) (by rw [flatC_get l k 0 hk (by omega)]; rfl)
      rw [addr_add] at c
      exact c
    · have c := h.cells (g := g) rfl (k * 3 + 1) (.int .i64 l[k].i) (by rw [flatC_get l k 1 hk (by omega)]; rfl)
      rw [addr_add] at c
      exact c
    · have c := h.cells (g := g) rfl (k * 3 + 2) (.int .i64 l[k].c) (by rw [flatC_get l k 2 hk (by omega)]; rfl)
      rw [addr_add] at c
      exact c
theorem ownsC' {w : World} {base n d : Nat} {b : Option Addr} {l : List Cal} (h : w.ownsRow base 51 3 (.slice b n d) n (flatC l)) : n ≤ d ∧ CalsAt w b l := by
  obtain ⟨_, a, cap, he, h1, h2⟩ := ownsC h
  cases he
  exact ⟨h1, h2⟩
theorem appC {ops : Array Oper} {rest : List Oper} {o : Oper} {a : Act} {Q : Exit → Act → World → Prop} {w : World} (hgd : o.guard = none) (s x : Operand)
    (ho : o.op = .call { callee := .builtin .append, args := #[s, x], argTypes := #[34, 34] })
    (base : Nat) (v : Value) (l : List Cal) (hs : a.eval s = v) (hown : w.ownsRow base 51 3 v l.length (flatC l))
    (g : Nat) (y : Cal) (hx : a.eval x = .slice (some ⟨g, 0, none⟩) 1 1) (hg : Blk w g #[.int .i64 y.f, .int .i64 y.i, .int .i64 y.c] 51)
    (hn : l.length ≤ 1000000) (hbase : base ≤ w.heap.size)
    (h : ∀ v' w', w'.ownsRow base 51 3 v' (l ++ [y]).length (flatC (l ++ [y])) → w.grownBy w' v.ownBlock → wpList Tryz.prog ops Q rest (a.put o.dst v') w') : wpList Tryz.prog ops Q (o :: rest) a w := by
  obtain ⟨i0, hi, hz0, hz1, hz2⟩ := info_parts infoC
  refine wpList_append_own w hgd s x 34 ho base 51 i0 (.agg #[.int .i64 0, .int .i64 0, .int .i64 0]) 3 24 Tryz.underlying34 hi hz0 hz1 hz2 rfl (by decide) v l.length (flatC l) hs hown ⟨g, 0, none⟩ 1 1 [.int .i64 y.f, .int .i64 y.i, .int .i64 y.c] hx rfl ?_ (by intro u hu; simp at hu; rcases hu with rfl | rfl | rfl <;> rfl) (by unfold maxLen; omega) (by omega) hbase ?_
  · intro j u hu
    rw [addr_add, Nat.zero_add, cell_of_row _ _ _ _ _ _ hg]
    simpa using hu
  · intro v' w' h1 h2 _
    refine h v' w' ?_ h2
    rw [flatC_app, List.length_append]
    exact h1
end Go.Proofs.YtkbmnfijeknenaaGreatDoor
