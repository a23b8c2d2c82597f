/-
  Rows of slices of numbers: append, slices of them.
-/
import Derived.Test.YtdbmmdjmkbnboaaGreatDoorQe
import Derived.Test.YtdbmmdjmkbnboaaGreatDoorQg
namespace Go.Proofs.YtdbmmdjmkbnboaaGreatDoor
open Go.RowKit Go.Unit0

/-- slices at an address -/
def SlisAt (w : World) (a : Option Addr) (D : List Sli) : Prop :=
  ∀ k (h : k < D.length), ∃ b off, a = some ⟨b, off, none⟩ ∧ w.cell? ⟨b, off + k, none⟩ = some (encS D[k])
theorem SlisAt.below {w w' : World} {a : Option Addr} {D : List Sli} (h : SlisAt w a D) (hb : Below w.heap.size w w') : SlisAt w' a D := by
  intro k hk
  obtain ⟨b, off, ha, h0⟩ := h k hk
  exact ⟨b, off, ha, cell_below hb h0⟩
/-- append of numbers to a row of one's own -/
theorem app_slis {ops : Array Oper} {rest : List Oper} {o : Oper} {a : Act} {Q : Exit → Act → World → Prop} {w : World} (hgd : o.guard = none) (s x : Operand)
    (ho : o.op = .call { callee := .builtin .append, args := #[s, x], argTypes := #[35, 35] })
    (base : Nat) (v : Value) (l : List Sli) (hs : a.eval s = v) (hown : w.ownsRow base 38 1 v l.length (l.map encS))
    (ad : Option Addr) (c : Nat) (m : List Sli) (hx : a.eval x = .slice ad m.length c) (hat : SlisAt w ad m)
    (hn : l.length ≤ 1000000) (hm : m.length ≤ 1000000) (hbase : base ≤ w.heap.size)
    (h : ∀ v' w', w'.ownsRow base 38 1 v' (l ++ m).length ((l ++ m).map encS) → w.grownBy w' v.ownBlock → wpList Tryz.prog ops Q rest (a.put o.dst v') w') : wpList Tryz.prog ops Q (o :: rest) a w := by
  obtain ⟨i0, hi, hz0, hz1, hz2⟩ := info_parts infoSl
  cases ad with
  | none =>
    have hm0 : m = [] := by
      cases m with
      | nil => rfl
      | cons y m => obtain ⟨_, _, he, _⟩ := hat 0 (by simp); cases he
    subst hm0
    refine wpList_plain hgd fun K hK => ?_
    have hrun : ∀ ty, (Builtin.append_ #[35, 35] ty #[v, .slice none 0 c]).run Tryz.prog w = .ok v w := fun ty => by
      rcases hown.2 with ⟨rfl, _⟩ | ⟨g, cap, cur, rfl, _, _, hnc, _⟩
      · simp [Builtin.append_, run_underlying Tryz.underlying35, sizeOf, typeInfo, hi, Builtin.lenOf, Builtin.firstCells]
      · simp [Builtin.append_, run_underlying Tryz.underlying35, sizeOf, typeInfo, hi, Builtin.lenOf, Builtin.firstCells, hnc, storeCells]
    unfold Oper.wp
    simp [execOp, ho, resolve, invoke, builtin, hs, hx, hrun, Result.andThen]
    exact hK _ _ (h v w (by simpa using hown) (World.grownBy.refl w _))
  | some adr =>
    refine wpList_append_own w hgd s x 35 ho base 38 i0 (.slice none 0 0) 1 24 Tryz.underlying35 hi hz0 hz1 hz2 rfl (by decide) v l.length (l.map encS) hs hown adr m.length c (m.map encS) hx (by simp) ?_ (by intro u hu; obtain ⟨y, _, rfl⟩ := List.mem_map.1 hu; rfl) (by unfold maxLen; omega) (by omega) hbase ?_
    · intro j u hu
      obtain ⟨hj, rfl⟩ := List.getElem?_eq_some_iff.1 hu
      rw [List.length_map] at hj
      obtain ⟨b, off, he, hc⟩ := hat j hj
      cases he
      rw [addr_add, hc]
      simp
    · intro v' w' h1 h2 _
      refine h v' w' ?_ h2
      rw [List.map_append, List.length_append]
      exact h1
theorem owns_slis {w : World} {base : Nat} {v : Value} {l : List Sli} {n : Nat} (h : w.ownsRow base 38 1 v n (l.map encS)) : n = l.length ∧ ∃ a cap, v = .slice a n cap ∧ n ≤ cap ∧ SlisAt w a l := by
  have hl : n = l.length := by have := h.1; simp at this; omega
  refine ⟨hl, ?_⟩
  rcases h.2 with ⟨rfl, h0⟩ | ⟨g, cap, cur, rfl, hb, hh, hn, _, hsz, ht⟩
  · exact ⟨none, 0, by rw [h0], by omega, fun k hk => by omega⟩
  · refine ⟨_, _, rfl, hn, fun k hk => ⟨g, 0, rfl, ?_⟩⟩
    have c := h.cells (g := g) rfl k (encS l[k]) (by simp [hk])
    rw [addr_add] at c
    exact c
theorem owns_slis' {w : World} {base n d : Nat} {b : Option Addr} {l : List Sli} (h : w.ownsRow base 38 1 (.slice b n d) n (l.map encS)) : n ≤ d ∧ SlisAt w b l := by
  obtain ⟨_, a, cap, he, h1, h2⟩ := owns_slis h
  cases he
  exact ⟨h1, h2⟩
theorem slisAt_take {w : World} {a : Option Addr} {l : List Sli} (h : SlisAt w a l) (n : Nat) : SlisAt w a (l.take n) := by
  intro k hk
  have hk' : k < l.length := by simp at hk; omega
  obtain ⟨b, off, ha, hc⟩ := h k hk'
  exact ⟨b, off, ha, by rw [hc]; simp⟩
set_option maxRecDepth 100000 in
theorem slHi (a : Option Addr) (n cap k : Nat) (h : k ≤ cap) (w : World) : (Instr.slice 35 (.slice a n cap) none (some (.int .i64 (k : Int))) none).run Tryz.prog w = .ok (.slice a k cap) w := by
  have hs : (sizeOf (Tryz.prog.elem 35)).run Tryz.prog w = .ok 1 w := by kernel_rfl
  rw [run_slice_h w 35 a n cap Tryz.underlying35 .i64 (k : Int) (by omega) (by omega), hs]
  have e : a.map (fun x => x.add 0) = a := by
    cases a with
    | none => rfl
    | some x => simp [Addr.add]
  simp [Result.andThen, sliced, e]
set_option maxRecDepth 100000 in
theorem slLo (a : Option Addr) (n cap m : Nat) (hm : m ≤ n) (hc : n ≤ cap) : ∃ a', (∀ w : World, (Instr.slice 35 (.slice a n cap) (some (.int .i64 (m : Int))) none none).run Tryz.prog w = .ok (.slice a' (n - m) (cap - m)) w) ∧ ∀ (w : World) (l : List Sli), l.length = n → SlisAt w a l → SlisAt w a' (l.drop m) := by
  refine ⟨if cap = m then a else a.map (fun x => x.add m), fun w => ?_, fun w l hl h k hk => ?_⟩
  · have hs : (sizeOf (Tryz.prog.elem 35)).run Tryz.prog w = .ok 1 w := by kernel_rfl
    rw [run_slice_l w 35 a n cap Tryz.underlying35 .i64 (m : Int) (by omega) (by omega), hs]
    by_cases e : cap = m
    · subst e
      have e2 : a.map (fun x => x.add 0) = a := by
        cases a with
        | none => rfl
        | some x => simp [Addr.add]
      simp [Result.andThen, sliced]
    · simp [Result.andThen, sliced, e]
  · have hk' : m + k < l.length := by simp at hk; omega
    obtain ⟨b, off, ha, h0⟩ := h (m + k) hk'
    subst ha
    refine ⟨b, off + m, ?_, ?_⟩
    · rw [if_neg (by omega)]; simp [addr_add]
    · rw [show off + m + k = off + (m + k) by omega, h0, List.getElem_drop]
/-- append of one slice, which lies in a block of its own -/
theorem app_sl1 {ops : Array Oper} {rest : List Oper} {o : Oper} {a : Act} {Q : Exit → Act → World → Prop} {w : World} (hgd : o.guard = none) (s x : Operand)
    (ho : o.op = .call { callee := .builtin .append, args := #[s, x], argTypes := #[35, 35] })
    (base : Nat) (v : Value) (D : List Sli) (hs : a.eval s = v) (hown : w.ownsRow base 38 1 v D.length (D.map encS))
    (g : Nat) (y : Sli) (hx : a.eval x = .slice (some ⟨g, 0, none⟩) 1 1) (hg : Blk w g #[encS y] 38)
    (hn : D.length ≤ 1000000) (hbase : base ≤ w.heap.size)
    (h : ∀ v' w', w'.ownsRow base 38 1 v' (D ++ [y]).length ((D ++ [y]).map encS) → w.grownBy w' v.ownBlock → wpList Tryz.prog ops Q rest (a.put o.dst v') w') : wpList Tryz.prog ops Q (o :: rest) a w :=
  app_slis hgd s x ho base v D hs hown (some ⟨g, 0, none⟩) 1 [y] hx (fun k hk => by
    have : k = 0 := by simpa using hk
    subst this
    exact ⟨g, 0, rfl, by rw [cell_of_row _ _ _ _ _ _ hg]; rfl⟩) hn (by simp) hbase h
/-- rows of numbers at an address -/
def RowsAt (w : World) (a : Option Addr) (ls : List (List Int)) : Prop :=
  ∀ k (h : k < ls.length), ∃ b off ra rc, a = some ⟨b, off, none⟩ ∧ w.cell? ⟨b, off + k, none⟩ = some (.slice ra ls[k].length rc) ∧ IntsAt w ra ls[k]
theorem RowsAt.below {w w' : World} {a : Option Addr} {ls : List (List Int)} (h : RowsAt w a ls) (hb : Below w.heap.size w w') : RowsAt w' a ls := by
  intro k hk
  obtain ⟨b, off, ra, rc, ha, h0, h1⟩ := h k hk
  exact ⟨b, off, ra, rc, ha, cell_below hb h0, h1.below hb⟩
theorem rows_of {w : World} {a : Option Addr} {D : List Sli} (h : SlisAt w a D) (hi : ∀ x ∈ D, IntsAt w x.a x.l) : RowsAt w a (D.map (·.l)) := by
  intro k hk
  have hk' : k < D.length := by simpa using hk
  obtain ⟨b, off, ha, h0⟩ := h k hk'
  refine ⟨b, off, D[k].a, D[k].c, ha, ?_, ?_⟩
  · rw [h0]; simp [encS]
  · simpa using hi _ (List.getElem_mem hk')
/-- the call returns rows of numbers that lie somewhere -/
def RowsLie (L : List (List Int)) (w : World) (e : Ending) (w' : World) : Prop :=
  Below w.heap.size w w' ∧ ∃ a c, e = .returned (.slice a L.length c) ∧ L.length ≤ c ∧ RowsAt w' a L
end Go.Proofs.YtdbmmdjmkbnboaaGreatDoor
