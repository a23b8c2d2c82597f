/-
  Call edges and edges in memory; rows of one's own that are told apart.
-/
import Derived.Test.YtkbmnfijeknenaaGreatDoorTA
import Derived.Test.YtkbmnfijeknenaaGreatDoorWF
import Derived.Test.YtkbmnfijeknenaaGreatDoorG1
import Derived.Test.YtkbmnfijeknenaaGreatDoorNB
import Derived.Test.YtkbmnfijeknenaaGreatDoorMapn
import Derived.Sort.OwnSortedInts
namespace Go.Proofs.YtkbmnfijeknenaaGreatDoor
open Go.RowKit Go.Unit0 Go.AM

/-- call edges at an address -/
def CalsAt (w : World) (a : Option Addr) (l : List Cal) : Prop :=
  ∀ k (h : k < l.length), ∃ b off, a = some ⟨b, off, none⟩ ∧ w.cell? ⟨b, off + k * 3, none⟩ = some (.int .i64 l[k].f) ∧ w.cell? ⟨b, off + k * 3 + 1, none⟩ = some (.int .i64 l[k].i) ∧ w.cell? ⟨b, off + k * 3 + 2, none⟩ = some (.int .i64 l[k].c)
theorem CalsAt.below {w w' : World} {a : Option Addr} {l : List Cal} (h : CalsAt w a l) (hb : Below w.heap.size w w') : CalsAt w' a l := by
  intro k hk
  obtain ⟨b, off, ha, h0, h1, h2⟩ := h k hk
  exact ⟨b, off, ha, cell_below hb h0, cell_below hb h1, cell_below hb h2⟩
/-- edges at an address -/
def EdgsAt (w : World) (a : Option Addr) (l : List Edg) : Prop :=
  ∀ k (h : k < l.length), ∃ b off, a = some ⟨b, off, none⟩ ∧ w.cell? ⟨b, off + k * 2, none⟩ = some (.int .i64 l[k].1) ∧ w.cell? ⟨b, off + k * 2 + 1, none⟩ = some (.int .i64 l[k].2)
theorem EdgsAt.below {w w' : World} {a : Option Addr} {l : List Edg} (h : EdgsAt w a l) (hb : Below w.heap.size w w') : EdgsAt w' a l := by
  intro k hk
  obtain ⟨b, off, ha, h0, h1⟩ := h k hk
  exact ⟨b, off, ha, cell_below hb h0, cell_below hb h1⟩
def encE (e : Edg) : List Value := [.int .i64 e.1, .int .i64 e.2]
def flatE (L : List Edg) : List Value := L.flatMap encE
theorem flatE_len (L : List Edg) : (flatE L).length = L.length * 2 := by
  unfold flatE
  rw [List.length_flatMap]
  induction L with
  | nil => rfl
  | cons x L ih => rw [List.map_cons, List.sum_cons, ih, List.length_cons]; simp [encE]; omega
theorem flatE_get : ∀ (L : List Edg) (j r : Nat) (hj : j < L.length), r < 2 → (flatE L)[j * 2 + r]? = (encE L[j])[r]?
  | x :: L, 0, r, _, hr => by
    show (encE x ++ flatE L)[0 * 2 + r]? = _
    rw [List.getElem?_append_left (by simp [encE]; omega)]
    simp
  | x :: L, j + 1, r, hj, hr => by
    have ih := flatE_get L j r (by simpa using hj) hr
    show (encE x ++ flatE L)[(j + 1) * 2 + r]? = _
    rw [List.getElem?_append_right (by simp [encE]; omega)]
    have e : (j + 1) * 2 + r - (encE x).length = j * 2 + r := by simp [encE]; omega
    rw [e, ih]
    simp
theorem flatE_app (L : List Edg) (e : Edg) : flatE (L ++ [e]) = flatE L ++ [.int .i64 e.1, .int .i64 e.2] := by
  unfold flatE
  rw [List.flatMap_append]
  rfl
theorem infoE : (Tryz.prog.info? 42).map (fun i => (i.zero, i.size, i.bytes)) = some (some (.agg #[.int .i64 0, .int .i64 0]), 2, 16) := by kernel_rfl
/-- edges that are owned lie at their address -/
theorem owns_edgs {w : World} {base : Nat} {v : Value} {l : List Edg} {n : Nat} (h : w.ownsRow base 42 2 v n (flatE l)) : n = l.length ∧ ∃ a cap, v = .slice a n cap ∧ n ≤ cap ∧ EdgsAt w a l ∧ ∀ b off, a = some ⟨b, off, none⟩ → base ≤ b := by
  have hl : n = l.length := by have := h.1; rw [flatE_len] at this; omega
  refine ⟨hl, ?_⟩
  rcases h.2 with ⟨rfl, h0⟩ | ⟨g, cap, cur, rfl, hb, hh, hn, _, hsz, ht⟩
  · exact ⟨none, 0, by rw [h0], by omega, fun k hk => by omega, fun _ _ e => by cases e⟩
  · refine ⟨_, _, rfl, hn, fun k hk => ⟨g, 0, rfl, ?_, ?_⟩, fun b off e => by cases e; exact hb⟩
    · have c := h.cells (g := g) rfl (k * 2 + 0) (.int .i64 l[k].1) (by rw [flatE_get l k 0 hk (by omega)]; rfl)
      rw [addr_add] at c
      exact c
    · have c := h.cells (g := g) rfl (k * 2 + 1) (.int .i64 l[k].2) (by rw [flatE_get l k 1 hk (by omega)]; rfl)
      rw [addr_add] at c
      exact c
/-- append of one edge, which lies in a block of its own, to a row of one's own -/
theorem app_edge {ops : Array Oper} {rest : List Oper} {o : Oper} {a : Act} {Q : Exit → Act → World → Prop} {w : World} (hgd : o.guard = none) (s x : Operand)
    (ho : o.op = .call { callee := .builtin .append, args := #[s, x], argTypes := #[37, 37] })
    (base : Nat) (v : Value) (l : List Edg) (hs : a.eval s = v) (hown : w.ownsRow base 42 2 v l.length (flatE l))
    (g : Nat) (y : Edg) (hx : a.eval x = .slice (some ⟨g, 0, none⟩) 1 1) (hg : Blk w g #[.int .i64 y.1, .int .i64 y.2] 42)
    (hn : l.length ≤ 1000000) (hbase : base ≤ w.heap.size)
    (h : ∀ v' w', w'.ownsRow base 42 2 v' (l ++ [y]).length (flatE (l ++ [y])) → w.grownBy w' v.ownBlock → wpList Tryz.prog ops Q rest (a.put o.dst v') w') : wpList Tryz.prog ops Q (o :: rest) a w := by
  obtain ⟨i0, hi, hz0, hz1, hz2⟩ := info_parts infoE
  refine wpList_append_own w hgd s x 37 ho base 42 i0 (.agg #[.int .i64 0, .int .i64 0]) 2 16 Tryz.underlying37 hi hz0 hz1 hz2 rfl (by decide) v l.length (flatE l) hs hown ⟨g, 0, none⟩ 1 1 [.int .i64 y.1, .int .i64 y.2] hx rfl ?_ (by intro u hu; simp at hu; rcases hu with rfl | rfl <;> rfl) (by unfold maxLen; omega) (by omega) hbase ?_
  · intro j u hu
    rw [addr_add, Nat.zero_add, cell_of_row _ _ _ _ _ _ hg]
    simpa using hu
  · intro v' w' h1 h2 _
    refine h v' w' ?_ h2
    rw [flatE_app, List.length_append]
    exact h1
theorem owns_ints' {w : World} {base n d : Nat} {b : Option Addr} {l : List Int} (h : w.ownsRow base 3 1 (.slice b n d) n (l.map intV)) : n ≤ d ∧ IntsAt w b l := by
  obtain ⟨_, a, cap, he, h1, h2⟩ := owns_ints h
  cases he
  exact ⟨h1, h2⟩
/-- where an append's row lies: where it lay, or in a new block -/
theorem append_fresh (w : World) (base : Nat) (t ty e : TypeId) (i : TypeInfo) (z : Value) (size bytes : Nat) (ht : Tryz.prog.underlying t = some (.slice e)) (hi : Tryz.prog.info? e = some i) (hz : i.zero = some z)
    (hsize : i.size = size) (hby : i.bytes = bytes)
    (v : Value) (n : Nat) (xs : List Value) (hown : w.ownsRow base e size v n xs)
    (a : Addr) (m c : Nat) (hm : 0 < m) (news : List Value) (hl : news.length = m * size) (hnews : ∀ j u, news[j]? = some u → w.cell? (a.add j) = some u) (h1 : ∀ u ∈ news, u.oneCell' = true)
    (h63 : n + m ≤ maxLen) (hbytes : (n + m) * bytes ≤ 140737488355328) {v' : Value} {w' : World} (hr : (Builtin.append_ #[t, t] ty #[v, .slice (some a) m c]).run Tryz.prog w = .ok v' w') :
    v'.ownBlock = v.ownBlock ∨ v'.ownBlock = some w.heap.size := by
  subst hsize
  subst hby
  have hsmall : n + m ≤ 9223372036854775807 := by simp only [maxLen] at h63; omega
  rcases hown.2 with ⟨rfl, rfl⟩ | ⟨g, cap, cur, rfl, hbg, hg, hnc, hcm, hcs, htake⟩
  · have h := run_append_nil (P := Tryz.prog) w t ty e i z ht hi hz a m c news hl hnews hm (by omega) (by have hb := hbytes; simp only [Nat.zero_add] at hb; omega)
    rw [h] at hr
    cases hr
    exact .inr rfl
  · by_cases hroom : n + m ≤ cap
    · have h := run_append_room (P := Tryz.prog) w t ty e i ht hi g n cap cur hg a m c news hl hnews h1 hroom (by rw [hl, hcs, ← Nat.add_mul]; exact Nat.mul_le_mul_right _ hroom)
      rw [h] at hr
      cases hr
      exact .inl rfl
    · have holds : ∀ j u, xs[j]? = some u → w.cell? ((⟨g, 0, none⟩ : Addr).add j) = some u := hown.cells (g := g) rfl
      have h := run_append_grow (P := Tryz.prog) w t ty e i z ht hi hz ⟨g, 0, none⟩ n cap xs hown.1 holds a m c news hl hnews (by omega) (by omega) (growslice_fits (by omega) hbytes)
      rw [h] at hr
      cases hr
      exact .inr rfl
/-- append of one number, which lies in a block of its own, to a row of one's own; and where the row lies then -/
theorem app_intF {ops : Array Oper} {rest : List Oper} {o : Oper} {a : Act} {Q : Exit → Act → World → Prop} {w : World} (hgd : o.guard = none) (s x : Operand)
    (ho : o.op = .call { callee := .builtin .append, args := #[s, x], argTypes := #[31, 31] })
    (base : Nat) (v : Value) (l : List Int) (hs : a.eval s = v) (hown : w.ownsRow base 3 1 v l.length (l.map intV))
    (g : Nat) (y : Int) (hx : a.eval x = .slice (some ⟨g, 0, none⟩) 1 1) (hg : Blk w g #[.int .i64 y] 3)
    (hn : l.length ≤ 1000000) (hbase : base ≤ w.heap.size)
    (h : ∀ v' w', w'.ownsRow base 3 1 v' (l ++ [y]).length ((l ++ [y]).map intV) → w.grownBy w' v.ownBlock → (v'.ownBlock = v.ownBlock ∨ v'.ownBlock = some w.heap.size) → wpList Tryz.prog ops Q rest (a.put o.dst v') w') : wpList Tryz.prog ops Q (o :: rest) a w := by
  obtain ⟨i0, hi, hz0, hz1, hz2⟩ := info_parts infoI
  refine wpList_plain hgd fun K hK => ?_
  have hnews : ∀ j u, [intV y][j]? = some u → w.cell? ((⟨g, 0, none⟩ : Addr).add j) = some u := by
    intro j u hu
    rw [addr_add, Nat.zero_add, cell_of_row _ _ _ _ _ _ hg]
    simpa [intV] using hu
  have h1 : ∀ u ∈ [intV y], u.oneCell' = true := by intro u hu; rw [List.mem_singleton.1 hu]; rfl
  obtain ⟨v', w', hr, h2, h3, _⟩ := run_append_own (P := Tryz.prog) w base 31 o.type 3 i0 (.int .i64 0) 1 8 Tryz.underlying31 hi hz0 hz1 hz2 rfl (by decide) v l.length (l.map intV) hown ⟨g, 0, none⟩ 1 1 [intV y] rfl hnews h1 (by unfold maxLen; omega) (by omega) hbase
  have h4 := append_fresh w base 31 o.type 3 i0 (.int .i64 0) 1 8 Tryz.underlying31 hi hz0 hz1 hz2 v l.length (l.map intV) hown ⟨g, 0, none⟩ 1 1 (by omega) [intV y] rfl hnews h1 (by unfold maxLen; omega) (by omega) hr
  unfold Oper.wp execOp
  simp only [ho, resolve, invoke, builtin, Sem.run_bind, Sem.run_pure, Result.andThen_ok, List.map_toArray, List.map_cons, List.map_nil, hs, hx, hr]
  refine hK _ _ (h v' w' ?_ h3 h4)
  rw [List.map_append, List.length_append]
  exact h2
/-- a row that was made whole is a block -/
theorem blk_of_full {w : World} {base : Nat} {e : TypeId} {g n : Nat} {xs : List Value} (h : w.ownsRow base e 1 (.slice (some ⟨g, 0, none⟩) n n) n xs) : Blk w g xs.toArray e := by
  rcases h.2 with ⟨he, _⟩ | ⟨g', cap, cur, he, _, hh, _, _, hsz, ht⟩
  · cases he
  · cases he
    unfold Blk
    rw [hh]
    have : cur = xs.toArray := by
      apply Array.ext'
      rw [← ht, List.take_of_length_le (by rw [Array.length_toList, hsz]; exact Nat.le_refl _)]
    rw [this]
/-- lists of numbers of one's own, each in a row of its own -/
structure AdjV (w : World) (base B : Nat) (ls : List (List Int)) (vs : List Value) : Prop where
  ln : vs.length = ls.length
  bk : Blk w B vs.toArray 31
  ow : ∀ (i : Nat) (h : i < vs.length) (h' : i < ls.length), w.ownsRow base 3 1 vs[i] ls[i].length (ls[i].map intV)
  ap : ∀ (i j : Nat) (hi : i < vs.length) (hj : j < vs.length) (g : Nat), i ≠ j → vs[i].ownBlock = some g → vs[j].ownBlock ≠ some g
theorem AdjV.below {w w' : World} {base B : Nat} {ls : List (List Int)} {vs : List Value} (h : AdjV w base B ls vs) (hb : Below w.heap.size w w') : AdjV w' base B ls vs :=
  ⟨h.ln, h.bk.below hb, fun i hi hi' => owns_below (h.ow i hi hi') hb, h.ap⟩
theorem AdjV.start {w : World} {base B n : Nat} (hb : Blk w B (List.replicate n (Value.slice none 0 0)).toArray 31) : AdjV w base B (List.replicate n []) (List.replicate n (.slice none 0 0)) :=
  ⟨by simp, hb, fun i hi hi' => by
    have e1 : (List.replicate n (Value.slice none 0 0))[i] = .slice none 0 0 := by simp
    have e2 : (List.replicate n ([] : List Int))[i] = [] := by simp
    rw [e1, e2]
    exact World.ownsRow_nil _ _ _ _, fun i j hi hj g _ e => by
    have e1 : (List.replicate n (Value.slice none 0 0))[i] = .slice none 0 0 := by simp
    rw [e1] at e
    simp [Value.ownBlock] at e⟩
/-- one row has grown, and its slice has been put back -/
theorem AdjV.put {w w1 : World} {base B : Nat} {ls : List (List Int)} {vs : List Value} (h : AdjV w base B ls vs) (hB : B < base) {f : Nat} (hf : f < vs.length) (hf' : f < ls.length) {v' : Value} {y : Int}
    (hbase : base ≤ w.heap.size) (ow : w1.ownsRow base 3 1 v' (ls[f] ++ [y]).length ((ls[f] ++ [y]).map intV)) (hg : w.grownBy w1 vs[f].ownBlock) (hfr : v'.ownBlock = vs[f].ownBlock ∨ v'.ownBlock = some w.heap.size) :
    AdjV (w1.setCell ⟨B, f, none⟩ v') base B (ls.set f (ls[f] ++ [y])) (vs.set f v') := by
  have hne : ∀ (v : Value) (n : Nat) (xs : List Value) (u : World), u.ownsRow base 3 1 v n xs → v.ownBlock ≠ some B := fun v n xs u ho e => by have := (ho.lt B e).1; omega
  have bk1 : Blk w1 B vs.toArray 31 := h.bk.grown hg (fun e => hne _ _ _ _ (h.ow f hf hf') e.symm)
  refine ⟨by simp [h.ln], ?_, fun i hi hi' => ?_, fun i j hi hj g hij => ?_⟩
  · have := bk1.set f v'
    simpa using this
  · have hi1 : i < vs.length := by simpa using hi
    have hi2 : i < ls.length := by simpa using hi'
    rw [List.getElem_set, List.getElem_set]
    by_cases e : f = i
    · rw [if_pos e, if_pos e]
      exact ownsRow_setCell_other ow (hne _ _ _ _ ow) _
    · rw [if_neg e, if_neg e]
      have o1 := h.ow i hi1 hi2
      have o2 : w1.ownsRow base 3 1 vs[i] ls[i].length (ls[i].map intV) := o1.kept hg (by
        cases hv : vs[i].ownBlock with
        | none => exact .inl rfl
        | some q => exact .inr (fun e2 => h.ap i f hi1 hf q (Ne.symm e) hv e2.symm))
      exact ownsRow_setCell_other o2 (hne _ _ _ _ o2) _
  · have hi1 : i < vs.length := by simpa using hi
    have hj1 : j < vs.length := by simpa using hj
    rw [List.getElem_set, List.getElem_set]
    have old : ∀ (k : Nat) (hk : k < vs.length) (q : Nat), vs[k].ownBlock = some q → q < w.heap.size := fun k hk q e => ((h.ow k hk (by rw [← h.ln]; exact hk)).lt q e).2
    by_cases e1 : f = i
    · have e2 : ¬ f = j := fun e => hij (e1.symm.trans e)
      rw [if_pos e1, if_neg e2]
      intro hv hv2
      rcases hfr with hr | hr
      · exact h.ap f j hf hj1 g e2 (hr ▸ hv) hv2
      · rw [hr] at hv
        have := old j hj1 g hv2
        cases hv
        omega
    · rw [if_neg e1]
      by_cases e2 : f = j
      · rw [if_pos e2]
        intro hv hv2
        rcases hfr with hr | hr
        · exact h.ap f i hf hi1 g e1 (hr ▸ hv2) hv
        · rw [hr] at hv2
          have := old i hi1 g hv
          cases hv2
          omega
      · rw [if_neg e2]
        exact h.ap i j hi1 hj1 g hij
end Go.Proofs.YtkbmnfijeknenaaGreatDoor
