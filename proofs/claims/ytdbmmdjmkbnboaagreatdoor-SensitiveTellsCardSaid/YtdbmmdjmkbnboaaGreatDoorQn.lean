/-
  Memory for the laws of an analysis in contexts: what the seat's base (T1) lacks.
-/
import Derived.Test.YtdbmmdjmkbnboaaGreatDoorT1
import Derived.Test.YtdbmmdjmkbnboaaGreatDoorRegy
import Derived.Laws.CopyOwn
namespace Go.Proofs.YtdbmmdjmkbnboaaGreatDoor
open Go.RowKit

theorem owns_ne {w : World} {base : Nat} {e : TypeId} {s n : Nat} {v : Value} {xs : List Value} (h : w.ownsRow base e s v n xs) {g : Nat} {cs : Array Value} {t : TypeId} {fr : Nat × Nat} (hg : w.heap[g]? = some (.cells cs t fr)) (hne : t ≠ e) : some g ≠ v.ownBlock := by
  rcases h.2 with ⟨rfl, _⟩ | ⟨g', cap, cur, rfl, _, hh, _⟩
  · simp [Value.ownBlock]
  · simp only [Value.ownBlock, ne_eq, Option.some.injEq]
    rintro rfl
    rw [hg] at hh
    simp only [Option.some.injEq, Obj.cells.injEq] at hh
    exact hne hh.2.1
theorem grown_row (w : World) (g : Nat) (cs : Array Value) : w.grownBy (w.setRow g cs) (some g) :=
  ⟨rfl, rfl, rfl, by simp, fun k _ hne => setRow_other w g k cs (fun e => hne (by rw [e]))⟩
theorem grown_set (w : World) (g i : Nat) (v : Value) : w.grownBy (w.setCell ⟨g, i, none⟩ v) (some g) := by
  refine ⟨rfl, rfl, rfl, by simp [World.setCell], fun k hk hne => ?_⟩
  simp only [World.setCell, Array.getElem?_modify]
  rw [if_neg (fun e => hne (by rw [e]))]
theorem owns_below {w w' : World} {base e s n : Nat} {v : Value} {xs : List Value} (h : w.ownsRow base e s v n xs) (hb : Below w.heap.size w w') : w'.ownsRow base e s v n xs :=
  h.kept ⟨hb.os, hb.tape, hb.output, hb.size, fun k hk _ => hb.block k hk⟩ (row := none) (by cases hv : Value.ownBlock _ <;> simp)
/-- a world in which nothing that was in W has changed -/
structure WB (W : World) where
  u : World
  h : Below W.heap.size W u
theorem WB.step {W : World} (o : WB W) {w' : World} (h : Below o.u.heap.size o.u w') : ∃ o' : WB W, w' = o'.u := ⟨⟨w', o.h.trans (h.mono o.h.size)⟩, rfl⟩
theorem below_row {w wr : World} {g : Nat} (h : Below w.heap.size w wr) (hg : w.heap.size ≤ g) (cs : Array Value) : Below w.heap.size w (wr.setRow g cs) := below_setRow h hg cs
/-- a region that draws its order, in which all only read or call what makes memory of its own -/
theorem wp_region_WB {id : Nat} {Q : Exit → Act → World → Prop} {a : Act} {l : List Oper} (W : World) (hB : Region.lexB .any l.toArray = true)
    (h : wpQuiet Tryz.prog l.toArray (fun w' => ∃ o : WB W, w' = o.u) (fun a' => ∀ w', (∃ o : WB W, w' = o.u) → Q .normal a' w') l a) : (Code.region id l.toArray true).wp Tryz.prog Q a W :=
  wp_region_quiet (C := fun w' => ∃ o : WB W, w' = o.u) (by kernel_rfl) hB ⟨⟨_, (Below.refl _ W).drew⟩, rfl⟩ (by simpa using h)
theorem Ret.inB {W : World} {o : WB W} {v : Value} {e : Ending} {w' : World} (h : Ret o.u v e w') : e = .returned v ∧ ∃ o' : WB W, w' = o'.u := ⟨h.1, o.step h.2⟩
theorem Same.inB {W : World} {o : WB W} {v : Value} {e : Ending} {w' : World} (h : Same o.u v e w') : e = .returned v ∧ ∃ o' : WB W, w' = o'.u := ⟨h.1, o, h.2.symm⟩
/-- the call returns a Bool of which something is known, and makes memory of its own alone -/
def BPost (P : Bool → Prop) (w : World) (e : Ending) (w' : World) : Prop := Below w.heap.size w w' ∧ ∃ b, e = .returned (.bool b) ∧ P b
theorem infoI : (Tryz.prog.info? 3).map (fun i => (i.zero, i.size, i.bytes)) = some (some (.int .i64 0), 1, 8) := by kernel_rfl
def intV (i : Int) : Value := .int .i64 i
/-- append of numbers to a row of one's own -/
theorem app_ints {ops : Array Oper} {rest : List Oper} {o : Oper} {a : Act} {Q : Exit → Act → World → Prop} {w : World} (hgd : o.guard = none) (s x : Operand)
    (ho : o.op = .call { callee := .builtin .append, args := #[s, x], argTypes := #[38, 38] })
    (base : Nat) (v : Value) (l : List Int) (hs : a.eval s = v) (hown : w.ownsRow base 3 1 v l.length (l.map intV))
    (ad : Option Addr) (c : Nat) (m : List Int) (hx : a.eval x = .slice ad m.length c) (hat : IntsAt w ad m)
    (hn : l.length ≤ 1000000) (hm : m.length ≤ 1000000) (hbase : base ≤ w.heap.size)
    (h : ∀ v' w', w'.ownsRow base 3 1 v' (l ++ m).length ((l ++ m).map intV) → w.grownBy w' v.ownBlock → wpList Tryz.prog ops Q rest (a.put o.dst v') w') : wpList Tryz.prog ops Q (o :: rest) a w := by
  obtain ⟨i0, hi, hz0, hz1, hz2⟩ := info_parts infoI
  cases ad with
  | none =>
    have hm0 : m = [] := by
      cases m with
      | nil => rfl
      | cons y m => obtain ⟨_, _, he, _⟩ := hat 0 (by simp); cases he
    subst hm0
    refine wpList_plain hgd fun K hK => ?_
    have hrun : ∀ ty, (Builtin.append_ #[38, 38] ty #[v, .slice none 0 c]).run Tryz.prog w = .ok v w := fun ty => by
      rcases hown.2 with ⟨rfl, _⟩ | ⟨g, cap, cur, rfl, _, _, hnc, _⟩
      · simp [Builtin.append_, run_underlying Tryz.underlying38, sizeOf, typeInfo, hi, Builtin.lenOf, Builtin.firstCells]
      · simp [Builtin.append_, run_underlying Tryz.underlying38, sizeOf, typeInfo, hi, Builtin.lenOf, Builtin.firstCells, hnc, storeCells]
    unfold Oper.wp
    simp [execOp, ho, resolve, invoke, builtin, hs, hx, hrun, Result.andThen]
    exact hK _ _ (h v w (by simpa using hown) (World.grownBy.refl w _))
  | some adr =>
    refine wpList_append_own w hgd s x 38 ho base 3 i0 (.int .i64 0) 1 8 Tryz.underlying38 hi hz0 hz1 hz2 rfl (by decide) v l.length (l.map intV) hs hown adr m.length c (m.map intV) hx (by simp) ?_ (by intro u hu; obtain ⟨y, _, rfl⟩ := List.mem_map.1 hu; rfl) (by unfold maxLen; omega) (by omega) hbase ?_
    · intro j u hu
      obtain ⟨hj, rfl⟩ := List.getElem?_eq_some_iff.1 hu
      rw [List.length_map] at hj
      obtain ⟨b, off, he, hc⟩ := hat j hj
      cases he
      rw [addr_add, hc]
      simp [intV]
    · intro v' w' h1 h2 _
      refine h v' w' ?_ h2
      rw [List.map_append, List.length_append]
      exact h1
theorem owns_ints {w : World} {base : Nat} {v : Value} {l : List Int} {n : Nat} (h : w.ownsRow base 3 1 v n (l.map intV)) : n = l.length ∧ ∃ a cap, v = .slice a n cap ∧ n ≤ cap ∧ IntsAt w a l := by
  have hl : n = l.length := by have := h.1; simp at this; omega
  refine ⟨hl, ?_⟩
  rcases h.2 with ⟨rfl, h0⟩ | ⟨g, cap, cur, rfl, hb, hh, hn, _, hsz, ht⟩
  · exact ⟨none, 0, by rw [h0], by omega, fun k hk => by omega⟩
  · refine ⟨_, _, rfl, hn, fun k hk => ⟨g, 0, rfl, ?_⟩⟩
    have c := h.cells (g := g) rfl k (intV l[k]) (by simp [hk])
    rw [addr_add] at c
    exact c
/-- a row of one's own has grown: what existed before is as it was -/
theorem grow_below {w0 w w' : World} {e s n : Nat} {v : Value} {xs : List Value} (hb : Below w0.heap.size w0 w) (own : w.ownsRow w0.heap.size e s v n xs) (hg : w.grownBy w' v.ownBlock) : Below w0.heap.size w0 w' :=
  hb.grown hg hb.size (fun g h => (own.lt g h).1)
theorem owns_ints' {w : World} {base n d : Nat} {b : Option Addr} {l : List Int} (h : w.ownsRow base 3 1 (.slice b n d) n (l.map intV)) : n ≤ d ∧ IntsAt w b l := by
  obtain ⟨_, a, cap, he, h1, h2⟩ := owns_ints h
  cases he
  exact ⟨h1, h2⟩
/-- where an append's row lies: where it lay, or in a new block -/
theorem append_fresh (w : World) (base : Nat) (t ty e : TypeId) (i : TypeInfo) (z : Value) (size bytes : Nat) (ht : Tryz.prog.underlying t = some (.slice e)) (hi : Tryz.prog.info? e = some i) (hz : i.zero = some z)
    (hsize : i.size = size) (hby : i.bytes = bytes)
    (v : Value) (n : Nat) (xs : List Value) (hown : w.ownsRow base e size v n xs)
    (a : Addr) (m c : Nat) (hm : 0 < m) (news : List Value) (hl : news.length = m * size) (hnews : ∀ j u, news[j]? = some u → w.cell? (a.add j) = some u) (h1 : ∀ u ∈ news, u.oneCell' = true)
    (h63 : n + m ≤ maxLen) (hbytes : (n + m) * bytes ≤ 140737488355328) {v' : Value} {w' : World} (hr : (Builtin.append_ #[t, t] ty #[v, .slice (some a) m c]).run Tryz.prog w = .ok v' w') :
    v'.ownBlock = v.ownBlock ∨ v'.ownBlock = some w.heap.size := by
  subst hsize
  subst hby
  have hsmall : n + m ≤ 9223372036854775807 := by simp only [maxLen] at h63; omega
  rcases hown.2 with ⟨rfl, rfl⟩ | ⟨g, cap, cur, rfl, hbg, hg, hnc, hcm, hcs, htake⟩
  · have h := run_append_nil (P := Tryz.prog) w t ty e i z ht hi hz a m c news hl hnews hm (by omega) (by have hb := hbytes; simp only [Nat.zero_add] at hb; omega)
    rw [h] at hr
    cases hr
    exact .inr rfl
  · by_cases hroom : n + m ≤ cap
    · have h := run_append_room (P := Tryz.prog) w t ty e i ht hi g n cap cur hg a m c news hl hnews h1 hroom (by rw [hl, hcs, ← Nat.add_mul]; exact Nat.mul_le_mul_right _ hroom)
      rw [h] at hr
      cases hr
      exact .inl rfl
    · have holds : ∀ j u, xs[j]? = some u → w.cell? ((⟨g, 0, none⟩ : Addr).add j) = some u := hown.cells (g := g) rfl
      have h := run_append_grow (P := Tryz.prog) w t ty e i z ht hi hz ⟨g, 0, none⟩ n cap xs hown.1 holds a m c news hl hnews (by omega) (by omega) (growslice_fits (by omega) hbytes)
      rw [h] at hr
      cases hr
      exact .inr rfl
/-- append of one number, which lies in a block of its own, to a row of one's own; and where the row lies then -/
theorem app_intF {ops : Array Oper} {rest : List Oper} {o : Oper} {a : Act} {Q : Exit → Act → World → Prop} {w : World} (hgd : o.guard = none) (s x : Operand)
    (ho : o.op = .call { callee := .builtin .append, args := #[s, x], argTypes := #[38, 38] })
    (base : Nat) (v : Value) (l : List Int) (hs : a.eval s = v) (hown : w.ownsRow base 3 1 v l.length (l.map intV))
    (g : Nat) (y : Int) (hx : a.eval x = .slice (some ⟨g, 0, none⟩) 1 1) (hg : Blk w g #[.int .i64 y] 3)
    (hn : l.length ≤ 1000000) (hbase : base ≤ w.heap.size)
    (h : ∀ v' w', w'.ownsRow base 3 1 v' (l ++ [y]).length ((l ++ [y]).map intV) → w.grownBy w' v.ownBlock → (v'.ownBlock = v.ownBlock ∨ v'.ownBlock = some w.heap.size) → wpList Tryz.prog ops Q rest (a.put o.dst v') w') : wpList Tryz.prog ops Q (o :: rest) a w := by
  obtain ⟨i0, hi, hz0, hz1, hz2⟩ := info_parts infoI
  refine wpList_plain hgd fun K hK => ?_
  have hnews : ∀ j u, [intV y][j]? = some u → w.cell? ((⟨g, 0, none⟩ : Addr).add j) = some u := by
    intro j u hu
    rw [addr_add, Nat.zero_add, cell_of_row _ _ _ _ _ _ hg]
    simpa [intV] using hu
  have h1 : ∀ u ∈ [intV y], u.oneCell' = true := by intro u hu; rw [List.mem_singleton.1 hu]; rfl
  obtain ⟨v', w', hr, h2, h3, _⟩ := run_append_own (P := Tryz.prog) w base 38 o.type 3 i0 (.int .i64 0) 1 8 Tryz.underlying38 hi hz0 hz1 hz2 rfl (by decide) v l.length (l.map intV) hown ⟨g, 0, none⟩ 1 1 [intV y] rfl hnews h1 (by unfold maxLen; omega) (by omega) hbase
  have h4 := append_fresh w base 38 o.type 3 i0 (.int .i64 0) 1 8 Tryz.underlying38 hi hz0 hz1 hz2 v l.length (l.map intV) hown ⟨g, 0, none⟩ 1 1 (by omega) [intV y] rfl hnews h1 (by unfold maxLen; omega) (by omega) hr
  unfold Oper.wp execOp
  simp only [ho, resolve, invoke, builtin, Sem.run_bind, Sem.run_pure, Result.andThen_ok, List.map_toArray, List.map_cons, List.map_nil, hs, hx, hr]
  refine hK _ _ (h v' w' ?_ h3 h4)
  rw [List.map_append, List.length_append]
  exact h2
theorem grown_below {a b c : World} {row : Option Nat} (hg : a.grownBy b row) (hb : Below b.heap.size b c) : a.grownBy c row :=
  ⟨hb.os.trans hg.os, hb.tape.trans hg.tape, hb.output.trans hg.output, Nat.le_trans hg.size hb.size, fun k hk hne => (hb.block k (Nat.lt_of_lt_of_le hk hg.size)).trans (hg.block k hk hne)⟩
theorem grown_grown {a b c : World} {row row2 : Option Nat} (hg : a.grownBy b row) (hh : b.grownBy c row2) (hr : ∀ q, row2 = some q → a.heap.size ≤ q ∨ row = some q) : a.grownBy c row :=
  ⟨hh.os.trans hg.os, hh.tape.trans hg.tape, hh.output.trans hg.output, Nat.le_trans hg.size hh.size, fun k hk hne => (hh.block k (Nat.lt_of_lt_of_le hk hg.size) (fun e => by
    rcases hr k e.symm with h | h
    · omega
    · exact hne h.symm)).trans (hg.block k hk hne)⟩
theorem owns_mono {w : World} {base m e s n : Nat} {v : Value} {xs : List Value} (h : w.ownsRow base e s v n xs) (hm : m ≤ base) : w.ownsRow m e s v n xs := by
  refine ⟨h.1, ?_⟩
  rcases h.2 with h2 | ⟨g, cap, cur, e, hb, h3⟩
  · exact .inl h2
  · exact .inr ⟨g, cap, cur, e, Nat.le_trans hm hb, h3⟩
end Go.Proofs.YtdbmmdjmkbnboaaGreatDoor
