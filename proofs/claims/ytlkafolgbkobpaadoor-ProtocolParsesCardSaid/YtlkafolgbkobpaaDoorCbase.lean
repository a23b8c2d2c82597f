/-
  What the claims of this seat share: the listed variable, how a protocol's value is opened, a world for the witness.
-/
import Derived.Test.YtlkafolgbkobpaaDoorCards
import Derived.Test.YtlkafolgbkobpaaDoorTie
import Derived.Test.YtlkafolgbkobpaaDoorA17
import Derived.Test.YtlkafolgbkobpaaDoorLift
namespace Go.Proofs.YtlkafolgbkobpaaDoor
open Go.ChangeShapes Go.WideShapes Go.ChangeAt Go.RowKit Go.LawLift

theorem own : ownKnob Tryd.prog.godebug = none := by kernel_rfl
theorem laidOut : laidOutB Tryd.prog = true := by kernel_rfl
theorem gKw : Tryd.prog.globalNamed "dataflow/lex.keywords" = some 0 := by kernel_rfl
theorem gKwType : (Tryd.prog.globals[0]?).map (·.type) = some 82 := by kernel_rfl
theorem cells82 : Tryd.prog.cellsOf 82 = 17 := by kernel_rfl
theorem cells9 : Tryd.prog.cellsOf 9 = 1 := by kernel_rfl
theorem cells25 : Tryd.prog.cellsOf 25 = 5 := by kernel_rfl
theorem cells46 : Tryd.prog.cellsOf 46 = 3 := by kernel_rfl
theorem kw_data : (Rows.laid_dataflow_lex_keywords : DataW Unit) = .agg (kws.map fun s => .lit (.string s.data.toList)) := by kernel_rfl
/-- what the row's list gives -/
theorem kw_of {W : World} {rest : List (String × DataW Unit)} (h : laidMet Tryd.prog (("dataflow/lex.keywords", Rows.laid_dataflow_lex_keywords) :: rest) W) : KW W := by
  obtain ⟨ps, ⟨g', t', cs, fuel, p, q, hg', ht', hvar, hd, _, _⟩, _⟩ := h
  obtain rfl := Option.some.inj (gKw.symm.trans hg')
  obtain rfl := Option.some.inj (gKwType.symm.trans ht')
  rw [kw_data] at hd
  have hcs := cells_of_strs Tryd.underlying82 Tryd.underlying9 cells9 cells82 hd
  simp only [World.var?, gKw, Option.bind_some] at hvar
  split at hvar
  · rename_i c t fr hh
    refine ⟨t, fr, ?_⟩
    rw [hh]
    have : c = kwArr := by
      have e : c = cs := by simpa using hvar
      subst e
      unfold kwArr
      rw [← hcs]
    rw [this]
  · cases hvar

theorem strsAt_of {w : World} {a : Addr} {len : Nat} {ss : List ByteArray} (hl : len ≤ ss.length) (h : ∀ i, i < ss.length → w.cell? (a.add i) = some (.string (ss.getD i ByteArray.empty))) : StrsAt w (some a) (ss.take len) := by
  intro k hk
  have hk' : k < ss.length := by simp at hk; omega
  have h0 := h 0 (by omega)
  have e0 : a.add 0 = a := by unfold Addr.add; simp
  rw [e0] at h0
  have hk2 := h k hk'
  obtain ⟨e1, e2⟩ := add_out h0 k
  refine ⟨a.block, a.off, by rw [← e1], ?_⟩
  rw [e2] at hk2
  rw [hk2]
  simp [hk']
/-- a slice of strings, opened -/
theorem open_strs {H : Type} {enc : TypeId × Value → H} {w : World} {fuel : Nat} {v : Value} {x : DataW H × List MemPlace} (h : DataW.trod enc Tryd.prog w 0 (fun _ => true) true fuel 22 [v] = some x) :
    ∃ a cap l, v = .slice a (List.length l) cap ∧ StrsAt w a l ∧ l.length ≤ cap := by
  rcases open_strings Tryd.underlying22 Tryd.underlying9 cells9 h with ⟨hcs, _⟩ | ⟨a, len, cap, ss, hcs, _, hl, _, hsl, _, hc, _⟩
  · exact ⟨none, 0, [], by simpa using hcs, fun k hk => absurd hk (by simp), by simp⟩
  · simp only [if_true] at hsl
    have e : (ss.take len).length = len := by simp; omega
    exact ⟨some a, cap, ss.take len, by rw [e]; simpa using hcs, strsAt_of (by omega) hc, by omega⟩
/-- a slice of moves, opened -/
theorem open_mvs {H : Type} {enc : TypeId × Value → H} {w : World} {fuel : Nat} {v : Value} {x : DataW H × List MemPlace} (h : DataW.trod enc Tryd.prog w 0 (fun _ => true) true fuel 23 [v] = some x) :
    ∃ a cap l, v = .slice a (List.length l) cap ∧ MvsAt w a l := by
  rcases open_rows Tryd.underlying23 Tryd.underlying46 (by kernel_rfl) (by rw [cells46]; rfl) h with hcs | ⟨a, len, cap, hcs, hl, hm, hc⟩
  · exact ⟨none, 0, [], by simpa using hcs, fun k hk => absurd hk (by simp)⟩
  · have each : ∀ i, i < len → ∃ m : Mv, w.cell? (a.add (i * 3)) = some (.int .i64 m.frm) ∧ w.cell? (a.add (i * 3 + 1)) = some (.string m.meth) ∧ w.cell? (a.add (i * 3 + 2)) = some (.int .i64 m.to) := by
      intro i hi
      obtain ⟨n, hf⟩ := hc i hi
      obtain ⟨v0, y0, c0, t0⟩ := hf 0 _ rfl
      obtain ⟨v1, y1, c1, t1⟩ := hf 1 _ rfl
      obtain ⟨v2, y2, c2, t2⟩ := hf 2 _ rfl
      obtain ⟨x0, e0, _⟩ := DataW.trod_int Tryd.underlying3 t0
      obtain ⟨x1, e1, _⟩ := DataW.trod_string Tryd.underlying9 t1
      obtain ⟨x2, e2, _⟩ := DataW.trod_int Tryd.underlying3 t2
      simp only [List.cons.injEq, and_true] at e0 e1 e2
      subst e0 e1 e2
      exact ⟨⟨x0, x1, x2⟩, c0, c1, c2⟩
    obtain ⟨l, hll, hq⟩ := list_of len each
    refine ⟨some a, cap, l, by rw [hll]; simpa using hcs, fun k hk => ?_⟩
    have h0 := (hq 0 (by omega)).1
    have ea : a.add (0 * 3) = a := by unfold Addr.add; simp
    rw [ea] at h0
    obtain ⟨h1, h2, h3⟩ := hq k hk
    refine ⟨a.block, a.off, by rw [← (add_out h0 0).1], ?_, ?_, ?_⟩
    · rw [← h1, (add_out h0 (k * 3)).2]
    · rw [← h2, (add_out h0 (k * 3 + 1)).2, Nat.add_assoc]
    · rw [← h3, (add_out h0 (k * 3 + 2)).2, Nat.add_assoc]
/-- a protocol, opened -/
theorem open_pr {H : Type} {enc : TypeId × Value → H} {w : World} {b0 : Nat} {v : Value} {d : DataW H} {ps : List MemPlace} (hv : Value.okWide Tryd.prog w .any b0 25 v) (h : DataW.Trod enc Tryd.prog w 0 (fun _ => true) true 25 v d ps) :
    ∃ p a1 c1 a2 c2, v = PrV p a1 c1 a2 c2 ∧ StrsAt w a1 p.sts ∧ MvsAt w a2 p.mvs ∧ p.sts.length ≤ c1 := by
  obtain ⟨v0, v1, v2, v3, v4, y0, y1, y2, y3, y4, n, rfl, _, t0, t1, t2, t3, t4⟩ := open_agg5 Tryd.underlying25 (by kernel_rfl) cells25 hv h
  obtain ⟨x0, e0, _⟩ := DataW.trod_string Tryd.underlying9 t0
  obtain ⟨x2, e2, _⟩ := DataW.trod_int Tryd.underlying3 t2
  obtain ⟨x3, e3, _⟩ := DataW.trod_int Tryd.underlying3 t3
  obtain ⟨a1, c1, l1, e1, hs, hc⟩ := open_strs t1
  obtain ⟨a2, c2, l2, e4, hm⟩ := open_mvs t4
  simp only [List.cons.injEq, and_true] at e0 e2 e3
  subst e0 e2 e3 e1 e4
  exact ⟨⟨x0, l1, x2, x3, l2⟩, a1, c1, a2, c2, rfl, hs, hm, hc⟩

/-- A world for the witness: the keywords as their initialiser lays them. -/
noncomputable def laidWorld (os : Os) : World :=
  { World.holding Tryd.prog os ⟨#[], #[], []⟩ with heap := (World.holding Tryd.prog os ⟨#[], #[], []⟩).heap.modify 0 fun
      | .cells _ t frozen => .cells kwArr t frozen
      | o => o }
end Go.Proofs.YtlkafolgbkobpaaDoor
