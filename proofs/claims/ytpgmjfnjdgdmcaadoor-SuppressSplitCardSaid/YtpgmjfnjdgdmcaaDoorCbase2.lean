/-
  What the claims Back and Parses need beyond Cbase: how a slice of suppressions is opened.
-/
import Derived.Test.YtpgmjfnjdgdmcaaDoorCbase
import Derived.Test.YtpgmjfnjdgdmcaaDoorP24
namespace Go.Proofs.YtpgmjfnjdgdmcaaDoor
open Go.ChangeShapes Go.WideShapes Go.ChangeAt Go.RowKit Go.LawLift
set_option maxRecDepth 100000

/-- a slice of suppressions, opened -/
theorem open_nts1 {H : Type} {enc : TypeId × Value → H} {w : World} {fuel : Nat} {v : Value} {x : DataW H × List MemPlace} (h : DataW.trod enc Tryd.prog w 0 (fun _ => true) true fuel 33 [v] = some x) :
    ∃ a cap l, v = .slice a (List.length l) cap ∧ NtsAt w a l ∧ (∀ n ∈ l, n.what.size ≤ 9223372036854775807) ∧ l.length ≤ cap ∧ cap ≤ maxLen := by
  rcases open_rows Tryd.underlying33 Tryd.underlying23 (by kernel_rfl) (by rw [cells23]; rfl) h with hcs | ⟨a, len, cap, hcs, hl, hm, hc⟩
  · exact ⟨none, 0, [], by simpa using hcs, fun k hk => absurd hk (by simp), by simp, Nat.le_refl _, Nat.zero_le _⟩
  · have each : ∀ i, i < len → ∃ p : Nt, p.what.size ≤ maxLen ∧ w.cell? (a.add (i * 5)) = some (.int .i64 p.kind) ∧ w.cell? (a.add (i * 5 + 1)) = some (.string p.cls) ∧ w.cell? (a.add (i * 5 + 2)) = some (.string p.meth) ∧ w.cell? (a.add (i * 5 + 3)) = some (.string p.what) ∧ w.cell? (a.add (i * 5 + 4)) = some (.string p.reason) := by
      intro i hi
      obtain ⟨n, hf⟩ := hc i hi
      obtain ⟨v0, y0, c0, t0⟩ := hf 0 _ rfl
      obtain ⟨v1, y1, c1, t1⟩ := hf 1 _ rfl
      obtain ⟨v2, y2, c2, t2⟩ := hf 2 _ rfl
      obtain ⟨v3, y3, c3, t3⟩ := hf 3 _ rfl
      obtain ⟨v4, y4, c4, t4⟩ := hf 4 _ rfl
      obtain ⟨x0, e0, _⟩ := DataW.trod_int Tryd.underlying3 t0
      obtain ⟨x1, e1, _⟩ := DataW.trod_string Tryd.underlying9 t1
      obtain ⟨x2, e2, _⟩ := DataW.trod_string Tryd.underlying9 t2
      obtain ⟨x3, e3, _, s3⟩ := DataW.trod_string Tryd.underlying9 t3
      obtain ⟨x4, e4, _⟩ := DataW.trod_string Tryd.underlying9 t4
      simp only [List.cons.injEq, and_true] at e0 e1 e2 e3 e4
      subst e0 e1 e2 e3 e4
      exact ⟨⟨x0, x1, x2, x3, x4⟩, s3, c0, c1, c2, c3, c4⟩
    obtain ⟨l, hll, hq⟩ := list_of len each
    refine ⟨some a, cap, l, by rw [hll]; simpa using hcs, fun k hk => ?_, fun n hn => ?_, by omega, hm⟩
    · have h0 := (hq 0 (by omega)).2.1
      have ea : a.add (0 * 5) = a := by unfold Addr.add; simp
      rw [ea] at h0
      obtain ⟨_, h1, h2, h3, h4, h5⟩ := hq k hk
      refine ⟨a.block, a.off, by rw [← (add_out h0 0).1], ?_, ?_, ?_, ?_, ?_⟩
      · rw [← h1, (add_out h0 (k * 5)).2]
      · rw [← h2, (add_out h0 (k * 5 + 1)).2, Nat.add_assoc]
      · rw [← h3, (add_out h0 (k * 5 + 2)).2, Nat.add_assoc]
      · rw [← h4, (add_out h0 (k * 5 + 3)).2, Nat.add_assoc]
      · rw [← h5, (add_out h0 (k * 5 + 4)).2, Nat.add_assoc]
    · obtain ⟨k, hk, rfl⟩ := List.getElem_of_mem hn
      have := (hq k hk).1
      unfold maxLen at this
      exact this
theorem open_nts {H : Type} {enc : TypeId × Value → H} {w : World} {b0 : Nat} {v : Value} {d : DataW H} {ps : List MemPlace} (hv : Value.okWide Tryd.prog w .any b0 33 v) (h : DataW.Trod enc Tryd.prog w 0 (fun _ => true) true 33 v d ps) :
    ∃ a cap l, v = .slice a (List.length l) cap ∧ NtsAt w a l ∧ (∀ n ∈ l, n.what.size ≤ 9223372036854775807) ∧ l.length ≤ cap ∧ cap ≤ maxLen := by
  obtain ⟨fuel, hf⟩ := h
  obtain ⟨a, n, c, rfl⟩ := okWide_slice Tryd.underlying33 hv
  exact open_nts1 hf
end Go.Proofs.YtpgmjfnjdgdmcaaDoor
