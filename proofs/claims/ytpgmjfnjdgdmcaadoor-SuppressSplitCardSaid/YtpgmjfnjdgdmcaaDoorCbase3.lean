/-
  What the claims Applies and Split need beyond Cbase2: how a slice of findings is opened.
-/
import Derived.Test.YtpgmjfnjdgdmcaaDoorCbase2
import Derived.Test.YtpgmjfnjdgdmcaaDoorP35
import Derived.SizedLaws
namespace Go.Proofs.YtpgmjfnjdgdmcaaDoor
open Go.ChangeShapes Go.WideShapes Go.ChangeAt Go.RowKit Go.LawLift Go.Deep
set_option maxRecDepth 100000

theorem bytes25 : Tryd.prog.bytesOf 25 = 40 := by kernel_rfl
theorem bytes28 : Tryd.prog.bytesOf 28 = 88 := by kernel_rfl
theorem cells41 : Tryd.prog.cellsOf 41 = 1 := by kernel_rfl
theorem weightsAll_mem {H : Type} {P : Program} {e : TypeId} {d : DataW H} {n : Nat} : ∀ {l : List (DataW H)}, d ∈ l → n ∈ d.weights P e → n ∈ DataW.weightsAll P e l
  | x :: l, h, hn => by
    simp only [DataW.weightsAll, List.mem_append]
    rcases List.mem_cons.1 h with rfl | h
    · exact .inl hn
    · exact .inr (weightsAll_mem h hn)
/-- a slice of places, opened, with what its datum weighs -/
theorem open_plsD {H : Type} {enc : TypeId × Value → H} {w : World} {fuel : Nat} {v : Value} {x : DataW H × List MemPlace} (h : DataW.trod enc Tryd.prog w 0 (fun _ => true) true fuel 26 [v] = some x) :
    ∃ a cap l, v = .slice a (List.length l) cap ∧ PlsAt w a l ∧ (a = none → l = []) ∧ ∀ B, (∀ n ∈ x.1.weights Tryd.prog 26, n ≤ B) → l.length ≤ B := by
  obtain ⟨a, cap, l, rfl, hp, hl, hm⟩ := open_pls h
  rcases open_slice Tryd.underlying26 h with ⟨hcs, rfl⟩ | ⟨a', len, cap', m, n, D, Pl', hcs, hb, hle, hmx, hmm, rfl, hi⟩
  · simp only [List.cons.injEq, Value.slice.injEq, and_true] at hcs
    obtain ⟨rfl, h0, rfl⟩ := hcs
    have : l = [] := List.eq_nil_of_length_eq_zero h0
    subst this
    exact ⟨none, 0, [], rfl, hp, fun _ => rfl, fun B _ => Nat.zero_le _⟩
  · simp only [List.cons.injEq, Value.slice.injEq, and_true] at hcs
    obtain ⟨rfl, rfl, rfl⟩ := hcs
    refine ⟨some a', cap, l, rfl, hp, (fun e => by cases e), fun B hB => ?_⟩
    have := hB ((l.length + (m - l.length)) * 40) (by simp [DataW.weights, Tryd.underlying26, bytes25])
    have h2 : l.length * 1 ≤ (l.length + (m - l.length)) * 40 := Nat.mul_le_mul (by omega) (by omega)
    omega
/-- a finding's cells, opened, with what its datum weighs -/
theorem open_fdD {H : Type} {enc : TypeId × Value → H} {w : World} {fuel : Nat} {c0 c1 c2 c3 c4 c5 : Value} {x : DataW H × List MemPlace} (h : DataW.trod enc Tryd.prog w 0 (fun _ => true) true fuel 28 [c0, c1, c2, c3, c4, c5] = some x) :
    ∃ (f : Fd) (a : Option Addr) (c : Nat), c0 = .int .i64 f.kind ∧ c1 = .string f.pl.cls ∧ c2 = .string f.pl.meth ∧ c3 = .int .i64 f.pl.instr ∧ c4 = .string f.what ∧ c5 = .slice a f.path.length c ∧ PlsAt w a f.path ∧ (a = none → f.path = []) ∧ f.what.size ≤ maxLen ∧ ∀ B, (∀ n ∈ x.1.weights Tryd.prog 28, n ≤ B) → f.path.length ≤ B := by
  obtain ⟨xs, n, _, hx, _, hlen, hg⟩ := DataW.trod_struct Tryd.underlying28 h
  match xs, hlen with
  | [y0, y1, y2, y3], _ =>
    have g0 : DataW.trod enc Tryd.prog w 0 (fun _ => true) true n 3 [c0] = some y0 := by have := hg 0 _ rfl; simpa [cells3] using this
    have g1 : DataW.trod enc Tryd.prog w 0 (fun _ => true) true n 25 [c1, c2, c3] = some y1 := by have := hg 1 _ rfl; simpa [cells25] using this
    have g2 : DataW.trod enc Tryd.prog w 0 (fun _ => true) true n 9 [c4] = some y2 := by have := hg 2 _ rfl; simpa [cells9] using this
    have g3 : DataW.trod enc Tryd.prog w 0 (fun _ => true) true n 26 [c5] = some y3 := by have := hg 3 _ rfl; simpa [cells26] using this
    obtain ⟨x0, e0, _⟩ := DataW.trod_int Tryd.underlying3 g0
    obtain ⟨x4, e4, _, s4⟩ := DataW.trod_string Tryd.underlying9 g2
    obtain ⟨a, cap, l, e5, hp, hnone, hwt⟩ := open_plsD g3
    obtain ⟨zs, n', _, hz, _, hzl, hgz⟩ := DataW.trod_struct Tryd.underlying25 g1
    match zs, hzl with
    | [z0, z1, z2], _ =>
      have k0 : DataW.trod enc Tryd.prog w 0 (fun _ => true) true n' 9 [c1] = some z0 := by have := hgz 0 _ rfl; simpa [cells9] using this
      have k1 : DataW.trod enc Tryd.prog w 0 (fun _ => true) true n' 9 [c2] = some z1 := by have := hgz 1 _ rfl; simpa [cells9] using this
      have k2 : DataW.trod enc Tryd.prog w 0 (fun _ => true) true n' 3 [c3] = some z2 := by have := hgz 2 _ rfl; simpa [cells3] using this
      obtain ⟨x1, e1, _, s1⟩ := DataW.trod_string Tryd.underlying9 k0
      obtain ⟨x2, e2, _, s2⟩ := DataW.trod_string Tryd.underlying9 k1
      obtain ⟨x3, e3, _⟩ := DataW.trod_int Tryd.underlying3 k2
      simp only [List.cons.injEq, and_true] at e0 e1 e2 e3 e4
      subst e0 e1 e2 e3 e4 e5
      refine ⟨⟨x0, ⟨x1, x2, x3⟩, x4, l⟩, a, cap, rfl, rfl, rfl, rfl, rfl, rfl, hp, hnone, s4, fun B hB => hwt B fun q hq => hB q ?_⟩
      rw [hx]
      simp only [List.map_cons, List.map_nil, DataW.weights, Tryd.underlying28]
      simp only [DataW.weightsEach, List.mem_append]
      exact .inr (.inr (.inr (.inl hq)))
/-- a slice of findings, opened -/
theorem open_fds1 {H : Type} {enc : TypeId × Value → H} {w : World} {fuel : Nat} {v : Value} {x : DataW H × List MemPlace} (h : DataW.trod enc Tryd.prog w 0 (fun _ => true) true fuel 41 [v] = some x) (hB : ∀ n ∈ x.1.weights Tryd.prog 41, n ≤ reachBytes) :
    ∃ a cap l, v = .slice a (List.length l) cap ∧ FdsAt w a l ∧ l.length ≤ 1000000000000000 ∧ (∀ f ∈ l, f.path.length ≤ 1000000000000000) ∧ (∀ f ∈ l, f.what.size ≤ 9223372036854775807) := by
  have hr : reachBytes ≤ 1000000000000000 := by decide
  rcases open_slice Tryd.underlying41 h with ⟨hcs, _⟩ | ⟨a, len, cap, m, n, D, Pl', hcs, hb, hle, hmx, hmm, rfl, hi⟩
  · exact ⟨none, 0, [], by simpa using hcs, fds_nil _ _, by simp, by simp, by simp⟩
  · have each : ∀ i, i < len → ∃ p : Fd, (p.path.length ≤ 1000000000000000 ∧ p.what.size ≤ maxLen) ∧ ∃ pa pc, w.cell? (a.add (i * 6)) = some (.int .i64 p.kind) ∧ w.cell? (a.add (i * 6 + 1)) = some (.string p.pl.cls) ∧ w.cell? (a.add (i * 6 + 2)) = some (.string p.pl.meth) ∧ w.cell? (a.add (i * 6 + 3)) = some (.int .i64 p.pl.instr) ∧ w.cell? (a.add (i * 6 + 4)) = some (.string p.what) ∧ w.cell? (a.add (i * 6 + 5)) = some (.slice pa p.path.length pc) ∧ PlsAt w pa p.path ∧ (pa = none → p.path = []) := by
      intro i hil
      obtain ⟨cs', hc, ht⟩ := hi i (by rw [hmm]; split <;> omega)
      rw [cells28] at hc
      obtain ⟨_, hcl, hat⟩ := World.cells?_some hc
      match cs', hcl with
      | [c0, c1, c2, c3, c4, c5], _ =>
        obtain ⟨f, pa, pc, rfl, rfl, rfl, rfl, rfl, rfl, hp, hnone, hs, hwt⟩ := open_fdD ht
        have hat' := fun j hj => by
          have h1 := hat j hj
          rw [Go.Deep.add_add] at h1
          exact h1
        refine ⟨f, ⟨?_, hs⟩, pa, pc, hat' 0 (by omega), hat' 1 (by omega), hat' 2 (by omega), hat' 3 (by omega), hat' 4 (by omega), hat' 5 (by omega), hp, hnone⟩
        have := hwt reachBytes fun q hq => hB q (by
          simp only [DataW.weights, Tryd.underlying41, List.mem_cons, List.mem_append]
          exact .inr (.inl (weightsAll_mem (List.mem_map.2 ⟨i, List.mem_range.2 hil, rfl⟩) hq)))
        omega
    obtain ⟨l, hll, hq⟩ := list_of len each
    refine ⟨some a, cap, l, by rw [hll]; simpa using hcs, fun k hk => ?_, ?_, fun f hf => ?_, fun f hf => ?_⟩
    · obtain ⟨_, _, h0, _⟩ := (hq 0 (by omega)).2
      have ea : a.add (0 * 6) = a := by unfold Addr.add; simp
      rw [ea] at h0
      obtain ⟨_, pa, pc, q0, q1, q2, q3, q4, q5, hp, hnone⟩ := hq k hk
      refine ⟨a.block, a.off, pa, pc, by rw [← (add_out h0 0).1], ?_, ?_, ?_, ?_, ?_, ?_, hp, hnone⟩
      · rw [← q0, (add_out h0 (k * 6)).2]
      · rw [← q1, (add_out h0 (k * 6 + 1)).2, Nat.add_assoc]
      · rw [← q2, (add_out h0 (k * 6 + 2)).2, Nat.add_assoc]
      · rw [← q3, (add_out h0 (k * 6 + 3)).2, Nat.add_assoc]
      · rw [← q4, (add_out h0 (k * 6 + 4)).2, Nat.add_assoc]
      · rw [← q5, (add_out h0 (k * 6 + 5)).2, Nat.add_assoc]
    · have := hB ((len + (m - len)) * 88) (by simp [DataW.weights, Tryd.underlying41, bytes28])
      have h2 : len * 1 ≤ (len + (m - len)) * 88 := Nat.mul_le_mul (by omega) (by omega)
      omega
    · obtain ⟨k, hk, rfl⟩ := List.getElem_of_mem hf
      exact (hq k hk).1.1
    · obtain ⟨k, hk, rfl⟩ := List.getElem_of_mem hf
      have := (hq k hk).1.2
      unfold maxLen at this
      exact this
theorem open_fds {H : Type} {enc : TypeId × Value → H} {w : World} {b0 : Nat} {v : Value} {d : DataW H} {ps : List MemPlace} (hv : Value.okWide Tryd.prog w .any b0 41 v) (h : DataW.Trod enc Tryd.prog w 0 (fun _ => true) true 41 v d ps) (hB : ∀ n ∈ d.weights Tryd.prog 41, n ≤ reachBytes) :
    ∃ a cap l, v = .slice a (List.length l) cap ∧ FdsAt w a l ∧ l.length ≤ 1000000000000000 ∧ (∀ f ∈ l, f.path.length ≤ 1000000000000000) ∧ (∀ f ∈ l, f.what.size ≤ 9223372036854775807) := by
  obtain ⟨fuel, hf⟩ := h
  obtain ⟨a, n, c, rfl⟩ := okWide_slice Tryd.underlying41 hv
  exact open_fds1 hf hB
theorem weight0 {H : Type} {ts : List TypeId} {d : DataW H} {ds : List (DataW H)} (h : (DataW.weightsEach Tryd.prog (41 :: ts) (d :: ds)).all (· ≤ reachBytes) = true) : ∀ n ∈ d.weights Tryd.prog 41, n ≤ reachBytes := fun n hn => by
  have := List.all_eq_true.1 h n (DataW.weights_mem_each (j := 0) rfl rfl n hn)
  simpa using this
end Go.Proofs.YtpgmjfnjdgdmcaaDoor
