/-
  The reference's root; the program's parseRoot.
-/
import Derived.Test.YthlnhinjcffllaaGreatDoorQ19
namespace Go.Proofs.YthlnhinjcffllaaGreatDoor
open Go.RowKit

/-- a root as it is returned -/
def rootV (w : List UInt8) : Value := match rootOf w with
  | some kn => .tuple #[.int .i64 kn.1, .int .i64 kn.2, .bool true]
  | none => .tuple #[.int .i64 0, .int .i64 0, .bool false]
theorem take_len {l a : List UInt8} {k : Nat} (h : l.take k = a) (ha : a.length = k) : k ≤ l.length := by
  have := congrArg List.length h
  rw [List.length_take] at this; omega
/-- the ways in which a word begins with a name -/
theorem kind4 (l : List UInt8) : (l.take 3 = argW ∧ kindOf l = (1, l.drop 3)) ∨ (l.take 3 ≠ argW ∧ l.take 3 = varW ∧ kindOf l = (3, l.drop 3)) ∨ (l.take 3 ≠ argW ∧ l.take 3 ≠ varW ∧ l.take 4 = siteW ∧ kindOf l = (4, l.drop 4)) ∨ (l.take 3 ≠ argW ∧ l.take 3 ≠ varW ∧ l.take 4 ≠ siteW ∧ kindOf l = (0, [])) := by
  unfold kindOf
  by_cases h1 : l.take 3 = argW
  · exact .inl ⟨h1, if_pos h1⟩
  by_cases h2 : l.take 3 = varW
  · exact .inr (.inl ⟨h1, h2, by rw [if_neg h1, if_pos h2]⟩)
  by_cases h3 : l.take 4 = siteW
  · exact .inr (.inr (.inl ⟨h1, h2, h3, by rw [if_neg h1, if_neg h2, if_pos h3]⟩))
  · exact .inr (.inr (.inr ⟨h1, h2, h3, by rw [if_neg h1, if_neg h2, if_neg h3]⟩))
theorem ext_eq (l a : List UInt8) (k : Nat) : (((mkB l).extract 0 k).toList == a) = decide (l.take k = a) := by
  rw [mkB_ext, List.drop_zero, mkB_toList, Bool.eq_iff_iff]; simp
theorem numL_lt : ∀ (k : Nat) (l : List UInt8), l.length = k → (∀ c ∈ l, digC c = true) → numL l < 10 ^ k := by
  intro k
  induction k with
  | zero => intro l h _; rw [List.length_eq_zero_iff.1 h]; decide
  | succ k ih =>
    intro l h hd
    have hne : l ≠ [] := fun e => by subst e; simp at h
    obtain ⟨m, c, rfl⟩ : ∃ m c, l = m ++ [c] := ⟨l.dropLast, l.getLast hne, (List.dropLast_concat_getLast hne).symm⟩
    have := ih m (by simp at h; omega) (fun c hc => hd c (by simp [hc]))
    have hc := hd c (by simp)
    simp only [digC, Bool.and_eq_true, decide_eq_true_eq] at hc
    rw [numL_snoc, Nat.pow_succ]; omega
theorem dig_cases (c : UInt8) : (digC c = true ∧ decide ((c.toNat : Int) < 48) = false ∧ decide (57 < (c.toNat : Int)) = false) ∨ (digC c = false ∧ decide ((c.toNat : Int) < 48) = true) ∨ (digC c = false ∧ decide ((c.toNat : Int) < 48) = false ∧ decide (57 < (c.toNat : Int)) = true) := by
  unfold digC
  by_cases h1 : c.toNat < 48
  · exact .inr (.inl ⟨by rw [decide_eq_false (by omega)]; rfl, by simp; omega⟩)
  · by_cases h2 : 57 < c.toNat
    · exact .inr (.inr ⟨by rw [decide_eq_false (p := c.toNat ≤ 57) (by omega)]; simp, by simp; omega, by simp; omega⟩)
    · exact .inl ⟨by rw [decide_eq_true (by omega), decide_eq_true (by omega)]; rfl, by simp; omega, by simp; omega⟩
theorem dig_bad {D : List UInt8} {k : Nat} (h : k < D.length) (hd : digC D[k] = false) : numOk D = false := by
  rw [Bool.eq_false_iff]; intro e
  have := (numOk_iff.1 e).2.2.2 _ (List.getElem_mem h)
  rw [hd] at this; cases this

set_option maxRecDepth 100000 in
set_option maxHeartbeats 4000000 in
theorem root36 (l : List UInt8) (w : World) (hl : l.length ≤ 65536) : Calls Tryz.prog 36 #[.string (mkB l)] w (Same w (rootV l)) := by
  by_cases hres : l = resW
  · have HF : Hid (rootV l = .tuple #[.int .i64 2, .int .i64 0, .bool true]) := by show _ = _; rw [hres]; rfl
    have t1 : ((mkB l).toList == [114, 101, 115, 117, 108, 116]) = true := by rw [mkB_toList, hres]; rfl
    clear hres
    generalize mkB l = s at *
    go_enter Tryz.func36, Tryz.ntmps36
    go_wp2
    go_ret3
    exact ⟨by rw [HF.out]; rfl, rfl⟩
  have t1 : ((mkB l).toList == [114, 101, 115, 117, 108, 116]) = false := by rw [mkB_toList]; simpa [resW] using hres
  have t2 : (((mkB l).extract 0 3).toList == [97, 114, 103]) = decide (l.take 3 = argW) := ext_eq l argW 3
  have t3 : (((mkB l).extract 0 3).toList == [118, 97, 114]) = decide (l.take 3 = varW) := ext_eq l varW 3
  have t4 : (((mkB l).extract 0 4).toList == [115, 105, 116, 101]) = decide (l.take 4 = siteW) := ext_eq l siteW 4
  have hz := mkB_size l
  have HRO : Hid (rootV l = if numOk (kindOf l).2 = true then .tuple #[.int .i64 (kindOf l).1, .int .i64 (numL (kindOf l).2 : Nat), .bool true] else .tuple #[.int .i64 0, .int .i64 0, .bool false]) := by
    show _ = _
    unfold rootV rootOf
    rw [if_neg hres]
    split
    · rename_i h
      split at h
      · cases h; rename_i h2; rw [if_pos h2]
      · cases h
    · rename_i h
      split at h
      · cases h
      · rename_i h2; rw [if_neg h2]
  have n0 : numOk ([] : List UInt8) = false := rfl
  clear hres
  -- no name and more
  by_cases hno : (3 < l.length → l.take 3 ≠ argW ∧ l.take 3 ≠ varW) ∧ (4 < l.length → l.take 4 ≠ siteW)
  · have HF : Hid (rootV l = .tuple #[.int .i64 0, .int .i64 0, .bool false]) := by
      show _ = _
      rw [HRO.out]
      have : numOk (kindOf l).2 = false := by
        rcases kind4 l with ⟨h, e⟩ | ⟨_, h, e⟩ | ⟨_, _, h, e⟩ | ⟨_, _, _, e⟩
        · rw [e]
          have h3 : l.length ≤ 3 := by
            rcases Nat.lt_or_ge 3 l.length with h' | h'
            · exact absurd h (hno.1 h').1
            · exact h'
          show numOk (l.drop 3) = false
          rw [List.drop_of_length_le h3]; rfl
        · rw [e]
          have h3 : l.length ≤ 3 := by
            rcases Nat.lt_or_ge 3 l.length with h' | h'
            · exact absurd h (hno.1 h').2
            · exact h'
          show numOk (l.drop 3) = false
          rw [List.drop_of_length_le h3]; rfl
        · rw [e]
          have h3 : l.length ≤ 4 := by
            rcases Nat.lt_or_ge 4 l.length with h' | h'
            · exact absurd h (hno.2 h')
            · exact h'
          show numOk (l.drop 4) = false
          rw [List.drop_of_length_le h3]; rfl
        · rw [e]; rfl
      rw [this]; rfl
    by_cases h3 : 3 < l.length
    · have d3 : decide (3 < ((mkB l).size : Int)) = true := by simp; omega
      rw [decide_eq_false (hno.1 h3).1] at t2
      rw [decide_eq_false (hno.1 h3).2] at t3
      by_cases h4 : 4 < l.length
      · have d4 : decide (4 < ((mkB l).size : Int)) = true := by simp; omega
        rw [decide_eq_false (hno.2 h4)] at t4
        have hz3 : 3 ≤ (mkB l).size := by omega
        have hz4 : 4 ≤ (mkB l).size := by omega
        clear h3 h4 hno hz
        generalize mkB l = s at *
        go_enter Tryz.func36, Tryz.ntmps36
        go_wp2
        go_ret3
        exact ⟨by rw [HF.out]; rfl, rfl⟩
      · have d4 : decide (4 < ((mkB l).size : Int)) = false := by simp; omega
        have hz3 : 3 ≤ (mkB l).size := by omega
        clear h3 h4 hno hz t4
        generalize mkB l = s at *
        go_enter Tryz.func36, Tryz.ntmps36
        go_wp2
        go_ret3
        exact ⟨by rw [HF.out]; rfl, rfl⟩
    · have d3 : decide (3 < ((mkB l).size : Int)) = false := by simp; omega
      have d4 : decide (4 < ((mkB l).size : Int)) = false := by simp; omega
      clear h3 hno hz t2 t3 t4
      generalize mkB l = s at *
      go_enter Tryz.func36, Tryz.ntmps36
      go_wp2
      go_ret3
      exact ⟨by rw [HF.out]; rfl, rfl⟩
  have hx : ∀ k, (mkB l).extract k (mkB l).size = mkB (l.drop k) := fun k => by rw [mkB_ext, hz, List.take_of_length_le (Nat.le_refl _)]
  rcases kind4 l with ⟨h, e⟩ | ⟨h', h, e⟩ | ⟨h', h'', h, e⟩ | ⟨h', h'', h, e⟩
  case inr.inr.inr => exact absurd ⟨fun _ => ⟨h', h''⟩, fun _ => h⟩ hno
  case inl =>
    have hlen : 3 < l.length := by
      rcases Nat.lt_or_ge 3 l.length with hq | hq
      · exact hq
      · exact absurd ⟨fun h3 => absurd h3 (by omega), fun h4 => absurd h4 (by omega)⟩ hno
    have d3 : decide (3 < ((mkB l).size : Int)) = true := by simp; omega
    rw [decide_eq_true h] at t2
    rw [decide_eq_false (show ¬ l.take 3 = varW by rw [h]; decide)] at t3
    have h4n : l.take 4 ≠ siteW := fun h4 => by
      have h5 := congrArg (List.take 3) h4
      rw [List.take_take, show min 3 4 = 3 from rfl, h] at h5
      exact absurd h5 (by decide)
    rw [decide_eq_false h4n] at t4
    have hz3 : 3 ≤ (mkB l).size := by omega
    have hx3 := hx 3
    obtain ⟨D, hD⟩ : ∃ D, D = l.drop 3 := ⟨_, rfl⟩
    have hDne : D ≠ [] := fun e => by
      have := congrArg List.length e
      rw [hD, List.length_drop, List.length_nil] at this; omega
    have hDl : D.length ≤ 65536 := by rw [hD, List.length_drop]; omega
    rw [← hD] at hx3
    obtain ⟨d, hd⟩ : ∃ d, d = mkB D := ⟨_, rfl⟩
    rw [← hd] at hx3
    have HD0 := Lib.hid hd; clear hd
    have HF : Hid (rootV l = if numOk D = true then .tuple #[.int .i64 1, .int .i64 (numL D : Nat), .bool true] else .tuple #[.int .i64 0, .int .i64 0, .bool false]) := by show _ = _; rw [HRO.out, e, hD]
    obtain ⟨q4, d4⟩ : ∃ q4 : Bool, decide (4 < ((mkB l).size : Int)) = q4 := ⟨_, rfl⟩
    have hz4 : q4 = true → 4 ≤ (mkB l).size := fun e => by subst e; have := of_decide_eq_true d4; omega
    clear hno hx h e HRO hD n0 hz
    generalize mkB l = s at *
    cases q4
    all_goals
      have hz4 := hz4
      first | (have hz4' : 4 ≤ s.size := hz4 rfl) | skip
      clear hz4
      go_enter Tryz.func36, Tryz.ntmps36
      go_upto_region 14 with (fail)
      clear d3 d4 t1 t2 t3 t4 hx3
    all_goals
      have HNE : Hid (D ≠ []) := hDne
      have hdz : d.size = D.length := by rw [HD0.out, mkB_size]
      have hget : ∀ j (h : j < d.size) (h' : j < D.length), d[j] = D[j] := fun j h h' => by have hd := HD0.out; subst hd; exact mkB_get D j h h'
      have HG := Lib.hid hget
      have HDZ := Lib.hid hdz
      have hd1 : 1 ≤ d.size := by rw [hdz]; exact List.length_pos_iff.2 hDne
      have hdl : d.size ≤ 65536 := by rw [hdz]; exact hDl
      have h0d : 0 < d.size := hd1
      clear hget hdz hDne hDl HD0
      by_cases h9 : 9 < d.size
      · have e9 : decide (9 < (d.size : Int)) = true := by simp; omega
        have HN : Hid (numOk D = false) := by
          show _ = _
          rw [Bool.eq_false_iff]; intro e
          have := (numOk_iff.1 e).2.1
          rw [← HDZ.out] at this; omega
        clear h9
        go_wp2
        go_ret3
        exact ⟨by rw [HF.out, HN.out]; rfl, rfl⟩
      have e9 : decide (9 < (d.size : Int)) = false := by simp; omega
      by_cases h1 : 1 < d.size ∧ D.head? = some 48
      · obtain ⟨h1, hh⟩ := h1
        have e1 : decide (1 < (d.size : Int)) = true := by simp; omega
        have e0 : ((d[0]'h0d).toNat : Int) = 48 := by
          rw [HG.out 0 (by omega) (by rw [← HDZ.out]; omega)]
          cases D with
          | nil => cases hh
          | cons c D => simp at hh; subst hh; rfl
        have e0' : (((d[0]'h0d).toNat : Int) == 48) = true := by rw [e0]; rfl
        have HN : Hid (numOk D = false) := by
          show _ = _
          rw [Bool.eq_false_iff]; intro e
          exact (numOk_iff.1 e).2.2.1 (by rw [← HDZ.out]; omega) hh
        clear h9 e0 hh
        go_wp2
        go_ret3
        exact ⟨by rw [HF.out, HN.out]; rfl, rfl⟩
      have HH : Hid (1 < D.length → D.head? ≠ some 48) := fun h hh => h1 ⟨by rw [HDZ.out]; exact h, hh⟩
      have HZ9 : Hid (D.length ≤ 9) := by show _ ≤ _; rw [← HDZ.out]; omega
      obtain ⟨q1, hq1⟩ : ∃ q, q = decide (1 < (d.size : Int)) := ⟨_, rfl⟩
      have hlead : ∃ q : Bool, (((d[0]'h0d).toNat : Int) == 48) = q ∧ (q1 && q) = false := by
        refine ⟨_, rfl, ?_⟩
        rw [hq1]
        by_cases h2 : 1 < d.size
        · have : D.head? ≠ some 48 := HH.out (by rw [← HDZ.out]; exact h2)
          have hc : d[0]'h0d ≠ 48 := by
            rw [HG.out 0 (by omega) (by rw [← HDZ.out]; omega)]
            intro e
            cases D with
            | nil => exact HNE.out rfl
            | cons c D => simp at e; subst e; exact this rfl
          have : (((d[0]'h0d).toNat : Int) == 48) = false := by
            rw [beq_eq_false_iff_ne]; intro e
            exact hc (UInt8.toNat_inj.1 (by simp; omega))
          rw [this]; simp
        · have : decide (1 < (d.size : Int)) = false := by simp; omega
          rw [this]; rfl
      obtain ⟨q, hq, hqq⟩ := hlead
      have hq1' := hq1.symm
      clear hq1 h1
      cases q1 <;> cases q <;> first | (exact absurd hqq (by decide)) | skip
      all_goals
        clear hqq
        go_wp2
        clear hq hq1'
        go_loop [7, 8] (fun v u => ∃ k : Nat, k ≤ d.size ∧ u = .int .i64 k ∧ v = .int .i64 (numL (D.take k) : Nat) ∧ Hid (∀ c ∈ D.take k, digC c = true)) (fun _ u => d.size - (intOf u).toNat)
        case atStart => exact ⟨0, Nat.zero_le _, rfl, rfl, fun c hc => by simp at hc⟩
        case round =>
          obtain ⟨k, hk, rfl, rfl, HI⟩ := hrel
          by_cases hlt : k < d.size
          · have hlt2 : k < D.length := by rw [← HDZ.out]; exact hlt
            have hgk := HG.out k hlt hlt2
            have HN := Lib.hid (@dig_bad D k hlt2)
            have HT := Lib.hid (List.take_succ_eq_append_getElem hlt2)
            have hnl : numL (D.take k) < 10 ^ 9 := Nat.lt_of_lt_of_le (numL_lt k _ (by rw [List.length_take]; omega) HI.out) (Nat.pow_le_pow_right (by omega) (by omega))
            rw [← hgk] at HN HT
            clear hgk
            rcases dig_cases d[k] with ⟨hp, g1, g2⟩ | ⟨hp, g1⟩ | ⟨hp, g1, g2⟩
            · have HP := Lib.hid hp; clear hp
              have hc1 : 48 ≤ (d[k].toNat : Int) := by simpa using g1
              have hc2 : (d[k].toNat : Int) ≤ 57 := by simpa using g2
              have HS : Hid (numL (D.take (k + 1)) = 10 * numL (D.take k) + (d[k].toNat - 48)) := by show _ = _; rw [HT.out, numL_snoc]
              generalize numL (D.take k) = m at *
              go_wp2
              go_round
              case rel =>
                refine ⟨k + 1, by omega, by go_num, ?_, ?_⟩
                · rw [HS.out]; congr 1; omega
                · intro c hc
                  rw [HT.out] at hc
                  rcases List.mem_append.1 hc with hc | hc
                  · exact HI.out c hc
                  · rw [List.mem_singleton.1 hc]; exact HP.out
              case measure => simp [intOf]; omega
            · have HNN := Lib.hid (HN.out hp); clear hp
              go_wp2
              go_ret3
              exact ⟨by rw [HF.out, HNN.out]; rfl, rfl⟩
            · have HNN := Lib.hid (HN.out hp); clear hp
              go_wp2
              go_ret3
              exact ⟨by rw [HF.out, HNN.out]; rfl, rfl⟩
          · have HKD : Hid (D.take k = D) := List.take_of_length_le (by rw [← HDZ.out]; omega)
            have HN : Hid (numOk D = true) := numOk_iff.2 ⟨HNE.out, HZ9.out, HH.out, by have := HI.out; rw [HKD.out] at this; exact this⟩
            have HNL : Hid (numL (D.take k) = numL D) := by show _ = _; rw [HKD.out]
            go_wp2
            go_ret3
            exact ⟨by rw [HF.out, HN.out, ← HNL.out]; rfl, rfl⟩
  case inr.inl =>
    have hlen : 3 < l.length := by
      rcases Nat.lt_or_ge 3 l.length with hq | hq
      · exact hq
      · exact absurd ⟨fun h3 => absurd h3 (by omega), fun h4 => absurd h4 (by omega)⟩ hno
    have d3 : decide (3 < ((mkB l).size : Int)) = true := by simp; omega
    rw [decide_eq_false (show ¬ l.take 3 = argW by rw [h]; decide)] at t2
    rw [decide_eq_true h] at t3
    have h4n : l.take 4 ≠ siteW := fun h4 => by
      have h5 := congrArg (List.take 3) h4
      rw [List.take_take, show min 3 4 = 3 from rfl, h] at h5
      exact absurd h5 (by decide)
    rw [decide_eq_false h4n] at t4
    have hz3 : 3 ≤ (mkB l).size := by omega
    have hx3 := hx 3
    obtain ⟨D, hD⟩ : ∃ D, D = l.drop 3 := ⟨_, rfl⟩
    have hDne : D ≠ [] := fun e => by
      have := congrArg List.length e
      rw [hD, List.length_drop, List.length_nil] at this; omega
    have hDl : D.length ≤ 65536 := by rw [hD, List.length_drop]; omega
    rw [← hD] at hx3
    obtain ⟨d, hd⟩ : ∃ d, d = mkB D := ⟨_, rfl⟩
    rw [← hd] at hx3
    have HD0 := Lib.hid hd; clear hd
    have HF : Hid (rootV l = if numOk D = true then .tuple #[.int .i64 3, .int .i64 (numL D : Nat), .bool true] else .tuple #[.int .i64 0, .int .i64 0, .bool false]) := by show _ = _; rw [HRO.out, e, hD]
    obtain ⟨q4, d4⟩ : ∃ q4 : Bool, decide (4 < ((mkB l).size : Int)) = q4 := ⟨_, rfl⟩
    have hz4 : q4 = true → 4 ≤ (mkB l).size := fun e => by subst e; have := of_decide_eq_true d4; omega
    clear hno hx h e HRO hD n0 hz
    generalize mkB l = s at *
    cases q4
    all_goals
      have hz4 := hz4
      first | (have hz4' : 4 ≤ s.size := hz4 rfl) | skip
      clear hz4
      go_enter Tryz.func36, Tryz.ntmps36
      go_upto_region 14 with (fail)
      clear d3 d4 t1 t2 t3 t4 hx3
    all_goals
      have HNE : Hid (D ≠ []) := hDne
      have hdz : d.size = D.length := by rw [HD0.out, mkB_size]
      have hget : ∀ j (h : j < d.size) (h' : j < D.length), d[j] = D[j] := fun j h h' => by have hd := HD0.out; subst hd; exact mkB_get D j h h'
      have HG := Lib.hid hget
      have HDZ := Lib.hid hdz
      have hd1 : 1 ≤ d.size := by rw [hdz]; exact List.length_pos_iff.2 hDne
      have hdl : d.size ≤ 65536 := by rw [hdz]; exact hDl
      have h0d : 0 < d.size := hd1
      clear hget hdz hDne hDl HD0
      by_cases h9 : 9 < d.size
      · have e9 : decide (9 < (d.size : Int)) = true := by simp; omega
        have HN : Hid (numOk D = false) := by
          show _ = _
          rw [Bool.eq_false_iff]; intro e
          have := (numOk_iff.1 e).2.1
          rw [← HDZ.out] at this; omega
        clear h9
        go_wp2
        go_ret3
        exact ⟨by rw [HF.out, HN.out]; rfl, rfl⟩
      have e9 : decide (9 < (d.size : Int)) = false := by simp; omega
      by_cases h1 : 1 < d.size ∧ D.head? = some 48
      · obtain ⟨h1, hh⟩ := h1
        have e1 : decide (1 < (d.size : Int)) = true := by simp; omega
        have e0 : ((d[0]'h0d).toNat : Int) = 48 := by
          rw [HG.out 0 (by omega) (by rw [← HDZ.out]; omega)]
          cases D with
          | nil => cases hh
          | cons c D => simp at hh; subst hh; rfl
        have e0' : (((d[0]'h0d).toNat : Int) == 48) = true := by rw [e0]; rfl
        have HN : Hid (numOk D = false) := by
          show _ = _
          rw [Bool.eq_false_iff]; intro e
          exact (numOk_iff.1 e).2.2.1 (by rw [← HDZ.out]; omega) hh
        clear h9 e0 hh
        go_wp2
        go_ret3
        exact ⟨by rw [HF.out, HN.out]; rfl, rfl⟩
      have HH : Hid (1 < D.length → D.head? ≠ some 48) := fun h hh => h1 ⟨by rw [HDZ.out]; exact h, hh⟩
      have HZ9 : Hid (D.length ≤ 9) := by show _ ≤ _; rw [← HDZ.out]; omega
      obtain ⟨q1, hq1⟩ : ∃ q, q = decide (1 < (d.size : Int)) := ⟨_, rfl⟩
      have hlead : ∃ q : Bool, (((d[0]'h0d).toNat : Int) == 48) = q ∧ (q1 && q) = false := by
        refine ⟨_, rfl, ?_⟩
        rw [hq1]
        by_cases h2 : 1 < d.size
        · have : D.head? ≠ some 48 := HH.out (by rw [← HDZ.out]; exact h2)
          have hc : d[0]'h0d ≠ 48 := by
            rw [HG.out 0 (by omega) (by rw [← HDZ.out]; omega)]
            intro e
            cases D with
            | nil => exact HNE.out rfl
            | cons c D => simp at e; subst e; exact this rfl
          have : (((d[0]'h0d).toNat : Int) == 48) = false := by
            rw [beq_eq_false_iff_ne]; intro e
            exact hc (UInt8.toNat_inj.1 (by simp; omega))
          rw [this]; simp
        · have : decide (1 < (d.size : Int)) = false := by simp; omega
          rw [this]; rfl
      obtain ⟨q, hq, hqq⟩ := hlead
      have hq1' := hq1.symm
      clear hq1 h1
      cases q1 <;> cases q <;> first | (exact absurd hqq (by decide)) | skip
      all_goals
        clear hqq
        go_wp2
        clear hq hq1'
        go_loop [7, 8] (fun v u => ∃ k : Nat, k ≤ d.size ∧ u = .int .i64 k ∧ v = .int .i64 (numL (D.take k) : Nat) ∧ Hid (∀ c ∈ D.take k, digC c = true)) (fun _ u => d.size - (intOf u).toNat)
        case atStart => exact ⟨0, Nat.zero_le _, rfl, rfl, fun c hc => by simp at hc⟩
        case round =>
          obtain ⟨k, hk, rfl, rfl, HI⟩ := hrel
          by_cases hlt : k < d.size
          · have hlt2 : k < D.length := by rw [← HDZ.out]; exact hlt
            have hgk := HG.out k hlt hlt2
            have HN := Lib.hid (@dig_bad D k hlt2)
            have HT := Lib.hid (List.take_succ_eq_append_getElem hlt2)
            have hnl : numL (D.take k) < 10 ^ 9 := Nat.lt_of_lt_of_le (numL_lt k _ (by rw [List.length_take]; omega) HI.out) (Nat.pow_le_pow_right (by omega) (by omega))
            rw [← hgk] at HN HT
            clear hgk
            rcases dig_cases d[k] with ⟨hp, g1, g2⟩ | ⟨hp, g1⟩ | ⟨hp, g1, g2⟩
            · have HP := Lib.hid hp; clear hp
              have hc1 : 48 ≤ (d[k].toNat : Int) := by simpa using g1
              have hc2 : (d[k].toNat : Int) ≤ 57 := by simpa using g2
              have HS : Hid (numL (D.take (k + 1)) = 10 * numL (D.take k) + (d[k].toNat - 48)) := by show _ = _; rw [HT.out, numL_snoc]
              generalize numL (D.take k) = m at *
              go_wp2
              go_round
              case rel =>
                refine ⟨k + 1, by omega, by go_num, ?_, ?_⟩
                · rw [HS.out]; congr 1; omega
                · intro c hc
                  rw [HT.out] at hc
                  rcases List.mem_append.1 hc with hc | hc
                  · exact HI.out c hc
                  · rw [List.mem_singleton.1 hc]; exact HP.out
              case measure => simp [intOf]; omega
            · have HNN := Lib.hid (HN.out hp); clear hp
              go_wp2
              go_ret3
              exact ⟨by rw [HF.out, HNN.out]; rfl, rfl⟩
            · have HNN := Lib.hid (HN.out hp); clear hp
              go_wp2
              go_ret3
              exact ⟨by rw [HF.out, HNN.out]; rfl, rfl⟩
          · have HKD : Hid (D.take k = D) := List.take_of_length_le (by rw [← HDZ.out]; omega)
            have HN : Hid (numOk D = true) := numOk_iff.2 ⟨HNE.out, HZ9.out, HH.out, by have := HI.out; rw [HKD.out] at this; exact this⟩
            have HNL : Hid (numL (D.take k) = numL D) := by show _ = _; rw [HKD.out]
            go_wp2
            go_ret3
            exact ⟨by rw [HF.out, HN.out, ← HNL.out]; rfl, rfl⟩
  case inr.inr.inl =>
    have hlen : 4 < l.length := by
      rcases Nat.lt_or_ge 4 l.length with hq | hq
      · exact hq
      · exact absurd ⟨fun _ => ⟨h', h''⟩, fun h4 => absurd h4 (by omega)⟩ hno
    have d3 : decide (3 < ((mkB l).size : Int)) = true := by simp; omega
    rw [decide_eq_false h'] at t2
    rw [decide_eq_false h''] at t3
    rw [decide_eq_true h] at t4
    have hz3 : 3 ≤ (mkB l).size := by omega
    have hx3 := hx 4
    obtain ⟨D, hD⟩ : ∃ D, D = l.drop 4 := ⟨_, rfl⟩
    have hDne : D ≠ [] := fun e => by
      have := congrArg List.length e
      rw [hD, List.length_drop, List.length_nil] at this; omega
    have hDl : D.length ≤ 65536 := by rw [hD, List.length_drop]; omega
    rw [← hD] at hx3
    obtain ⟨d, hd⟩ : ∃ d, d = mkB D := ⟨_, rfl⟩
    rw [← hd] at hx3
    have HD0 := Lib.hid hd; clear hd
    have HF : Hid (rootV l = if numOk D = true then .tuple #[.int .i64 4, .int .i64 (numL D : Nat), .bool true] else .tuple #[.int .i64 0, .int .i64 0, .bool false]) := by show _ = _; rw [HRO.out, e, hD]
    obtain ⟨q4, d4⟩ : ∃ q4 : Bool, decide (4 < ((mkB l).size : Int)) = q4 := ⟨_, rfl⟩
    have hz4 : q4 = true → 4 ≤ (mkB l).size := fun e => by subst e; have := of_decide_eq_true d4; omega
    have hq4 : q4 = true := by rw [← d4]; simp; omega
    subst hq4
    have hz4 := hz4 rfl
    clear hno hx h e HRO hD n0 hz hlen
    generalize mkB l = s at *
    all_goals
      go_enter Tryz.func36, Tryz.ntmps36
      go_upto_region 14 with (fail)
      clear d3 d4 t1 t2 t3 t4 hx3
    all_goals
      have HNE : Hid (D ≠ []) := hDne
      have hdz : d.size = D.length := by rw [HD0.out, mkB_size]
      have hget : ∀ j (h : j < d.size) (h' : j < D.length), d[j] = D[j] := fun j h h' => by have hd := HD0.out; subst hd; exact mkB_get D j h h'
      have HG := Lib.hid hget
      have HDZ := Lib.hid hdz
      have hd1 : 1 ≤ d.size := by rw [hdz]; exact List.length_pos_iff.2 hDne
      have hdl : d.size ≤ 65536 := by rw [hdz]; exact hDl
      have h0d : 0 < d.size := hd1
      clear hget hdz hDne hDl HD0
      by_cases h9 : 9 < d.size
      · have e9 : decide (9 < (d.size : Int)) = true := by simp; omega
        have HN : Hid (numOk D = false) := by
          show _ = _
          rw [Bool.eq_false_iff]; intro e
          have := (numOk_iff.1 e).2.1
          rw [← HDZ.out] at this; omega
        clear h9
        go_wp2
        go_ret3
        exact ⟨by rw [HF.out, HN.out]; rfl, rfl⟩
      have e9 : decide (9 < (d.size : Int)) = false := by simp; omega
      by_cases h1 : 1 < d.size ∧ D.head? = some 48
      · obtain ⟨h1, hh⟩ := h1
        have e1 : decide (1 < (d.size : Int)) = true := by simp; omega
        have e0 : ((d[0]'h0d).toNat : Int) = 48 := by
          rw [HG.out 0 (by omega) (by rw [← HDZ.out]; omega)]
          cases D with
          | nil => cases hh
          | cons c D => simp at hh; subst hh; rfl
        have e0' : (((d[0]'h0d).toNat : Int) == 48) = true := by rw [e0]; rfl
        have HN : Hid (numOk D = false) := by
          show _ = _
          rw [Bool.eq_false_iff]; intro e
          exact (numOk_iff.1 e).2.2.1 (by rw [← HDZ.out]; omega) hh
        clear h9 e0 hh
        go_wp2
        go_ret3
        exact ⟨by rw [HF.out, HN.out]; rfl, rfl⟩
      have HH : Hid (1 < D.length → D.head? ≠ some 48) := fun h hh => h1 ⟨by rw [HDZ.out]; exact h, hh⟩
      have HZ9 : Hid (D.length ≤ 9) := by show _ ≤ _; rw [← HDZ.out]; omega
      obtain ⟨q1, hq1⟩ : ∃ q, q = decide (1 < (d.size : Int)) := ⟨_, rfl⟩
      have hlead : ∃ q : Bool, (((d[0]'h0d).toNat : Int) == 48) = q ∧ (q1 && q) = false := by
        refine ⟨_, rfl, ?_⟩
        rw [hq1]
        by_cases h2 : 1 < d.size
        · have : D.head? ≠ some 48 := HH.out (by rw [← HDZ.out]; exact h2)
          have hc : d[0]'h0d ≠ 48 := by
            rw [HG.out 0 (by omega) (by rw [← HDZ.out]; omega)]
            intro e
            cases D with
            | nil => exact HNE.out rfl
            | cons c D => simp at e; subst e; exact this rfl
          have : (((d[0]'h0d).toNat : Int) == 48) = false := by
            rw [beq_eq_false_iff_ne]; intro e
            exact hc (UInt8.toNat_inj.1 (by simp; omega))
          rw [this]; simp
        · have : decide (1 < (d.size : Int)) = false := by simp; omega
          rw [this]; rfl
      obtain ⟨q, hq, hqq⟩ := hlead
      have hq1' := hq1.symm
      clear hq1 h1
      cases q1 <;> cases q <;> first | (exact absurd hqq (by decide)) | skip
      all_goals
        clear hqq
        go_wp2
        clear hq hq1'
        go_loop [7, 8] (fun v u => ∃ k : Nat, k ≤ d.size ∧ u = .int .i64 k ∧ v = .int .i64 (numL (D.take k) : Nat) ∧ Hid (∀ c ∈ D.take k, digC c = true)) (fun _ u => d.size - (intOf u).toNat)
        case atStart => exact ⟨0, Nat.zero_le _, rfl, rfl, fun c hc => by simp at hc⟩
        case round =>
          obtain ⟨k, hk, rfl, rfl, HI⟩ := hrel
          by_cases hlt : k < d.size
          · have hlt2 : k < D.length := by rw [← HDZ.out]; exact hlt
            have hgk := HG.out k hlt hlt2
            have HN := Lib.hid (@dig_bad D k hlt2)
            have HT := Lib.hid (List.take_succ_eq_append_getElem hlt2)
            have hnl : numL (D.take k) < 10 ^ 9 := Nat.lt_of_lt_of_le (numL_lt k _ (by rw [List.length_take]; omega) HI.out) (Nat.pow_le_pow_right (by omega) (by omega))
            rw [← hgk] at HN HT
            clear hgk
            rcases dig_cases d[k] with ⟨hp, g1, g2⟩ | ⟨hp, g1⟩ | ⟨hp, g1, g2⟩
            · have HP := Lib.hid hp; clear hp
              have hc1 : 48 ≤ (d[k].toNat : Int) := by simpa using g1
              have hc2 : (d[k].toNat : Int) ≤ 57 := by simpa using g2
              have HS : Hid (numL (D.take (k + 1)) = 10 * numL (D.take k) + (d[k].toNat - 48)) := by show _ = _; rw [HT.out, numL_snoc]
              generalize numL (D.take k) = m at *
              go_wp2
              go_round
              case rel =>
                refine ⟨k + 1, by omega, by go_num, ?_, ?_⟩
                · rw [HS.out]; congr 1; omega
                · intro c hc
                  rw [HT.out] at hc
                  rcases List.mem_append.1 hc with hc | hc
                  · exact HI.out c hc
                  · rw [List.mem_singleton.1 hc]; exact HP.out
              case measure => simp [intOf]; omega
            · have HNN := Lib.hid (HN.out hp); clear hp
              go_wp2
              go_ret3
              exact ⟨by rw [HF.out, HNN.out]; rfl, rfl⟩
            · have HNN := Lib.hid (HN.out hp); clear hp
              go_wp2
              go_ret3
              exact ⟨by rw [HF.out, HNN.out]; rfl, rfl⟩
          · have HKD : Hid (D.take k = D) := List.take_of_length_le (by rw [← HDZ.out]; omega)
            have HN : Hid (numOk D = true) := numOk_iff.2 ⟨HNE.out, HZ9.out, HH.out, by have := HI.out; rw [HKD.out] at this; exact this⟩
            have HNL : Hid (numL (D.take k) = numL D) := by show _ = _; rw [HKD.out]
            go_wp2
            go_ret3
            exact ⟨by rw [HF.out, HN.out, ← HNL.out]; rfl, rfl⟩
end Go.Proofs.YthlnhinjcffllaaGreatDoor
