import Derived.Test.YtlkafolgbkobpaaDoorA8
namespace Go.Proofs.YtlkafolgbkobpaaDoor
open Go.RowKit Go.Sort

/-- what is asked of a protocol's value -/
structure PIn (w : World) (p : Pr) (a1 : Option Addr) (c1 : Nat) (a2 : Option Addr) : Prop where
  hs : StrsAt w a1 p.sts
  hm : MvsAt w a2 p.mvs
  hc : p.sts.length ≤ c1
  h1 : p.sts.length ≤ 1000000
  h2 : p.mvs.length ≤ 1000000
theorem PIn.below {w w' : World} {p : Pr} {a1 : Option Addr} {c1 : Nat} {a2 : Option Addr} (h : PIn w p a1 c1 a2) (hb : Below w.heap.size w w') : PIn w' p a1 c1 a2 := ⟨h.hs.below hb, h.hm.below hb, h.hc, h.h1, h.h2⟩

theorem mv_of_ok {p : Pr} {k : Nat} (h : mvsErr p k = 0) : ∀ j (hj : j < p.mvs.length), k ≤ j → stB p p.mvs[j].frm = true ∧ stB p p.mvs[j].to = true ∧ ¬ p.mvs[j].frm = p.err := by
  intro j hj hkj
  by_cases hk : k < p.mvs.length
  · have h0 : mvErr p (if 0 < k then p.mvs[k - 1]? else none) p.mvs[k] = 0 := by
      apply Classical.byContradiction
      intro hne
      have := mvsErr_bad hk rfl hne
      rw [h] at this
      exact hne this.symm
    by_cases e : k = j
    · subst e
      simp only [mvErr] at h0
      by_cases hA : stB p p.mvs[k].frm = false ∨ stB p p.mvs[k].to = false
      · rw [if_pos hA] at h0; simp at h0
      rw [if_neg hA] at h0
      by_cases hB : identB p.mvs[k].meth = false
      · rw [if_pos hB] at h0; simp at h0
      rw [if_neg hB] at h0
      by_cases hC : p.mvs[k].frm = p.err
      · rw [if_pos hC] at h0; simp at h0
      · simp only [not_or, Bool.not_eq_false] at hA
        exact ⟨hA.1, hA.2, hC⟩
    · exact mv_of_ok (k := k + 1) (by rw [← mvsErr_ok hk h0]; exact h) j hj (by omega)
  · omega
termination_by p.mvs.length - k
theorem ok_parts {p : Pr} (h : checkP p = 0) : stB p p.start = true ∧ stB p p.err = true ∧ ¬ p.start = p.err ∧ mvsErr p 0 = 0 ∧ p.sts.length ≤ 16 ∧ p.mvs.length ≤ 256 := by
  simp only [checkP] at h
  by_cases h1 : identB p.cls = false
  · rw [if_pos h1] at h; simp at h
  rw [if_neg h1] at h
  by_cases h2 : 16 < p.sts.length ∨ 256 < p.mvs.length
  · rw [if_pos h2] at h; simp at h
  rw [if_neg h2] at h
  by_cases h3 : p.sts.length = 0
  · rw [if_pos h3] at h; simp at h
  rw [if_neg h3] at h
  by_cases h4 : stsErr p.sts 0 ≠ 0
  · rw [if_pos h4] at h; exact absurd h h4
  rw [if_neg h4] at h
  by_cases h5 : stB p p.start = false ∨ stB p p.err = false
  · rw [if_pos h5] at h; simp at h
  rw [if_neg h5] at h
  by_cases h6 : p.start = p.err
  · rw [if_pos h6] at h; simp at h
  rw [if_neg h6] at h
  simp only [not_or, Bool.not_eq_false] at h5
  exact ⟨h5.1, h5.2, h6, h, by omega, by omega⟩
theorem stepTo_st {p : Pr} {q : Int} {m : ByteArray} (hq : stB p q = true) : ∀ (l : List Mv), (∀ x ∈ l, stB p x.to = true) → stB p (stepTo p q m l) = true
  | [], _ => hq
  | x :: l, h => by
    simp only [stepTo]
    split
    · exact h x (by simp)
    · exact stepTo_st hq l (fun y hy => h y (by simp [hy]))
theorem step_st {p : Pr} {q : Int} {m : ByteArray} (h : checkP p = 0) (hq : stB p q = true) : stB p (stepTo p q m p.mvs) = true := by
  refine stepTo_st hq _ fun x hx => ?_
  obtain ⟨j, hj, rfl⟩ := List.getElem_of_mem hx
  exact (mv_of_ok (ok_parts h).2.2.2.1 j hj (by omega)).2.1
def stepP (p : Pr) (q : Int) (m : ByteArray) : Int := if checkP p ≠ 0 ∨ stB p q = false then -1 else stepTo p q m p.mvs
theorem stepP_bad1 {p : Pr} {q : Int} {m : ByteArray} (h : ¬ checkP p = 0) : stepP p q m = -1 := by unfold stepP; rw [if_pos (.inl h)]
theorem stepP_bad2 {p : Pr} {q : Int} {m : ByteArray} (h : stB p q = false) : stepP p q m = -1 := by unfold stepP; rw [if_pos (.inr h)]
theorem stepP_ok {p : Pr} {q : Int} {m : ByteArray} (h : checkP p = 0) (h2 : stB p q = true) : stepP p q m = stepTo p q m p.mvs := by unfold stepP; rw [if_neg (by simp [h, h2])]

set_option maxHeartbeats 400000 in
theorem step9 (p : Pr) (a1 : Option Addr) (c1 : Nat) (a2 : Option Addr) (c2 : Nat) (q : Int) (m : ByteArray) (w : World) (hk : KW w) (hi : PIn w p a1 c1 a2) :
    Calls Tryd.prog 9 #[PrV p a1 c1 a2 c2, .int .i64 q, .string m] w (Ret w (.int .i64 (stepP p q m))) := by
  unfold PrV
  have HI := Lib.hid hi; clear hi
  have HK := Lib.hid hk; clear hk
  have HBX := Lib.hid (Box.new w p a1 c1 a2 c2 25)
  have HB0 : Hid (Below w.heap.size w (w.alloc (.cells #[.string p.cls, .slice a1 p.sts.length c1, .int .i64 p.start, .int .i64 p.err, .slice a2 p.mvs.length c2] 25))) := (Below.refl _ _).alloc (Nat.le_refl _) _
  go_enter Tryd.func9, Tryd.ntmps9
  go_wp2_with fail
  have hi := HI.out.below HB0.out
  refine (check15 p _ _ _ _ _ (HK.out.below HB0.out) hi.hs hi.hm hi.hc).mono ?_
  rintro e w1 ⟨rfl, hb1⟩
  have hb := HB0.out.trans (hb1.mono HB0.out.size)
  have BX := Lib.hid (HBX.out.below hb1)
  have HI1 := Lib.hid (HI.out.below hb)
  clear hi hb1 HBX HB0
  obtain ⟨q0, q1, q2, q3, q4⟩ := BX.out
  by_cases h0 : checkP p = 0
  · have h0' : (checkP p != 0) = false := by simp [h0]
    have H0 := Lib.hid h0; clear h0
    cases hs : stB p q
    · go_wp2_with fail
      refine (isState23s p _ _ _ _ _ _).mono ?_
      rintro e w2 ⟨rfl, hb1⟩
      rw [hs]
      have hb2 := hb.trans (hb1.mono hb.size)
      clear hb1
      go_wp2
      go_ret
      exact ⟨ret_int (stepP_bad2 hs).symm, hb2⟩
    · go_wp2_with fail
      refine (isState23s p _ _ _ _ _ _).mono ?_
      rintro e w2 ⟨rfl, hb1⟩
      rw [hs]
      have hb2 := hb.trans (hb1.mono hb.size)
      have BX2 := Lib.hid (BX.out.below hb1)
      have HI2 := Lib.hid (HI1.out.below hb1)
      clear hb1 q0 q1 q2 q3 q4
      obtain ⟨q0, q1, q2, q3, q4⟩ := BX2.out
      go_wp2_with fail
      refine (step24 p _ _ _ _ _ _ _ HI2.out.h2 HI2.out.hm).mono ?_
      rintro e w3 ⟨rfl, hb1⟩
      have hb3 := hb2.trans (hb1.mono hb2.size)
      clear hb1
      go_wp2
      go_ret
      exact ⟨ret_int (stepP_ok H0.out hs).symm, hb3⟩
  · have h0' : (checkP p != 0) = true := by simpa using h0
    have H0 := Lib.hid h0; clear h0
    go_wp2
    go_ret
    exact ⟨ret_int (stepP_bad1 H0.out).symm, hb⟩

set_option maxHeartbeats 400000 in
theorem step10 (p : Pr) (a1 : Option Addr) (c1 : Nat) (a2 : Option Addr) (c2 : Nat) (q : Int) (m : ByteArray) (w : World) (hi : PIn w p a1 c1 a2) :
    Calls Tryd.prog 10 #[PrV p a1 c1 a2 c2, .int .i64 q, .string m] w (Ret w (.int .i64 (stepP p q m))) := by
  unfold PrV
  have HI := Lib.hid hi; clear hi
  have HBX := Lib.hid (Box.new w p a1 c1 a2 c2 25)
  have HB0 : Hid (Below w.heap.size w (w.alloc (.cells #[.string p.cls, .slice a1 p.sts.length c1, .int .i64 p.start, .int .i64 p.err, .slice a2 p.mvs.length c2] 25))) := (Below.refl _ _).alloc (Nat.le_refl _) _
  go_enter Tryd.func10, Tryd.ntmps10
  go_wp2_with fail
  have hi := HI.out.below HB0.out
  refine (check16 p _ _ _ _ _ hi.hs hi.hm hi.hc).mono ?_
  rintro e w1 ⟨rfl, hb1⟩
  have hb := HB0.out.trans (hb1.mono HB0.out.size)
  have BX := Lib.hid (HBX.out.below hb1)
  have HI1 := Lib.hid (HI.out.below hb)
  clear hi hb1 HBX HB0
  obtain ⟨q0, q1, q2, q3, q4⟩ := BX.out
  by_cases h0 : checkP p = 0
  · have h0' : (checkP p != 0) = false := by simp [h0]
    have H0 := Lib.hid h0; clear h0
    by_cases f0 : q < 0
    · go_wp2
      go_ret
      exact ⟨ret_int (stepP_bad2 (stB_f (.inl f0))).symm, hb⟩
    by_cases f1 : (p.sts.length : Int) ≤ q
    · go_wp2
      go_ret
      exact ⟨ret_int (stepP_bad2 (stB_f (.inr f1))).symm, hb⟩
    have S1 := Lib.hid (stB_t (p := p) (q := q) (by omega) (by omega))
    have d0 : decide (q < 0) = false := by simp; omega
    have d1 : decide ((p.sts.length : Int) ≤ q) = false := by simp; omega
    have hl : p.mvs.length ≤ 1000000 := HI1.out.h2
    go_wp2
    go_loop [7] (fun i => ∃ k : Nat, k ≤ p.mvs.length ∧ i = .int .i64 k ∧ Hid (stepTo p q m (p.mvs.drop k) = stepTo p q m p.mvs)) (fun i => p.mvs.length - (intOf i).toNat)
    case atStart => exact ⟨0, Nat.zero_le _, rfl, rfl⟩
    case round =>
      obtain ⟨k, hk, rfl, HR⟩ := hrel
      by_cases hlt : k < p.mvs.length
      · obtain ⟨b, off, rfl, h1, h2, h3⟩ := HI1.out.hm k hlt
        obtain ⟨x, hx⟩ : ∃ x, x = p.mvs[k] := ⟨_, rfl⟩
        rw [← hx] at h1 h2 h3
        have HS : Hid (stepTo p q m (p.mvs.drop k) = if x.frm = q ∧ x.meth.toList = m.toList then x.to else stepTo p q m (p.mvs.drop (k + 1))) := by
          show _ = _
          rw [List.drop_eq_getElem_cons hlt, hx]; rfl
        clear hx
        by_cases e1 : x.frm = q
        · have e1' : (x.frm == q) = true := by simp [e1]
          have E1 := Lib.hid e1; clear e1
          by_cases e2 : x.meth.toList = m.toList
          · have e2' : (x.meth.toList == m.toList) = true := by simp [e2]
            have E2 := Lib.hid e2; clear e2
            go_wp2
            go_ret
            refine ⟨ret_int ?_, hb⟩
            rw [stepP_ok H0.out S1.out, ← HR.out, HS.out, if_pos ⟨E1.out, E2.out⟩]
          · have e2' : (x.meth.toList == m.toList) = false := by simpa using e2
            have E2 := Lib.hid e2; clear e2
            go_wp2
            go_round
            case rel =>
              refine ⟨k+1, by omega, by go_num, ?_⟩
              show _ = _
              rw [← HR.out, HS.out, if_neg (fun h => E2.out h.2)]
            case measure => simp [intOf]; omega
        · have e1' : (x.frm == q) = false := by simpa using e1
          have E1 := Lib.hid e1; clear e1
          go_wp2
          go_round
          case rel =>
            refine ⟨k+1, by omega, by go_num, ?_⟩
            show _ = _
            rw [← HR.out, HS.out, if_neg (fun h => E1.out h.1)]
          case measure => simp [intOf]; omega
      · go_wp2
        go_ret
        refine ⟨ret_int ?_, hb⟩
        rw [stepP_ok H0.out S1.out, ← HR.out, List.drop_of_length_le (by omega)]; rfl
  · have h0' : (checkP p != 0) = true := by simpa using h0
    have H0 := Lib.hid h0; clear h0
    go_wp2
    go_ret
    exact ⟨ret_int (stepP_bad1 H0.out).symm, hb⟩
end Go.Proofs.YtlkafolgbkobpaaDoor
