/-
  Plain: the round trips of the suppressions' text.
-/
import Derived.Test.YtpgmjfnjdgdmcaaDoorP22
namespace Go.Proofs.YtpgmjfnjdgdmcaaDoor
open Go.RowKit Go.Sort

def lineL (x : Nt) : List UInt8 := supW ++ 32 :: ((kindW x.kind).data.toList ++ 32 :: ((starB x.cls).data.toList ++ 32 :: ((starB x.meth).data.toList ++ 32 :: ((starB x.what).data.toList ++ 32 :: x.reason.data.toList))))
theorem lineR_data (R : ByteArray) (x : Nt) : (lineR R x).data.toList = R.data.toList ++ (lineL x ++ [10]) := by
  simp [lineR, lineL, supW, ByteArray.data_append]
def textL (l : List Nt) : List UInt8 := l.flatMap fun x => lineL x ++ [10]
theorem fold_data : ∀ (l : List Nt) (R : ByteArray), (l.foldl lineR R).data.toList = R.data.toList ++ textL l
  | [], R => by simp [textL]
  | x :: l, R => by
    rw [List.foldl_cons, fold_data l, lineR_data]
    simp [textL]
theorem linesR_data (l : List Nt) : (linesR l).data.toList = textL l := by
  rw [linesR, fold_data]; rfl
theorem linesR_mk (l : List Nt) : linesR l = mkB (textL l) := WideShapes.bytes_inj (by rw [linesR_data, mkB_data])
theorem cutN_cons {n : Nat} {a r : List UInt8} (h : (32 : UInt8) ∉ a) : cutN (n + 1) (a ++ 32 :: r) = match cutN n r with | some (ws, q) => some (a :: ws, q) | none => none := by
  simp only [cutN, cut_at h]
  rfl
theorem cutN_inv {n : Nat} {l : List UInt8} {ws : List (List UInt8)} {q : List UInt8} (h : cutN (n + 1) l = some (ws, q)) : ∃ a r ws', l = a ++ 32 :: r ∧ ws = a :: ws' ∧ cutN n r = some (ws', q) ∧ (32 : UInt8) ∉ a := by
  rcases cut_index 32 l with ⟨_, h2⟩ | ⟨a, r, rfl, h2, _, h4⟩
  · simp [cutN, h2] at h
  · rw [cutN_cons h2] at h
    cases hc : cutN n r with
    | none => rw [hc] at h; cases h
    | some x =>
      obtain ⟨ws', q'⟩ := x
      rw [hc] at h
      simp only [Option.some.injEq, Prod.mk.injEq] at h
      obtain ⟨rfl, rfl⟩ := h
      exact ⟨a, r, ws', rfl, rfl, hc, h2⟩
theorem cutN5_inv {l : List UInt8} {ws : List (List UInt8)} {q : List UInt8} (h : cutN 5 l = some (ws, q)) : ∃ a0 a1 a2 a3 a4, ws = [a0, a1, a2, a3, a4] ∧ l = a0 ++ 32 :: (a1 ++ 32 :: (a2 ++ 32 :: (a3 ++ 32 :: (a4 ++ 32 :: q)))) := by
  obtain ⟨a0, r0, w0, rfl, rfl, h, _⟩ := cutN_inv h
  obtain ⟨a1, r1, w1, rfl, rfl, h, _⟩ := cutN_inv h
  obtain ⟨a2, r2, w2, rfl, rfl, h, _⟩ := cutN_inv h
  obtain ⟨a3, r3, w3, rfl, rfl, h, _⟩ := cutN_inv h
  obtain ⟨a4, r4, w4, rfl, rfl, h, _⟩ := cutN_inv h
  simp only [cutN, Option.some.injEq, Prod.mk.injEq] at h
  obtain ⟨rfl, rfl⟩ := h
  exact ⟨_, _, _, _, _, rfl, rfl⟩
/-- no blank and no control byte -/
def Clean (l : List UInt8) : Prop := ∀ c ∈ l, 33 ≤ c.toNat
theorem Clean.no32 {l : List UInt8} (h : Clean l) : (32 : UInt8) ∉ l := fun e => absurd (h _ e) (by decide)
theorem Clean.no10 {l : List UInt8} (h : Clean l) : (10 : UInt8) ∉ l := fun e => absurd (h _ e) (by decide)
theorem clean_pr {s : ByteArray} (h : prB 33 s = true) : Clean s.data.toList := fun c hc => by
  have := List.all_eq_true.1 h c hc
  simp only [prI, Bool.and_eq_true, decide_eq_true_eq] at this
  omega
theorem clean_ident {s : ByteArray} (h : identB s = true) : Clean s.data.toList := fun c hc => by
  simp only [identB, Bool.and_eq_true] at h
  have := List.all_eq_true.1 h.1.2 c hc
  simp only [partI, letterI, digitI, Bool.or_eq_true, Bool.and_eq_true, decide_eq_true_eq, beq_iff_eq] at this
  omega
theorem star_cases (s : ByteArray) : (s = ⟨#[]⟩ ∧ starB s = ⟨#[42]⟩) ∨ (s.data.toList ≠ [] ∧ starB s = s) := by
  unfold starB
  rw [ByteArray.toList_eq]
  by_cases h : s.data.toList = []
  · exact .inl ⟨WideShapes.bytes_inj (by rw [h]), if_pos h⟩
  · exact .inr ⟨h, if_neg h⟩
theorem clean_star : Clean [42] := fun c hc => by
  rw [List.mem_singleton.1 hc]; decide
theorem nm_ident {s : ByteArray} (h : nmBad s = false) (h1 : s.data.toList ≠ []) : identB s = true := by
  have : s.toList ≠ [] := by rw [ByteArray.toList_eq]; exact h1
  cases hs : s.toList with
  | nil => exact absurd hs this
  | cons => simpa [nmBad, hs] using h
theorem what_parts {s : ByteArray} (h : whatBad s = false) : s.data.toList ≠ [42] ∧ prB 33 s = true := by
  simp only [whatBad, Bool.or_eq_false_iff, Bool.not_eq_false'] at h
  refine ⟨fun e => ?_, h.2⟩
  have := h.1.2
  rw [ByteArray.toList_eq, e] at this
  exact absurd this (by decide)
theorem clean_nm {s : ByteArray} (h : nmBad s = false) : Clean (starB s).data.toList := by
  rcases star_cases s with ⟨_, e⟩ | ⟨h1, e⟩
  · rw [e]; exact clean_star
  · rw [e]; exact clean_ident (nm_ident h h1)
theorem clean_what {s : ByteArray} (h : whatBad s = false) : Clean (starB s).data.toList := by
  rcases star_cases s with ⟨_, e⟩ | ⟨_, e⟩
  · rw [e]; exact clean_star
  · rw [e]; exact clean_pr (what_parts h).2
theorem mkB_self (s : ByteArray) : mkB s.data.toList = s := WideShapes.bytes_inj (mkB_data _)
theorem unstar_star {s : ByteArray} (h : s.data.toList ≠ [42]) : unstar (starB s).data.toList = s := by
  rcases star_cases s with ⟨rfl, e⟩ | ⟨h1, e⟩
  · rw [e]; rfl
  · rw [e, unst, if_neg h, mkB_self]
theorem ident_ne {s : ByteArray} (h : identB s = true) : s.data.toList ≠ [42] := fun e => by
  simp only [identB, Bool.and_eq_true] at h
  have := List.all_eq_true.1 h.1.2 42 (by rw [e]; simp)
  exact absurd this (by decide)
theorem nm_ne {s : ByteArray} (h : nmBad s = false) : s.data.toList ≠ [42] := fun e => ident_ne (nm_ident h (by rw [e]; simp)) e
theorem star_ne (s : ByteArray) : (starB s).data.toList ≠ [] := by
  rcases star_cases s with ⟨_, e⟩ | ⟨h1, e⟩
  · rw [e]; simp
  · rw [e]; exact h1
theorem five {k : Int} (h0 : 0 ≤ k) (h4 : k ≤ 4) : k = 0 ∨ k = 1 ∨ k = 2 ∨ k = 3 ∨ k = 4 := by omega
theorem idx_kind {k : Int} (h0 : 0 ≤ k) (h4 : k ≤ 4) : idx kindL (mkB (kindW k).data.toList) = k := by
  rw [mkB_self]
  rcases five h0 h4 with rfl | rfl | rfl | rfl | rfl <;> simp [idx, idxFrom, kindL, kindW, ByteArray.toList_eq]
theorem clean_kind (k : Int) : Clean (kindW k).data.toList := by
  unfold kindW Clean
  repeat' split
  all_goals decide
theorem idx_kindL (w : List UInt8) : idx kindL (mkB w) = if [42] = w then 0 else if [117, 110, 115, 101, 116] = w then 1 else if [115, 116, 97, 116, 101] = w then 2 else if [116, 97, 105, 110, 116] = w then 3 else if [98, 114, 97, 110, 99, 104] = w then 4 else -1 := by
  simp [idx, idxFrom, kindL, ByteArray.toList_eq, mkB_data]
theorem kind_idx (w : List UInt8) (h : ¬ idx kindL (mkB w) < 0) : (kindW (idx kindL (mkB w))).data.toList = w := by
  rw [idx_kindL] at h ⊢
  by_cases h0 : [42] = w
  · rw [if_pos h0, ← h0]; rfl
  rw [if_neg h0] at h ⊢
  by_cases h1 : [117, 110, 115, 101, 116] = w
  · rw [if_pos h1, ← h1]; rfl
  rw [if_neg h1] at h ⊢
  by_cases h2 : [115, 116, 97, 116, 101] = w
  · rw [if_pos h2, ← h2]; rfl
  rw [if_neg h2] at h ⊢
  by_cases h3 : [116, 97, 105, 110, 116] = w
  · rw [if_pos h3, ← h3]; rfl
  rw [if_neg h3] at h ⊢
  by_cases h4 : [98, 114, 97, 110, 99, 104] = w
  · rw [if_pos h4, ← h4]; rfl
  rw [if_neg h4] at h
  exact absurd (by decide) h
theorem star_unstar {w : List UInt8} (h : w ≠ []) : (starB (unstar w)).data.toList = w := by
  rw [unst]
  by_cases e : w = [42]
  · rw [if_pos e, e]
    rcases star_cases ⟨#[]⟩ with ⟨_, e⟩ | ⟨h1, _⟩
    · rw [e]
    · exact absurd rfl h1
  · rw [if_neg e]
    rcases star_cases (mkB w) with ⟨h1, _⟩ | ⟨_, e⟩
    · have := congrArg (·.data.toList) h1
      simp only [mkB_data] at this
      exact absurd this h
    · rw [e, mkB_data]
theorem sup_clean : Clean supW := by unfold Clean supW; decide
theorem lineP_lineL {x : Nt} (h : noteE x = 0) : lineP (lineL x) = (0, x) := by
  obtain ⟨⟨h0, h4⟩, h1, h2, h3, _⟩ := note_ok h
  have e : cutN 5 (lineL x) = some ([supW, (kindW x.kind).data.toList, (starB x.cls).data.toList, (starB x.meth).data.toList, (starB x.what).data.toList], x.reason.data.toList) := by
    unfold lineL
    rw [cutN_cons sup_clean.no32, cutN_cons (clean_kind _).no32, cutN_cons (clean_nm h1).no32, cutN_cons (clean_nm h2).no32, cutN_cons (clean_what h3).no32]
    rfl
  unfold lineP
  rw [e]
  have hi := idx_kind h0 h4
  rw [mkB_self] at hi
  simp only [mkB_self, hi, unstar_star (nm_ne h1), unstar_star (nm_ne h2), unstar_star (what_parts h3).1]
  rw [if_neg (by simp only [ne_eq, not_true_eq_false, false_or, star_ne, or_false]; omega)]
  rw [h]
theorem lineP_inv {L : List UInt8} (h : (lineP L).1 = 0) : lineL (lineP L).2 = L ∧ noteE (lineP L).2 = 0 := by
  unfold lineP at h ⊢
  cases hc : cutN 5 L with
  | none => rw [hc] at h; exact absurd h (by simp)
  | some v =>
    obtain ⟨ws, q⟩ := v
    obtain ⟨a0, a1, a2, a3, a4, rfl, hL⟩ := cutN5_inv hc
    rw [hc] at h
    simp only at h ⊢
    by_cases hb : a0 ≠ supW ∨ idx kindL (mkB a1) < 0 ∨ a2 = [] ∨ a3 = [] ∨ a4 = []
    · rw [if_pos hb] at h; exact absurd h (by simp)
    rw [if_neg hb] at h ⊢
    simp only [not_or, ne_eq, Classical.not_not] at hb
    obtain ⟨b0, b1, b2, b3, b4⟩ := hb
    refine ⟨?_, h⟩
    simp only [lineL, kind_idx a1 b1, star_unstar b2, star_unstar b3, star_unstar b4, mkB_data]
    rw [hL, b0]
theorem lineL_no10 {x : Nt} (h : noteE x = 0) : (10 : UInt8) ∉ lineL x := by
  obtain ⟨_, h1, h2, h3, h5⟩ := note_ok h
  have hr : (10 : UInt8) ∉ x.reason.data.toList := fun hc => by
    simp only [reasonB, Bool.and_eq_true] at h5
    have := List.all_eq_true.1 h5.2 10 hc
    exact absurd this (by decide)
  have e : (10 : UInt8) ≠ 32 := by decide
  simp only [lineL, List.mem_append, List.mem_cons, not_or]
  exact ⟨sup_clean.no10, e, (clean_kind _).no10, e, (clean_nm h1).no10, e, (clean_nm h2).no10, e, (clean_what h3).no10, e, hr⟩
theorem goN_text : ∀ (m : List Nt) (f : Nat) (acc : List Nt), (∀ n ∈ m, noteE n = 0) → acc.length + m.length ≤ 200 → (textL m).length < f → goN f acc (textL m) = .good (acc ++ m)
  | [], f + 1, acc, _, _, _ => by simp [goN, textL]
  | x :: m, f + 1, acc, h, hl, hf => by
    have hx := h x (by simp)
    have e : textL (x :: m) = lineL x ++ 10 :: textL m := by simp [textL]
    simp only [List.length_cons] at hl
    rw [e, goN_step (by simp) (by omega), cut_at (lineL_no10 hx), if_neg (by simp)]
    simp only [lineP_lineL hx]
    rw [if_neg (by simp)]
    rw [goN_text m f (acc ++ [x]) (fun n hn => h n (by simp [hn])) (by simp; omega) (by rw [e] at hf; simp at hf; omega)]
    simp
theorem goN_inv : ∀ (f : Nat) (acc : List Nt) (x : List UInt8) (l : List Nt), x.length < f → acc.length ≤ 200 → goN f acc x = .good l → ∃ m, l = acc ++ m ∧ x = textL m ∧ (∀ n ∈ m, noteE n = 0) ∧ l.length ≤ 200
  | f + 1, acc, x, l, hf, ha, h => by
    by_cases hx : x = []
    · subst hx
      simp only [goN, if_true, Res.good.injEq] at h
      subst h
      exact ⟨[], by simp, rfl, by simp, ha⟩
    by_cases h2 : acc.length = 200
    · simp only [goN, if_neg hx, if_pos h2] at h
      cases h
    rw [goN_step hx h2] at h
    rcases cut_index 10 x with ⟨_, hc⟩ | ⟨a, r, rfl, hna, _, hc⟩
    · rw [hc, if_pos rfl] at h; cases h
    rw [hc, if_neg (by simp)] at h
    by_cases hp : (lineP a).1 = 0
    · simp only [hp, ne_eq, not_true_eq_false, if_false] at h
      obtain ⟨m, rfl, rfl, hm, hl⟩ := goN_inv f _ r l (by simp at hf; omega) (by simp; omega) h
      obtain ⟨e1, e2⟩ := lineP_inv hp
      refine ⟨(lineP a).2 :: m, by simp, by simp [textL, e1], ?_, hl⟩
      intro n hn
      rcases List.mem_cons.1 hn with rfl | hn
      · exact e2
      · exact hm n hn
    · simp only [ne_eq, hp, not_false_eq_true, if_true] at h
      cases h
theorem errN_zero : ∀ {l : List Nt}, errN l = 0 → ∀ n ∈ l, noteE n = 0
  | x :: l, h, n, hn => by
    simp only [errN] at h
    by_cases hx : noteE x = 0
    · rw [if_neg (by simp [hx])] at h
      rcases List.mem_cons.1 hn with rfl | hn
      · exact hx
      · exact errN_zero h n hn
    · rw [if_pos hx] at h; exact absurd h hx
/-- the text of good notes is read back -/
theorem text_parse {l : List Nt} (hl : l.length ≤ 200) (h : errN l = 0) (hs : (linesR l).size ≤ 65536) : parseN (linesR l) = .good l := by
  have hs' : (linesR l).size = (textL l).length := by rw [linesR_mk, mkB_size]
  unfold parseN
  rw [if_neg (by omega), linesR_data, goN_text l _ [] (errN_zero h) (by simpa using hl) (by omega)]
  rfl
/-- what is read is written as it was -/
theorem parse_text {s : ByteArray} {l : List Nt} (h : parseN s = .good l) : l.length ≤ 200 ∧ errN l = 0 ∧ linesR l = s ∧ s.size ≤ 65536 := by
  unfold parseN at h
  by_cases hs : 65536 < s.size
  · rw [if_pos hs] at h; cases h
  rw [if_neg hs] at h
  obtain ⟨m, hlm, hx, hm, hl⟩ := goN_inv (s.size + 1) [] s.data.toList l (Nat.lt_succ_of_le (Nat.le_of_eq rfl)) (Nat.zero_le _) h
  obtain rfl : l = m := hlm
  exact ⟨hl, errN_all hm, by rw [linesR_mk, ← hx, mkB_self], by omega⟩
end Go.Proofs.YtpgmjfnjdgdmcaaDoor
