/-
  Plain: the two round trips of Text and Parse.
-/
import Derived.Test.YtlkafolgbkobpaaDoorPars
namespace Go.Proofs.YtlkafolgbkobpaaDoor
open Go.RowKit Go.Sort

theorem bytes_of_toList {a b : ByteArray} (h : a.toList = b.toList) : a = b := by
  rw [ByteArray.toList_eq, ByteArray.toList_eq] at h
  exact WideShapes.bytes_inj h
theorem idxFrom_spec (l : List ByteArray) (s : ByteArray) (k : Nat) : (idxFrom l s k = -1 ∧ ∀ j (h : j < l.length), k ≤ j → l[j] ≠ s) ∨ ∃ j, ∃ h : j < l.length, k ≤ j ∧ idxFrom l s k = j ∧ l[j] = s ∧ ∀ i (h : i < l.length), k ≤ i → i < j → l[i] ≠ s := by
  by_cases hk : k < l.length
  · rw [idxFrom, dif_pos hk]
    by_cases he : l[k].toList = s.toList
    · rw [if_pos he]
      exact .inr ⟨k, hk, Nat.le_refl _, rfl, bytes_of_toList he, fun i _ h1 h2 => by omega⟩
    · rw [if_neg he]
      have hne : l[k] ≠ s := fun e => he (by rw [e])
      rcases idxFrom_spec l s (k + 1) with ⟨h1, h2⟩ | ⟨j, hj, h1, h2, h3, h4⟩
      · refine .inl ⟨h1, fun j hj hkj => ?_⟩
        by_cases e : k = j
        · subst e; exact hne
        · exact h2 j hj (by omega)
      · refine .inr ⟨j, hj, by omega, h2, h3, fun i hi hki hij => ?_⟩
        by_cases e : k = i
        · subst e; exact hne
        · exact h4 i hi (by omega) hij
  · rw [idxFrom, dif_neg hk]
    exact .inl ⟨rfl, fun j hj h => by omega⟩
termination_by l.length - k
theorem idx_spec (l : List ByteArray) (s : ByteArray) : (idx l s = -1 ∧ s ∉ l) ∨ ∃ j, ∃ h : j < l.length, idx l s = j ∧ l[j] = s ∧ ∀ i (h : i < l.length), i < j → l[i] ≠ s := by
  rcases idxFrom_spec l s 0 with ⟨h1, h2⟩ | ⟨j, hj, _, h2, h3, h4⟩
  · refine .inl ⟨h1, fun hm => ?_⟩
    obtain ⟨j, hj, he⟩ := List.getElem_of_mem hm
    exact h2 j hj (by omega) he
  · exact .inr ⟨j, hj, h2, h3, fun i hi hij => h4 i hi (by omega) hij⟩
theorem idx_neg_iff (l : List ByteArray) (s : ByteArray) : idx l s < 0 ↔ s ∉ l := by
  rcases idx_spec l s with ⟨h1, h2⟩ | ⟨j, hj, h1, h2, _⟩
  · simp [h1, h2]
  · rw [h1]; constructor
    · intro h; omega
    · intro h; exact absurd (h2 ▸ List.getElem_mem hj) h
theorem idx_get {l : List ByteArray} {s : ByteArray} (h : 0 ≤ idx l s) : l.getD (idx l s).toNat ByteArray.empty = s ∧ idx l s < l.length := by
  rcases idx_spec l s with ⟨h1, h2⟩ | ⟨j, hj, h1, h2, _⟩
  · omega
  · rw [h1]; simp [hj, h2]
theorem idx_at {l : List ByteArray} (hl : stsErr l 0 = 0) {j : Nat} (hj : j < l.length) : idx l l[j] = j := by
  have hd := (sts_of hl j hj (by omega)).2
  rcases idx_spec l l[j] with ⟨h1, h2⟩ | ⟨i, hi, h1, h2, h3⟩
  · exact absurd (List.getElem_mem hj) h2
  · rw [h1]
    have h4 : ¬ j < i := fun h => h3 j hj h rfl
    have h5 : ¬ i < j := fun h => by
      apply hd
      apply Classical.byContradiction
      intro hn
      have := (idx_neg_iff (l.take j) l[j]).1 (by omega)
      apply this
      rw [← h2]
      exact List.mem_take_iff_getElem.2 ⟨i, by omega, rfl⟩
    omega
theorem stAt_get {p : Pr} {q : Int} (hq : stB p q = true) : ∃ h : q.toNat < p.sts.length, stAt p q = p.sts[q.toNat] := by
  simp only [stB, Bool.and_eq_true, decide_eq_true_eq] at hq
  have hq' : q.toNat < p.sts.length := by omega
  exact ⟨hq', by simp only [stAt, List.getD_eq_getElem?_getD, List.getElem?_eq_getElem hq', Option.getD_some]⟩
theorem idx_stAt {p : Pr} (h : checkP p = 0) {q : Int} (hq : stB p q = true) : idx p.sts (stAt p q) = q := by
  obtain ⟨h1, h2⟩ := stAt_get hq
  rw [h2, idx_at (ok_more h).2 h1]
  simp only [stB, Bool.and_eq_true, decide_eq_true_eq] at hq
  omega

/-- the bytes of a name are no blanks -/
theorem ident_no {s : ByteArray} (h : identB s = true) {c : UInt8} (hc : partI c.toNat = false) : c ∉ s.data.toList := by
  intro hm
  simp only [identB, Bool.and_eq_true] at h
  have := List.all_eq_true.1 h.1.2 c hm
  rw [hc] at this; simp at this
theorem ident_ne {s : ByteArray} (h : identB s = true) : s ≠ ⟨#[]⟩ := by
  intro e; subst e; exact absurd h (by decide)

/-- the lines of a text, so far -/
def txt (p : Pr) (k : Nat) : List UInt8 :=
  ((((lines4 p).take k).map (·.data.toList)).map (· ++ [10])).flatten ++ (if 4 ≤ k then (p.mvs.map (fun m => (lnMv p m).data.toList ++ [10])).flatten else []) ++ (if k = 5 then [101, 110, 100, 10] else [])
theorem txt_five (p : Pr) : txt p 5 = (textB p).data.toList := by
  have e1 : (textB p).data.toList = Lib.join ((linesAll p).map (·.data.toList)) [10] := by simp [textB]
  rw [e1]
  unfold linesAll linesTo
  rw [List.map_append, List.map_cons, List.map_nil, join_lines, List.take_of_length_le (Nat.le_refl _)]
  simp [txt, lines4, List.append_assoc, Function.comp_def]
theorem words_join (l : List UInt8) : Lib.join ((wordsB l).map (·.data.toList)) [32] = l := by
  unfold wordsB
  rw [List.map_map]
  have : (((fun x : ByteArray => x.data.toList) ∘ fun x : List UInt8 => (⟨x.toArray⟩ : ByteArray))) = id := by funext x; simp
  rw [this, List.map_id, join_split]
theorem words_ne (l : List UInt8) : wordsB l ≠ [] := by
  unfold wordsB
  intro h
  exact splitOn_ne 32 l (by simpa using h)
/-- the invariant of reading -/
structure Inv (st : PSt) : Prop where
  k5 : st.k ≤ 5
  m0 : st.k < 4 → st.p.mvs = []
theorem wd_data {ws : List ByteArray} {x : List UInt8} (h : (wd ws 0).toList = x) (hn : ws ≠ []) : ∃ r, ws.map (·.data.toList) = x :: r ∧ r = (ws.drop 1).map (·.data.toList) := by
  cases ws with
  | nil => exact absurd rfl hn
  | cons a r =>
    simp only [wd, List.getD_cons_zero] at h
    exact ⟨r.map (·.data.toList), by rw [List.map_cons, ← h, ByteArray.toList_eq], by simp⟩
theorem step_txt {st st' : PSt} {l : List UInt8} (hi : Inv st) (h : stepLn st (wordsB l) = (0, st')) : Inv st' ∧ txt st'.p st'.k = txt st.p st.k ++ l ++ [10] := by
  have hw := words_join l
  have hn := words_ne l
  generalize wordsB l = ws at *
  unfold stepLn at h
  split at h
  · simp at h
  rename_i hempty
  unfold stepK at h
  obtain ⟨⟨cls, sts, start, err, mvs⟩, k⟩ := st
  obtain ⟨k5, m0⟩ := hi
  simp only at k5 m0 h
  split at h
  · rename_i hk; subst hk
    obtain rfl := m0 (by omega)
    split at h
    · rename_i hc
      obtain ⟨r, hr, hr2⟩ := wd_data hc.1 hn
      match ws, hc with
      | [a, b], hc =>
        simp only [Prod.mk.injEq, true_and] at h
        subst h
        refine ⟨⟨by simp, fun _ => rfl⟩, ?_⟩
        rw [hr, hr2] at hw
        rw [← hw]
        simp [txt, lines4, wd, Lib.join_cons, Lib.joinTail]
    · simp at h
  split at h
  · rename_i hk; subst hk
    obtain rfl := m0 (by omega)
    split at h
    · rename_i hc
      obtain ⟨r, hr, hr2⟩ := wd_data hc.1 hn
      simp only [Prod.mk.injEq, true_and] at h
      subst h
      refine ⟨⟨by simp, fun _ => rfl⟩, ?_⟩
      rw [hr, hr2] at hw
      rw [← hw, Lib.join_cons]
      have hne : (ws.drop 1).map (·.data.toList) ≠ [] := by
        intro e
        have : (ws.drop 1).length = 0 := by rw [← List.length_map (f := (·.data.toList)), e]; rfl
        simp at this; omega
      rw [← join_of_ne [32] _ hne]
      simp [txt, lines4, joinSts]
    · simp at h
  split at h
  · rename_i hk; subst hk
    obtain rfl := m0 (by omega)
    split at h
    · rename_i hc
      obtain ⟨r, hr, hr2⟩ := wd_data hc.1 hn
      split at h
      · simp at h
      rename_i hx
      match ws, hc with
      | [a, b], hc =>
        simp only [Prod.mk.injEq, true_and] at h
        subst h
        refine ⟨⟨by simp, fun _ => rfl⟩, ?_⟩
        rw [hr, hr2] at hw
        rw [← hw]
        have := (idx_get (Int.not_lt.1 hx)).1
        simp only [wd, List.getD_cons_succ, List.getD_cons_zero] at this
        simp [txt, lines4, wd, stAt, Lib.join_cons, Lib.joinTail, joinSts] at this ⊢
        rw [this]
    · simp at h
  split at h
  · rename_i hk; subst hk
    obtain rfl := m0 (by omega)
    split at h
    · rename_i hc
      obtain ⟨r, hr, hr2⟩ := wd_data hc.1 hn
      split at h
      · simp at h
      rename_i hx
      match ws, hc with
      | [a, b], hc =>
        simp only [Prod.mk.injEq, true_and] at h
        subst h
        refine ⟨⟨by simp, fun h => by simp at h⟩, ?_⟩
        rw [hr, hr2] at hw
        rw [← hw]
        have := (idx_get (Int.not_lt.1 hx)).1
        simp only [wd, List.getD_cons_succ, List.getD_cons_zero] at this
        simp [txt, lines4, wd, stAt, Lib.join_cons, Lib.joinTail, joinSts] at this ⊢
        rw [this]
    · simp at h
  split at h
  · rename_i hk; subst hk
    split at h
    · rename_i hc
      obtain ⟨r, hr, hr2⟩ := wd_data hc.1 hn
      match ws, hc with
      | [a], hc =>
        simp only [Prod.mk.injEq, true_and] at h
        subst h
        refine ⟨⟨by simp, fun h => by simp at h⟩, ?_⟩
        rw [hr, hr2] at hw
        rw [← hw]
        simp [txt, lines4, Lib.join_cons, Lib.joinTail]
    split at h
    · rename_i hc
      obtain ⟨r, hr, hr2⟩ := wd_data hc.1 hn
      split at h
      · simp at h
      rename_i hx
      match ws, hc with
      | [a, b, c, d], hc =>
        simp only [Prod.mk.injEq, true_and] at h
        subst h
        refine ⟨⟨by simp, fun h => by simp at h⟩, ?_⟩
        rw [hr, hr2] at hw
        rw [← hw]
        simp only [not_or, Int.not_lt] at hx
        have h1 := (idx_get hx.1).1
        have h2 := (idx_get hx.2).1
        simp only [wd, List.getD_cons_succ, List.getD_cons_zero] at h1 h2
        simp [txt, lines4, wd, stAt, lnMv, Lib.join_cons, Lib.joinTail, joinSts] at h1 h2 ⊢
        rw [h1, h2]
    · simp at h
  simp at h
theorem goP_txt : ∀ (ls : List (List UInt8)) (st : PSt) (n : Nat) (p : Pr), Inv st → goP st n ls = .good p → checkP p = 0 ∧ (textB p).data.toList = txt st.p st.k ++ Lib.join ls [10]
  | [], st, n, p, hi, h => by
    simp only [goP, finP] at h
    repeat (split at h <;> try (simp at h; done))
    simp only [Res.good.injEq] at h
    subst h
    rename_i h1 h2 h3
    rw [← txt_five, Classical.not_not.1 h1]
    exact ⟨Classical.not_not.1 h3, by simp [Lib.join_nil]⟩
  | [r], st, n, p, hi, h => by
    simp only [goP, finP] at h
    repeat (split at h <;> try (simp at h; done))
    simp only [Res.good.injEq] at h
    subst h
    rename_i h1 h2 h3
    rw [← txt_five, Classical.not_not.1 h1, Classical.not_not.1 h2]
    exact ⟨Classical.not_not.1 h3, by simp [Lib.join_one]⟩
  | l :: r :: ls, st, n, p, hi, h => by
    simp only [goP] at h
    split at h
    · rename_i h0
      have hs := step_txt hi (l := l) (st' := (stepLn st (wordsB l)).2) (Prod.ext h0 rfl)
      have ih := goP_txt (r :: ls) _ _ _ hs.1 h
      refine ⟨ih.1, ?_⟩
      rw [ih.2, hs.2, Lib.join_cons l (r :: ls), ← join_of_ne [10] (r :: ls) (by simp)]
      simp [List.append_assoc]
    · simp at h
theorem parse_text {s : ByteArray} {p : Pr} (h : parseT s = .good p) : checkP p = 0 ∧ textB p = s := by
  unfold parseT at h
  split at h
  · simp at h
  have := goP_txt _ _ _ _ ⟨by simp [st0], fun _ => rfl⟩ h
  refine ⟨this.1, WideShapes.bytes_inj ?_⟩
  rw [this.2, join_split]
  simp [txt, st0]

/-- the lines of a text, each without its end, and what follows the last one -/
def linesL (p : Pr) : List (List UInt8) := (linesTo p p.mvs.length).map (·.data.toList) ++ [[101, 110, 100], []]
theorem text_lines (p : Pr) : (textB p).data.toList = Lib.join (linesL p) [10] := by
  have e1 : (textB p).data.toList = Lib.join ((linesAll p).map (·.data.toList)) [10] := by simp [textB]
  rw [e1]
  unfold linesAll linesL
  rw [List.map_append, List.map_cons, List.map_nil, join_lines, show ∀ l : List (List UInt8), l ++ [[101, 110, 100], []] = (l ++ [[101, 110, 100]]) ++ [[]] from fun l => by simp, join_lines]
  simp
theorem part32 : partI ((32 : UInt8).toNat : Int) = false := by decide
theorem part10 : partI ((10 : UInt8).toNat : Int) = false := by decide
theorem st_ident {p : Pr} (h : checkP p = 0) {q : Int} (hq : stB p q = true) : identB (stAt p q) = true := by
  obtain ⟨h1, h2⟩ := stAt_get hq
  rw [h2]; exact (sts_of (ok_more h).2 _ h1 (by omega)).1
theorem join_no {c : UInt8} (sep : List UInt8) (hs : c ∉ sep) (r : List (List UInt8)) (h : ∀ x ∈ r, c ∉ x) : c ∉ Lib.join r sep := by
  induction r with
  | nil => simp [Lib.join_nil]
  | cons x r ih =>
    have ihr := ih (fun y hy => h y (by simp [hy]))
    cases r with
    | nil => rw [Lib.join_one]; exact h x (by simp)
    | cons y r =>
      have := join_of_ne sep (y :: r) (by simp)
      rw [Lib.join_cons, ← this]
      simp only [List.mem_append, not_or]
      exact ⟨h x (by simp), hs, ihr⟩
theorem sts_no {p : Pr} (h : checkP p = 0) {c : UInt8} (hc : partI c.toNat = false) : ∀ x ∈ p.sts.map (·.data.toList), c ∉ x := by
  intro x hx
  obtain ⟨s, hs, rfl⟩ := List.mem_map.1 hx
  obtain ⟨j, hj, rfl⟩ := List.getElem_of_mem hs
  exact ident_no (sts_of (ok_more h).2 j hj (by omega)).1 hc
theorem lines_no {p : Pr} (h : checkP p = 0) : ∀ x ∈ linesL p, (10 : UInt8) ∉ x := by
  intro x hx
  unfold linesL linesTo lines4 at hx
  rw [List.take_of_length_le (Nat.le_refl _)] at hx
  simp only [List.map_append, List.map_cons, List.map_nil, List.mem_append, List.mem_cons, List.not_mem_nil, or_false, List.mem_map, List.map_map] at hx
  have hc := ident_no (ok_more h).1 part10
  have h1 := ident_no (st_ident h (ok_parts h).1) part10
  have h2 := ident_no (st_ident h (ok_parts h).2.1) part10
  have h3 := join_no [32] (by decide) _ (sts_no h part10)
  rcases hx with (((rfl | rfl | rfl | rfl)) | ⟨m, hm, rfl⟩) | (rfl | rfl)
  · simp only [data_append, List.mem_append, not_or]; exact ⟨by decide, hc⟩
  · simp only [data_append, List.mem_append, not_or, joinSts]; exact ⟨by decide, by simpa using h3⟩
  · simp only [data_append, List.mem_append, not_or]; exact ⟨by decide, h1⟩
  · simp only [data_append, List.mem_append, not_or]; exact ⟨by decide, h2⟩
  · obtain ⟨j, hj, rfl⟩ := List.getElem_of_mem hm
    have hv := mv_of_ok (ok_parts h).2.2.2.1 j hj (by omega)
    have h4 := ident_no (st_ident h hv.1) part10
    have h5 := ident_no (st_ident h hv.2.1) part10
    have h6 := ident_no (meth_ok h hj) part10
    simp only [Function.comp, lnMv, data_append, List.mem_append, not_or]
    exact ⟨⟨⟨⟨⟨by decide, h4⟩, by decide⟩, h6⟩, by decide⟩, h5⟩
  · decide
  · decide
theorem split_text {p : Pr} (h : checkP p = 0) : splitOn 10 (textB p).data.toList = linesL p := by
  rw [text_lines]
  exact split_join 10 _ (by simp [linesL]) (lines_no h)
theorem words_of (xs : List ByteArray) (hn : xs ≠ []) (h : ∀ x ∈ xs, (32 : UInt8) ∉ x.data.toList) (l : List UInt8) (hl : l = Lib.join (xs.map (·.data.toList)) [32]) : wordsB l = xs := by
  subst hl
  unfold wordsB
  rw [split_join 32 _ (by simpa using hn) (by simpa using h), List.map_map]
  have : ((fun x : List UInt8 => (⟨x.toArray⟩ : ByteArray)) ∘ (fun x : ByteArray => x.data.toList)) = id := by funext x; simp
  rw [this, List.map_id]
theorem no_empty {ws : List ByteArray} (h : ∀ x ∈ ws, x ≠ ⟨#[]⟩) : ¬ 0 ≤ idx ws ⟨#[]⟩ := by
  have := (idx_neg_iff ws ⟨#[]⟩).2 (fun hm => h _ hm rfl)
  omega
theorem goP_mvs {p : Pr} (h : checkP p = 0) : ∀ (j : Nat) (n : Nat), j ≤ p.mvs.length → goP ⟨{ p with mvs := p.mvs.take (p.mvs.length - j) }, 4⟩ n (((p.mvs.drop (p.mvs.length - j)).map (fun m => (lnMv p m).data.toList)) ++ [[101, 110, 100], []]) = .good p
  | 0, n, _ => by
    rw [Nat.sub_zero, List.take_of_length_le (Nat.le_refl _), List.drop_of_length_le (Nat.le_refl _)]
    have hw : wordsB [101, 110, 100] = [⟨#[101, 110, 100]⟩] := words_of [⟨#[101, 110, 100]⟩] (by simp) (by simp) _ (by simp [Lib.join_one])
    have hs : stepLn ⟨p, 4⟩ (wordsB [101, 110, 100]) = (0, ⟨p, 5⟩) := by
      rw [hw]
      unfold stepLn
      rw [if_neg (no_empty (by simp))]
      simp [stepK, wd, ByteArray.toList_eq]
    simp only [List.map_nil, List.nil_append, goP]
    rw [hs]
    simp [finP, h]
  | j + 1, n, hj => by
    have hlt : p.mvs.length - (j + 1) < p.mvs.length := by omega
    rw [List.drop_eq_getElem_cons hlt]
    obtain ⟨i, hi⟩ : ∃ i, i = p.mvs.length - (j + 1) := ⟨_, rfl⟩
    have hi2 : p.mvs.length - j = i + 1 := by omega
    have ih := goP_mvs h j (n + 1) (by omega)
    rw [hi2] at ih
    simp only [← hi] at hlt ⊢
    have hv := mv_of_ok (ok_parts h).2.2.2.1 i hlt (by omega)
    have i1 := st_ident h hv.1
    have i2 := st_ident h hv.2.1
    have i3 := meth_ok h hlt
    have hw : wordsB (lnMv p p.mvs[i]).data.toList = [⟨#[109, 111, 118, 101]⟩, stAt p p.mvs[i].frm, p.mvs[i].meth, stAt p p.mvs[i].to] := by
      refine words_of _ (by simp) ?_ _ ?_
      · intro x hx
        simp only [List.mem_cons, List.not_mem_nil, or_false] at hx
        rcases hx with rfl | rfl | rfl | rfl
        · decide
        · exact ident_no i1 part32
        · exact ident_no i3 part32
        · exact ident_no i2 part32
      · simp [lnMv, Lib.join_cons, Lib.joinTail]
    have hs : stepLn ⟨{ p with mvs := p.mvs.take i }, 4⟩ (wordsB (lnMv p p.mvs[i]).data.toList) = (0, ⟨{ p with mvs := p.mvs.take (i + 1) }, 4⟩) := by
      rw [hw]
      unfold stepLn
      rw [if_neg (no_empty (fun x hx => by
        simp only [List.mem_cons, List.not_mem_nil, or_false] at hx
        rcases hx with rfl | rfl | rfl | rfl
        · exact fun e => by simp at e
        · exact ident_ne i1
        · exact ident_ne i3
        · exact ident_ne i2))]
      have x1 := idx_stAt h hv.1
      have x2 := idx_stAt h hv.2.1
      have y1 := hv.1
      have y2 := hv.2.1
      simp only [stB, Bool.and_eq_true, decide_eq_true_eq] at y1 y2
      rw [List.take_succ_eq_append_getElem hlt]
      generalize p.mvs[i] = m at *
      have hne : ¬ (m.frm < 0 ∨ m.to < 0) := by omega
      simp [stepK, wd, ByteArray.toList_eq, x1, x2, hne]
    rw [List.map_cons, List.cons_append]
    have hc : ∀ (l : List UInt8) (r : List (List UInt8)), r ≠ [] → goP ⟨{ p with mvs := p.mvs.take i }, 4⟩ n (l :: r) = if (stepLn ⟨{ p with mvs := p.mvs.take i }, 4⟩ (wordsB l)).1 = 0 then goP (stepLn ⟨{ p with mvs := p.mvs.take i }, 4⟩ (wordsB l)).2 (n + 1) r else .bad n (stepLn ⟨{ p with mvs := p.mvs.take i }, 4⟩ (wordsB l)).1 := by
      intro l r hr
      cases r with
      | nil => exact absurd rfl hr
      | cons a r => rfl
    rw [hc _ _ (by simp), hs]
    exact ih
theorem text_size {p : Pr} (h : checkP p = 0) : (textB p).size ≤ 30000 := by
  have h1 := rt3_size h _ (Nat.le_refl _)
  have h2 := (ok_parts h).2.2.2.2.2
  rw [← text_eq h]
  have b : (ByteArray.mk #[101, 110, 100, 10]).size = 4 := rfl
  simp only [refText, ByteArray.size_append]
  omega
theorem text_parse {p : Pr} (h : checkP p = 0) : parseT (textB p) = .good p := by
  have hsz := text_size h
  unfold parseT
  rw [if_neg (by omega), split_text h]
  have ic := (ok_more h).1
  have i1 := st_ident h (ok_parts h).1
  have i2 := st_ident h (ok_parts h).2.1
  have x1 := idx_stAt h (ok_parts h).1
  have x2 := idx_stAt h (ok_parts h).2.1
  have y1 := (ok_parts h).1
  have y2 := (ok_parts h).2.1
  simp only [stB, Bool.and_eq_true, decide_eq_true_eq] at y1 y2
  have hsn : p.sts ≠ [] := by
    intro e
    simp [e] at y1; omega
  unfold linesL linesTo lines4
  rw [List.take_of_length_le (Nat.le_refl _)]
  simp only [List.map_cons, List.cons_append, List.nil_append, List.map_map]
  have w0 : wordsB ((⟨#[112, 114, 111, 116, 111, 99, 111, 108, 32]⟩ : ByteArray) ++ p.cls).data.toList = [⟨#[112, 114, 111, 116, 111, 99, 111, 108]⟩, p.cls] := by
    refine words_of _ (by simp) ?_ _ (by simp [Lib.join_cons, Lib.joinTail])
    intro x hx
    simp only [List.mem_cons, List.not_mem_nil, or_false] at hx
    rcases hx with rfl | rfl
    · decide
    · exact ident_no ic part32
  have w1 : wordsB ((⟨#[115, 116, 97, 116, 101, 115, 32]⟩ : ByteArray) ++ joinSts p).data.toList = ⟨#[115, 116, 97, 116, 101, 115]⟩ :: p.sts := by
    refine words_of _ (by simp) ?_ _ ?_
    · intro x hx
      simp only [List.mem_cons] at hx
      rcases hx with rfl | hx
      · decide
      · exact sts_no h part32 _ (List.mem_map.2 ⟨x, hx, rfl⟩)
    · rw [List.map_cons, Lib.join_cons, ← join_of_ne [32] _ (by simpa using hsn)]
      simp [joinSts]
  have w2 : wordsB ((⟨#[115, 116, 97, 114, 116, 32]⟩ : ByteArray) ++ stAt p p.start).data.toList = [⟨#[115, 116, 97, 114, 116]⟩, stAt p p.start] := by
    refine words_of _ (by simp) ?_ _ (by simp [Lib.join_cons, Lib.joinTail])
    intro x hx
    simp only [List.mem_cons, List.not_mem_nil, or_false] at hx
    rcases hx with rfl | rfl
    · decide
    · exact ident_no i1 part32
  have w3 : wordsB ((⟨#[101, 114, 114, 111, 114, 32]⟩ : ByteArray) ++ stAt p p.err).data.toList = [⟨#[101, 114, 114, 111, 114]⟩, stAt p p.err] := by
    refine words_of _ (by simp) ?_ _ (by simp [Lib.join_cons, Lib.joinTail])
    intro x hx
    simp only [List.mem_cons, List.not_mem_nil, or_false] at hx
    rcases hx with rfl | rfl
    · decide
    · exact ident_no i2 part32
  have s0 : stepLn st0 [⟨#[112, 114, 111, 116, 111, 99, 111, 108]⟩, p.cls] = (0, ⟨⟨p.cls, [], 0, 0, []⟩, 1⟩) := by
    unfold stepLn
    rw [if_neg (no_empty (fun x hx => by
      simp only [List.mem_cons, List.not_mem_nil, or_false] at hx
      rcases hx with rfl | rfl
      · exact fun e => by simp at e
      · exact ident_ne ic))]
    simp [stepK, wd, ByteArray.toList_eq, st0]
  have s1 : stepLn ⟨⟨p.cls, [], 0, 0, []⟩, 1⟩ (⟨#[115, 116, 97, 116, 101, 115]⟩ :: p.sts) = (0, ⟨⟨p.cls, p.sts, 0, 0, []⟩, 2⟩) := by
    unfold stepLn
    rw [if_neg (no_empty (fun x hx => by
      simp only [List.mem_cons] at hx
      rcases hx with rfl | hx
      · exact fun e => by simp at e
      · obtain ⟨j, hj, rfl⟩ := List.getElem_of_mem hx
        exact ident_ne (sts_of (ok_more h).2 j hj (by omega)).1))]
    have : 1 ≤ p.sts.length := by omega
    simp [stepK, wd, ByteArray.toList_eq, this]
  have s2 : stepLn ⟨⟨p.cls, p.sts, 0, 0, []⟩, 2⟩ [⟨#[115, 116, 97, 114, 116]⟩, stAt p p.start] = (0, ⟨⟨p.cls, p.sts, p.start, 0, []⟩, 3⟩) := by
    unfold stepLn
    rw [if_neg (no_empty (fun x hx => by
      simp only [List.mem_cons, List.not_mem_nil, or_false] at hx
      rcases hx with rfl | rfl
      · exact fun e => by simp at e
      · exact ident_ne i1))]
    have : ¬ p.start < 0 := by omega
    simp [stepK, wd, ByteArray.toList_eq, x1, this]
  have s3 : stepLn ⟨⟨p.cls, p.sts, p.start, 0, []⟩, 3⟩ [⟨#[101, 114, 114, 111, 114]⟩, stAt p p.err] = (0, ⟨⟨p.cls, p.sts, p.start, p.err, []⟩, 4⟩) := by
    unfold stepLn
    rw [if_neg (no_empty (fun x hx => by
      simp only [List.mem_cons, List.not_mem_nil, or_false] at hx
      rcases hx with rfl | rfl
      · exact fun e => by simp at e
      · exact ident_ne i2))]
    have : ¬ p.err < 0 := by omega
    simp [stepK, wd, ByteArray.toList_eq, x2, this]
  have hm := goP_mvs h p.mvs.length 5 (Nat.le_refl _)
  rw [Nat.sub_self, List.take_zero, List.drop_zero] at hm
  simp only [goP, w0, s0, w1, s1, w2, s2, if_true]
  have hc : ∀ (st : PSt) (n : Nat) (l : List UInt8) (r : List (List UInt8)), r ≠ [] → goP st n (l :: r) = if (stepLn st (wordsB l)).1 = 0 then goP (stepLn st (wordsB l)).2 (n + 1) r else .bad n (stepLn st (wordsB l)).1 := by
    intro st n l r hr
    cases r with
    | nil => exact absurd rfl hr
    | cons a r => rfl
  rw [hc _ _ _ _ (by simp), w3, s3]
  exact hm
end Go.Proofs.YtlkafolgbkobpaaDoor
