/-
  Plain: texts split at a byte; what Parse computes; the two round trips.
-/
import Derived.Test.YtlkafolgbkobpaaDoorA18
import Derived.Lib.SplitLaws
namespace Go.Proofs.YtlkafolgbkobpaaDoor
open Go.RowKit Go.Sort

/-- the pieces of a text between the bytes c; at least one -/
def splitOn (c : UInt8) : List UInt8 → List (List UInt8)
  | [] => [[]]
  | b :: l => if b = c then [] :: splitOn c l else match splitOn c l with
    | [] => [[b]]
    | x :: r => (b :: x) :: r
theorem splitOn_ne (c : UInt8) : ∀ l, splitOn c l ≠ []
  | [] => by simp [splitOn]
  | b :: l => by
    simp only [splitOn]
    split
    · simp
    · split <;> simp
theorem splitOn_hit (c : UInt8) (l r : List UInt8) (h : c ∉ l) : splitOn c (l ++ c :: r) = l :: splitOn c r := by
  induction l with
  | nil => simp [splitOn]
  | cons b l ih =>
    have hb : b ≠ c := fun e => h (by simp [e])
    simp only [List.cons_append, splitOn, if_neg hb, ih (fun e => h (by simp [e]))]
theorem splitOn_miss (c : UInt8) (l : List UInt8) (h : c ∉ l) : splitOn c l = [l] := by
  induction l with
  | nil => rfl
  | cons b l ih =>
    have hb : b ≠ c := fun e => h (by simp [e])
    simp only [splitOn, if_neg hb, ih (fun e => h (by simp [e]))]
theorem splitOn_snoc_eq (c : UInt8) : ∀ l, splitOn c (l ++ [c]) = splitOn c l ++ [[]]
  | [] => by simp [splitOn]
  | b :: l => by
    simp only [List.cons_append, splitOn, splitOn_snoc_eq c l]
    split
    · rfl
    · have := splitOn_ne c l
      cases h : splitOn c l with
      | nil => exact absurd h this
      | cons x r => rfl
theorem splitOn_snoc_ne (c b : UInt8) (hb : b ≠ c) : ∀ (l : List UInt8) (o : List (List UInt8)) (x : List UInt8), splitOn c l = o ++ [x] → splitOn c (l ++ [b]) = o ++ [x ++ [b]]
  | [], o, x, h => by
    simp only [splitOn] at h
    cases o with
    | nil => simp at h; subst h; simp [splitOn, hb]
    | cons y o => simp at h
  | d :: l, o, x, h => by
    simp only [List.cons_append, splitOn] at h ⊢
    by_cases hd : d = c
    · rw [if_pos hd] at h ⊢
      cases o with
      | nil =>
        simp at h
        exact absurd h.2 (splitOn_ne c l)
      | cons y o =>
        simp only [List.cons_append, List.cons.injEq] at h
        rw [splitOn_snoc_ne c b hb l o x h.2, ← h.1]; rfl
    · rw [if_neg hd] at h ⊢
      cases hs : splitOn c l with
      | nil => exact absurd hs (splitOn_ne c l)
      | cons y r =>
        rw [hs] at h
        simp only at h
        cases o with
        | nil =>
          simp only [List.nil_append, List.cons.injEq] at h
          obtain ⟨h1, h2⟩ := h
          subst h2
          rw [splitOn_snoc_ne c b hb l [] y (by rw [hs]; rfl)]
          simp [← h1]
        | cons z o =>
          simp only [List.cons_append, List.cons.injEq] at h
          obtain ⟨h1, h2⟩ := h
          rw [splitOn_snoc_ne c b hb l (y :: o) x (by rw [hs, h2]; rfl)]
          simp [← h1]
theorem index_one_cons (b c : UInt8) (l : List UInt8) : Lib.index (b :: l) [c] = if b = c then 0 else if Lib.index l [c] = -1 then -1 else Lib.index l [c] + 1 := by
  simp only [Lib.index]
  by_cases h : b = c
  · subst h; simp
  · have : ([c].isPrefixOf (b :: l)) = false := by simp [List.isPrefixOf]; exact fun e => h e.symm
    rw [this, if_neg h]
    simp
theorem index_one (c : UInt8) : ∀ l : List UInt8, (Lib.index l [c] = -1 ∧ c ∉ l) ∨ ∃ a r, l = a ++ c :: r ∧ c ∉ a ∧ Lib.index l [c] = (a.length : Int)
  | [] => .inl ⟨by simp [Lib.index], by simp⟩
  | b :: l => by
    rw [index_one_cons]
    by_cases h : b = c
    · subst h
      exact .inr ⟨[], l, by simp, by simp, by simp⟩
    · rw [if_neg h]
      rcases index_one c l with ⟨h1, h2⟩ | ⟨a, r, rfl, h2, h3⟩
      · rw [if_pos h1]
        exact .inl ⟨rfl, by simp [h2]; exact fun e => h e.symm⟩
      · rw [h3, if_neg (by omega)]
        exact .inr ⟨b :: a, r, rfl, by simp [h2]; exact fun e => h e.symm, by simp⟩
theorem drop_hit (c : UInt8) (a r : List UInt8) : (a ++ c :: r).drop (a.length + 1) = r := by
  rw [← List.drop_drop, List.drop_left]; rfl
theorem splitK_eq (c : UInt8) : ∀ (k : Nat) (s : List UInt8), s.count c = k → Lib.splitK [c] 0 k s = splitOn c s
  | 0, s, h => by
    rw [splitOn_miss c s (List.count_eq_zero.1 h)]; rfl
  | k + 1, s, h => by
    rcases index_one c s with ⟨h1, h2⟩ | ⟨a, r, rfl, h2, h3⟩
    · rw [List.count_eq_zero.2 h2] at h; omega
    · simp only [Lib.splitK, h3]
      rw [if_neg (by simp), splitOn_hit c a r h2]
      have hc : r.count c = k := by
        rw [List.count_append, List.count_eq_zero.2 h2, List.count_cons_self] at h; omega
      have e1 : ((a.length : Int).toNat + 0) = a.length := by omega
      have e2 : ((a.length : Int).toNat + [c].length) = a.length + 1 := by simp
      rw [e1, e2, List.take_left, ← splitK_eq c k r hc]
      congr 2
      exact drop_hit c a r
theorem split_eq (c : UInt8) (s : List UInt8) : Lib.splitK [c] 0 (Lib.count s [c]) s = splitOn c s := splitK_eq c _ s (Lib.count_one c s).symm
theorem cut_eq (c : UInt8) (s : List UInt8) : (Lib.cut s [c] = (s, [], false) ∧ splitOn c s = [s]) ∨ ∃ a r, Lib.cut s [c] = (a, r, true) ∧ splitOn c s = a :: splitOn c r ∧ s.length = a.length + 1 + r.length := by
  rcases index_one c s with ⟨h1, h2⟩ | ⟨a, r, rfl, h2, h3⟩
  · refine .inl ⟨?_, splitOn_miss c s h2⟩
    unfold Lib.cut; rw [h1]; rfl
  · refine .inr ⟨a, r, ?_, splitOn_hit c a r h2, by simp; omega⟩
    unfold Lib.cut
    rw [h3, if_pos (by omega)]
    have e2 : ((a.length : Int).toNat + [c].length) = a.length + 1 := by simp
    rw [e2]
    simp
theorem join_split (c : UInt8) : ∀ l, Lib.join (splitOn c l) [c] = l
  | [] => by simp [splitOn, Lib.join_one]
  | b :: l => by
    have ih := join_split c l
    simp only [splitOn]
    split
    · rename_i h
      subst h
      have := join_of_ne [b] (splitOn b l) (splitOn_ne b l)
      rw [Lib.join_cons, ← this, ih]; rfl
    · cases h : splitOn c l with
      | nil => exact absurd h (splitOn_ne c l)
      | cons x r =>
        rw [h, Lib.join_cons] at ih
        simp only
        rw [Lib.join_cons, List.cons_append, ih]
theorem split_join (c : UInt8) : ∀ (r : List (List UInt8)), r ≠ [] → (∀ x ∈ r, c ∉ x) → splitOn c (Lib.join r [c]) = r
  | [], h, _ => absurd rfl h
  | [x], _, h => by rw [Lib.join_one]; exact splitOn_miss c x (h x (by simp))
  | x :: y :: r, _, h => by
    have := join_of_ne [c] (y :: r) (by simp)
    rw [Lib.join_cons, ← this, show x ++ ([c] ++ Lib.join (y :: r) [c]) = x ++ c :: Lib.join (y :: r) [c] from rfl, splitOn_hit c x _ (h x (by simp)), split_join c (y :: r) (by simp) (fun z hz => h z (by simp [hz]))]

/-- the words of a line -/
def wordsB (l : List UInt8) : List ByteArray := (splitOn 32 l).map fun x => ⟨x.toArray⟩
structure PSt where
  p : Pr
  k : Nat
def st0 : PSt := ⟨⟨⟨#[]⟩, [], 0, 0, []⟩, 0⟩
def wd (ws : List ByteArray) (i : Nat) : ByteArray := ws.getD i ⟨#[]⟩
def stepK (st : PSt) (ws : List ByteArray) : Int × PSt :=
  if st.k = 0 then (if (wd ws 0).toList = [112, 114, 111, 116, 111, 99, 111, 108] ∧ ws.length = 2 then (0, ⟨{ st.p with cls := wd ws 1 }, 1⟩) else (2, st))
  else if st.k = 1 then (if (wd ws 0).toList = [115, 116, 97, 116, 101, 115] ∧ 2 ≤ ws.length then (0, ⟨{ st.p with sts := ws.drop 1 }, 2⟩) else (2, st))
  else if st.k = 2 then (if (wd ws 0).toList = [115, 116, 97, 114, 116] ∧ ws.length = 2 then (if idx st.p.sts (wd ws 1) < 0 then (6, st) else (0, ⟨{ st.p with start := idx st.p.sts (wd ws 1) }, 3⟩)) else (2, st))
  else if st.k = 3 then (if (wd ws 0).toList = [101, 114, 114, 111, 114] ∧ ws.length = 2 then (if idx st.p.sts (wd ws 1) < 0 then (6, st) else (0, ⟨{ st.p with err := idx st.p.sts (wd ws 1) }, 4⟩)) else (2, st))
  else if st.k = 4 then (if (wd ws 0).toList = [101, 110, 100] ∧ ws.length = 1 then (0, ⟨st.p, 5⟩)
    else if (wd ws 0).toList = [109, 111, 118, 101] ∧ ws.length = 4 then (if idx st.p.sts (wd ws 1) < 0 ∨ idx st.p.sts (wd ws 3) < 0 then (6, st) else (0, ⟨{ st.p with mvs := st.p.mvs ++ [⟨idx st.p.sts (wd ws 1), wd ws 2, idx st.p.sts (wd ws 3)⟩] }, 4⟩)) else (2, st))
  else (2, st)
/-- one line -/
def stepLn (st : PSt) (ws : List ByteArray) : Int × PSt := if 0 ≤ idx ws ⟨#[]⟩ then (2, st) else stepK st ws
inductive Res where
  | bad (line e : Int)
  | good (p : Pr)
def finP (st : PSt) (n : Nat) (rest : List UInt8) : Res :=
  if st.k ≠ 5 then .bad n 21 else if rest ≠ [] then .bad n 2 else if checkP st.p ≠ 0 then .bad 0 (checkP st.p) else .good st.p
def goP (st : PSt) (n : Nat) : List (List UInt8) → Res
  | [] => finP st n []
  | [r] => finP st n r
  | l :: r :: ls => if (stepLn st (wordsB l)).1 = 0 then goP (stepLn st (wordsB l)).2 (n + 1) (r :: ls) else .bad n (stepLn st (wordsB l)).1
def parseT (s : ByteArray) : Res := if 65536 < s.size then .bad 0 3 else goP st0 1 (splitOn 10 s.data.toList)
end Go.Proofs.YtlkafolgbkobpaaDoor
