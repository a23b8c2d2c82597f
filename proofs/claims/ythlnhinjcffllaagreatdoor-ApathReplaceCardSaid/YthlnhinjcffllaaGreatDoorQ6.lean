/-
  Plain: texts split at a byte.
-/
import Derived.Test.YthlnhinjcffllaaGreatDoorQ1
import Derived.Lib.SplitLaws
import Derived.WideShapes
namespace Go.Proofs.YthlnhinjcffllaaGreatDoor
open Go.RowKit

/-- the pieces of a text between the bytes c; at least one -/
def splitOn (c : UInt8) : List UInt8 → List (List UInt8)
  | [] => [[]]
  | b :: l => if b = c then [] :: splitOn c l else match splitOn c l with
    | [] => [[b]]
    | x :: r => (b :: x) :: r
theorem splitOn_ne (c : UInt8) : ∀ l, splitOn c l ≠ []
  | [] => by simp [splitOn]
  | b :: l => by
    simp only [splitOn]
    split
    · simp
    · split <;> simp
theorem splitOn_hit (c : UInt8) (l r : List UInt8) (h : c ∉ l) : splitOn c (l ++ c :: r) = l :: splitOn c r := by
  induction l with
  | nil => simp [splitOn]
  | cons b l ih =>
    have hb : b ≠ c := fun e => h (by simp [e])
    simp only [List.cons_append, splitOn, if_neg hb, ih (fun e => h (by simp [e]))]
theorem splitOn_miss (c : UInt8) (l : List UInt8) (h : c ∉ l) : splitOn c l = [l] := by
  induction l with
  | nil => rfl
  | cons b l ih =>
    have hb : b ≠ c := fun e => h (by simp [e])
    simp only [splitOn, if_neg hb, ih (fun e => h (by simp [e]))]
theorem splitOn_snoc_eq (c : UInt8) : ∀ l, splitOn c (l ++ [c]) = splitOn c l ++ [[]]
  | [] => by simp [splitOn]
  | b :: l => by
    simp only [List.cons_append, splitOn, splitOn_snoc_eq c l]
    split
    · rfl
    · have := splitOn_ne c l
      cases h : splitOn c l with
      | nil => exact absurd h this
      | cons x r => rfl
theorem splitOn_snoc_ne (c b : UInt8) (hb : b ≠ c) : ∀ (l : List UInt8) (o : List (List UInt8)) (x : List UInt8), splitOn c l = o ++ [x] → splitOn c (l ++ [b]) = o ++ [x ++ [b]]
  | [], o, x, h => by
    simp only [splitOn] at h
    cases o with
    | nil => simp at h; subst h; simp [splitOn, hb]
    | cons y o => simp at h
  | d :: l, o, x, h => by
    simp only [List.cons_append, splitOn] at h ⊢
    by_cases hd : d = c
    · rw [if_pos hd] at h ⊢
      cases o with
      | nil =>
        simp at h
        exact absurd h.2 (splitOn_ne c l)
      | cons y o =>
        simp only [List.cons_append, List.cons.injEq] at h
        rw [splitOn_snoc_ne c b hb l o x h.2, ← h.1]; rfl
    · rw [if_neg hd] at h ⊢
      cases hs : splitOn c l with
      | nil => exact absurd hs (splitOn_ne c l)
      | cons y r =>
        rw [hs] at h
        simp only at h
        cases o with
        | nil =>
          simp only [List.nil_append, List.cons.injEq] at h
          obtain ⟨h1, h2⟩ := h
          subst h2
          rw [splitOn_snoc_ne c b hb l [] y (by rw [hs]; rfl)]
          simp [← h1]
        | cons z o =>
          simp only [List.cons_append, List.cons.injEq] at h
          obtain ⟨h1, h2⟩ := h
          rw [splitOn_snoc_ne c b hb l (y :: o) x (by rw [hs, h2]; rfl)]
          simp [← h1]
theorem index_one_cons (b c : UInt8) (l : List UInt8) : Lib.index (b :: l) [c] = if b = c then 0 else if Lib.index l [c] = -1 then -1 else Lib.index l [c] + 1 := by
  simp only [Lib.index]
  by_cases h : b = c
  · subst h; simp
  · have : ([c].isPrefixOf (b :: l)) = false := by simp [List.isPrefixOf]; exact fun e => h e.symm
    rw [this, if_neg h]
    simp
theorem index_one (c : UInt8) : ∀ l : List UInt8, (Lib.index l [c] = -1 ∧ c ∉ l) ∨ ∃ a r, l = a ++ c :: r ∧ c ∉ a ∧ Lib.index l [c] = (a.length : Int)
  | [] => .inl ⟨by simp [Lib.index], by simp⟩
  | b :: l => by
    rw [index_one_cons]
    by_cases h : b = c
    · subst h
      exact .inr ⟨[], l, by simp, by simp, by simp⟩
    · rw [if_neg h]
      rcases index_one c l with ⟨h1, h2⟩ | ⟨a, r, rfl, h2, h3⟩
      · rw [if_pos h1]
        exact .inl ⟨rfl, by simp [h2]; exact fun e => h e.symm⟩
      · rw [h3, if_neg (by omega)]
        exact .inr ⟨b :: a, r, rfl, by simp [h2]; exact fun e => h e.symm, by simp⟩
theorem drop_hit (c : UInt8) (a r : List UInt8) : (a ++ c :: r).drop (a.length + 1) = r := by
  rw [← List.drop_drop, List.drop_left]; rfl
theorem splitK_eq (c : UInt8) : ∀ (k : Nat) (s : List UInt8), s.count c = k → Lib.splitK [c] 0 k s = splitOn c s
  | 0, s, h => by
    rw [splitOn_miss c s (List.count_eq_zero.1 h)]; rfl
  | k + 1, s, h => by
    rcases index_one c s with ⟨h1, h2⟩ | ⟨a, r, rfl, h2, h3⟩
    · rw [List.count_eq_zero.2 h2] at h; omega
    · simp only [Lib.splitK, h3]
      rw [if_neg (by simp), splitOn_hit c a r h2]
      have hc : r.count c = k := by
        rw [List.count_append, List.count_eq_zero.2 h2, List.count_cons_self] at h; omega
      have e1 : ((a.length : Int).toNat + 0) = a.length := by omega
      have e2 : ((a.length : Int).toNat + [c].length) = a.length + 1 := by simp
      rw [e1, e2, List.take_left, ← splitK_eq c k r hc]
      congr 2
      exact drop_hit c a r
theorem split_eq (c : UInt8) (s : List UInt8) : Lib.splitK [c] 0 (Lib.count s [c]) s = splitOn c s := splitK_eq c _ s (Lib.count_one c s).symm
theorem cut_eq (c : UInt8) (s : List UInt8) : (Lib.cut s [c] = (s, [], false) ∧ splitOn c s = [s]) ∨ ∃ a r, Lib.cut s [c] = (a, r, true) ∧ splitOn c s = a :: splitOn c r ∧ s.length = a.length + 1 + r.length := by
  rcases index_one c s with ⟨h1, h2⟩ | ⟨a, r, rfl, h2, h3⟩
  · refine .inl ⟨?_, splitOn_miss c s h2⟩
    unfold Lib.cut; rw [h1]; rfl
  · refine .inr ⟨a, r, ?_, splitOn_hit c a r h2, by simp; omega⟩
    unfold Lib.cut
    rw [h3, if_pos (by omega)]
    have e2 : ((a.length : Int).toNat + [c].length) = a.length + 1 := by simp
    rw [e2]
    simp

def mkB (x : List UInt8) : ByteArray := ⟨x.toArray⟩
theorem mkB_data (x : List UInt8) : (mkB x).data.toList = x := by simp [mkB]
theorem mkB_size (x : List UInt8) : (mkB x).size = x.length := by simp [mkB, ByteArray.size]
theorem mkB_toList (x : List UInt8) : (mkB x).toList = x := by rw [ByteArray.toList_eq, mkB_data]
theorem bytes_map : ∀ l : List ByteArray, (l.map (·.data.toList)).map mkB = l
  | [] => rfl
  | b :: l => by
    rw [List.map_cons, List.map_cons, bytes_map l]
    rfl
theorem splitK_ge (c : UInt8) : ∀ (k : Nat) (s : List UInt8), s.count c ≤ k → Lib.splitK [c] 0 k s = splitOn c s
  | 0, s, h => by
    rw [splitOn_miss c s (List.count_eq_zero.1 (by omega))]; rfl
  | k + 1, s, h => by
    rcases index_one c s with ⟨h1, h2⟩ | ⟨a, r, rfl, h2, h3⟩
    · simp only [Lib.splitK, h1]
      rw [splitOn_miss c s h2]; rfl
    · simp only [Lib.splitK, h3]
      rw [if_neg (by simp), splitOn_hit c a r h2]
      have hc : r.count c ≤ k := by
        rw [List.count_append, List.count_eq_zero.2 h2, List.count_cons_self] at h; omega
      have e1 : ((a.length : Int).toNat + 0) = a.length := by omega
      have e2 : ((a.length : Int).toNat + [c].length) = a.length + 1 := by simp
      rw [e1, e2, List.take_left, ← splitK_ge c k r hc]
      congr 2
      exact drop_hit c a r
end Go.Proofs.YthlnhinjcffllaaGreatDoor
