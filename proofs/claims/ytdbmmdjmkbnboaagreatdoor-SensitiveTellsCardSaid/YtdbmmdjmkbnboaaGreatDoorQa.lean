/-
  Plain: lists in an order: elements put in one by one; sorted and compacted.
-/
import Derived.RowKit
import Derived.Lib.SlicesCompact
namespace Go.Proofs.YtdbmmdjmkbnboaaGreatDoor
open Go.RowKit

theorem ord_unique {α : Type} {lt : α → α → Prop} (hi : ∀ a, ¬ lt a a) (ht : ∀ a b c, lt a b → lt b c → lt a c) : ∀ (a b : List α), a.Pairwise lt → b.Pairwise lt → (∀ x, x ∈ a ↔ x ∈ b) → a = b
  | [], [], _, _, _ => rfl
  | [], y :: b, _, _, h => absurd ((h y).2 (by simp)) (by simp)
  | x :: a, [], _, _, h => absurd ((h x).1 (by simp)) (by simp)
  | x :: a, y :: b, ha, hb, h => by
    rw [List.pairwise_cons] at ha hb
    have hxy : x = y := by
      rcases List.mem_cons.1 ((h x).1 (by simp)) with e | e
      · exact e
      · rcases List.mem_cons.1 ((h y).2 (by simp)) with e2 | e2
        · exact e2.symm
        · exact absurd (ht _ _ _ (hb.1 x e) (ha.1 y e2)) (hi _)
    subst hxy
    rw [ord_unique hi ht a b ha.2 hb.2 fun z => ?_]
    constructor
    · intro hz
      rcases List.mem_cons.1 ((h z).1 (List.mem_cons_of_mem _ hz)) with e | e
      · subst e; exact absurd (ha.1 z hz) (hi _)
      · exact e
    · intro hz
      rcases List.mem_cons.1 ((h z).2 (List.mem_cons_of_mem _ hz)) with e | e
      · subst e; exact absurd (hb.1 z hz) (hi _)
      · exact e

structure OrdOK {α : Type} (lt : α → α → Prop) : Prop where
  irrefl : ∀ a, ¬ lt a a
  trans : ∀ a b c, lt a b → lt b c → lt a c
  total : ∀ a b, ¬ lt a b → ¬ lt b a → a = b
section
variable {α : Type} [DecidableEq α] {lt : α → α → Prop} [DecidableRel lt]
/-- put in -/
def oPut (lt : α → α → Prop) [DecidableRel lt] : List α → α → List α
  | [], c => [c]
  | x :: l, c => if lt x c then x :: oPut lt l c else if x = c then x :: l else c :: x :: l
theorem oPut_mem (c y : α) : ∀ l : List α, y ∈ oPut lt l c ↔ y = c ∨ y ∈ l
  | [] => by simp [oPut]
  | x :: l => by
    unfold oPut
    split
    · rw [List.mem_cons, oPut_mem c y l, List.mem_cons]
      constructor
      · rintro (h | h | h) <;> simp [h]
      · rintro (h | h | h) <;> simp [h]
    · split
      · rename_i e
        subst e
        simp
      · rw [List.mem_cons]
theorem oPut_asc (h : OrdOK lt) (c : α) : ∀ l : List α, l.Pairwise lt → (oPut lt l c).Pairwise lt
  | [], _ => by simp [oPut]
  | x :: l, hl => by
    unfold oPut
    have h' := List.pairwise_cons.1 hl
    split
    · rename_i h1
      refine List.pairwise_cons.2 ⟨fun y hy => ?_, oPut_asc h c l h'.2⟩
      rcases (oPut_mem c y l).1 hy with e | e
      · rw [e]; exact h1
      · exact h'.1 y e
    · split
      · exact hl
      · rename_i h1 h2
        have h3 : lt c x := by
          by_cases h4 : lt c x
          · exact h4
          · exact absurd (h.total _ _ h1 h4) h2
        refine List.pairwise_cons.2 ⟨fun y hy => ?_, hl⟩
        rcases List.mem_cons.1 hy with e | e
        · rw [e]; exact h3
        · exact h.trans _ _ _ h3 (h'.1 y e)
theorem oPut_len (c : α) : ∀ l : List α, (oPut lt l c).length ≤ l.length + 1
  | [] => by simp [oPut]
  | x :: l => by
    unfold oPut
    have := oPut_len c l
    split
    · simp; omega
    · split <;> simp
theorem oPut_same (h : OrdOK lt) (c : α) : ∀ (l : List α) (k : Nat) (_ : ∀ j (hj : j < l.length), j < k → lt l[j] c) (hk : k < l.length), l[k] = c → oPut lt l c = l
  | [], k, _, hk, _ => by simp at hk
  | x :: l, 0, _, _, e => by
    have e' : x = c := by simpa using e
    subst e'
    unfold oPut
    rw [if_neg (h.irrefl _), if_pos rfl]
  | x :: l, k + 1, hl, hk, e => by
    unfold oPut
    rw [if_pos (show lt x c from hl 0 (by simp) (by omega)), oPut_same h c l k (fun j hj hjk => hl (j + 1) (by simpa using hj) (by omega)) (by simpa using hk) (by simpa using e)]
theorem oPut_new (c : α) : ∀ (l : List α) (k : Nat) (_ : ∀ j (hj : j < l.length), j < k → lt l[j] c) (_ : k ≤ l.length) (_ : ∀ hk : k < l.length, ¬ lt l[k] c ∧ l[k] ≠ c), oPut lt l c = l.take k ++ [c] ++ l.drop k
  | [], 0, _, _, _ => by simp [oPut]
  | [], k + 1, _, hk, _ => by simp at hk
  | x :: l, 0, _, _, e => by
    have := e (by simp)
    unfold oPut
    rw [if_neg (by simpa using this.1), if_neg (by simpa using this.2)]
    simp
  | x :: l, k + 1, h, hk, e => by
    unfold oPut
    rw [if_pos (show lt x c from h 0 (by simp) (by omega)), oPut_new c l k (fun j hj hjk => h (j + 1) (by simpa using hj) (by omega)) (by simpa using hk) (fun hk => show ¬ lt l[k] c ∧ l[k] ≠ c from e (by simpa using hk))]
    simp
/-- all put in -/
def oPuts (lt : α → α → Prop) [DecidableRel lt] (a b : List α) : List α := b.foldl (oPut lt) a
theorem oPuts_mem (y : α) : ∀ (b a : List α), y ∈ oPuts lt a b ↔ y ∈ a ∨ y ∈ b
  | [], a => by simp [oPuts]
  | c :: b, a => by
    show y ∈ oPuts lt (oPut lt a c) b ↔ _
    rw [oPuts_mem y b, oPut_mem, List.mem_cons]
    constructor
    · rintro ((h | h) | h) <;> simp [h]
    · rintro (h | h | h) <;> simp [h]
theorem oPuts_asc (h : OrdOK lt) : ∀ (b a : List α), a.Pairwise lt → (oPuts lt a b).Pairwise lt
  | [], _, ha => ha
  | c :: b, a, ha => oPuts_asc h b (oPut lt a c) (oPut_asc h c a ha)
theorem oPuts_len : ∀ (b a : List α), (oPuts lt a b).length ≤ a.length + b.length
  | [], a => by simp [oPuts]
  | c :: b, a => by
    show (oPuts lt (oPut lt a c) b).length ≤ _
    have h1 := oPuts_len b (oPut lt a c)
    have h2 := oPut_len (lt := lt) c a
    simp; omega
theorem oPuts_snoc (a b : List α) (c : α) : oPuts lt a (b ++ [c]) = oPut lt (oPuts lt a b) c := by unfold oPuts; rw [List.foldl_append]; rfl
theorem oPuts_app (a b c : List α) : oPuts lt a (b ++ c) = oPuts lt (oPuts lt a b) c := by unfold oPuts; rw [List.foldl_append]
variable [Inhabited α]
theorem oCompact_strict (h : OrdOK lt) (d : Array α) (hd : ∀ i j, i < j → j < d.size → ¬ lt d[j]! d[i]!) : ∀ m, m ≤ d.size → (Lib.compactUpTo d m).Pairwise lt ∧ (∀ x, x ∈ Lib.compactUpTo d m ↔ ∃ j, j < m ∧ d[j]! = x)
  | 0, _ => ⟨by simp [Lib.compactUpTo], fun x => by simp [Lib.compactUpTo]⟩
  | m + 1, hm => by
    obtain ⟨h1, h2⟩ := oCompact_strict h d hd m (by omega)
    rw [Lib.compactUpTo_succ]
    cases hk : Lib.keeps d m with
    | true =>
      rw [if_pos rfl]
      have hlt : ∀ x ∈ Lib.compactUpTo d m, lt x d[m]! := fun x hx => by
        obtain ⟨j, hj, rfl⟩ := (h2 x).1 hx
        have hk' : m = 0 ∨ d[m]! ≠ d[m - 1]! := by simpa [Lib.keeps] using hk
        rcases hk' with e | e
        · omega
        · have h4 : lt d[m - 1]! d[m]! := by
            by_cases h5 : lt d[m - 1]! d[m]!
            · exact h5
            · exact absurd (h.total _ _ (hd (m - 1) m (by omega) (by omega)) h5) e
          by_cases e3 : j = m - 1
          · rw [e3]; exact h4
          · have h6 := hd j (m - 1) (by omega) (by omega)
            by_cases h7 : lt d[j]! d[m - 1]!
            · exact h.trans _ _ _ h7 h4
            · rw [h.total _ _ h7 h6]; exact h4
      refine ⟨?_, fun x => ?_⟩
      · rw [List.pairwise_append]
        exact ⟨h1, by simp, fun a ha b hb => by rw [List.mem_singleton.1 hb]; exact hlt a ha⟩
      · rw [List.mem_append, h2, List.mem_singleton]
        constructor
        · rintro (⟨j, hj, e⟩ | e)
          · exact ⟨j, by omega, e⟩
          · exact ⟨m, by omega, e.symm⟩
        · rintro ⟨j, hj, e⟩
          by_cases e2 : j < m
          · exact .inl ⟨j, e2, e⟩
          · obtain rfl : j = m := by omega
            exact .inr e.symm
    | false =>
      rw [if_neg (by simp), List.append_nil]
      refine ⟨h1, fun x => ?_⟩
      rw [h2]
      have hk' : m ≠ 0 ∧ d[m]! = d[m - 1]! := by simpa [Lib.keeps] using hk
      constructor
      · rintro ⟨j, hj, e⟩; exact ⟨j, by omega, e⟩
      · rintro ⟨j, hj, e⟩
        by_cases e2 : j < m
        · exact ⟨j, e2, e⟩
        · obtain rfl : j = m := by omega
          exact ⟨j - 1, by omega, by rw [← hk'.2]; exact e⟩
/-- a sorted list, compacted -/
theorem oCompact_spec (h : OrdOK lt) (L : List α) (hs : L.Pairwise (fun a b => ¬ lt b a)) : (Lib.compact L).Pairwise lt ∧ ∀ x, x ∈ Lib.compact L ↔ x ∈ L := by
  have hd : ∀ i j, i < j → j < L.toArray.size → ¬ lt L.toArray[j]! L.toArray[i]! := fun i j hij hj => by
    have hj' : j < L.length := by simpa using hj
    rw [getElem!_pos _ i (by simp; omega), getElem!_pos _ j (by simpa using hj)]
    simpa using List.pairwise_iff_getElem.1 hs i j (by omega) hj' hij
  obtain ⟨h1, h2⟩ := oCompact_strict h L.toArray hd L.length (by simp)
  refine ⟨h1, fun x => ?_⟩
  refine (h2 x).trans ?_
  constructor
  · rintro ⟨j, hj, rfl⟩
    rw [getElem!_pos _ j (by simpa using hj)]; simp
  · intro hx
    obtain ⟨j, hj, rfl⟩ := List.getElem_of_mem hx
    exact ⟨j, hj, by rw [getElem!_pos _ j (by simpa using hj)]; simp⟩
/-- put in one by one is: sorted and compacted -/
theorem oPuts_compact (h : OrdOK lt) (l L : List α) (hp : L.Perm l) (hs : L.Pairwise (fun a b => ¬ lt b a)) : oPuts lt [] l = Lib.compact L :=
  ord_unique h.irrefl h.trans _ _ (oPuts_asc h l [] List.Pairwise.nil) (oCompact_spec h L hs).1 (fun x => by rw [oPuts_mem, (oCompact_spec h L hs).2, hp.mem_iff]; simp)
theorem oCompact_len (L : List α) : (Lib.compact L).length ≤ L.length := by
  have h : (Lib.compactUpTo L.toArray L.length).length ≤ L.length := by
    unfold Lib.compactUpTo
    rw [List.length_map]
    have := List.length_filter_le (Lib.keeps L.toArray) (List.range L.length)
    simpa using this
  exact h
end
-- numbers
theorem ordInt : OrdOK (fun a b : Int => a < b) := ⟨fun a h => by omega, fun a b c h1 h2 => by omega, fun a b h1 h2 => by omega⟩
-- lists of numbers
def cmpL : List Int → List Int → Int
  | [], [] => 0
  | [], _ :: _ => -1
  | _ :: _, [] => 1
  | x :: a, y :: b => if x < y then -1 else if y < x then 1 else cmpL a b
theorem cmpL_eq : ∀ {a b : List Int}, cmpL a b = 0 → a = b
  | [], [], _ => rfl
  | [], _ :: _, h => by simp [cmpL] at h
  | _ :: _, [], h => by simp [cmpL] at h
  | x :: a, y :: b, h => by
    unfold cmpL at h
    split at h
    · omega
    · split at h
      · omega
      · rw [cmpL_eq h, show x = y by omega]
theorem cmpL_refl : ∀ a : List Int, cmpL a a = 0
  | [] => rfl
  | x :: a => by unfold cmpL; rw [if_neg (by omega), if_neg (by omega), cmpL_refl a]
theorem cmpL_neg : ∀ a b : List Int, cmpL b a = - cmpL a b
  | [], [] => rfl
  | [], _ :: _ => rfl
  | _ :: _, [] => rfl
  | x :: a, y :: b => by
    unfold cmpL
    by_cases h1 : x < y
    · rw [if_pos h1, if_neg (by omega), if_pos h1]; rfl
    · by_cases h2 : y < x
      · rw [if_pos h2, if_neg h1, if_pos h2]
      · rw [if_neg h1, if_neg h2, if_neg h2, if_neg h1, cmpL_neg a b]
theorem cmpL_trans : ∀ {a b c : List Int}, cmpL a b < 0 → cmpL b c < 0 → cmpL a c < 0
  | [], [], _, h, _ => by simp [cmpL] at h
  | [], _ :: _, [], _, h => by simp [cmpL] at h
  | [], _ :: _, _ :: _, _, _ => by simp [cmpL]
  | _ :: _, [], _, h, _ => by simp [cmpL] at h
  | _ :: _, _ :: _, [], _, h => by simp [cmpL] at h
  | x :: a, y :: b, z :: c, h1, h2 => by
    unfold cmpL at *
    by_cases e1 : x < y
    · by_cases e2 : y < z
      · rw [if_pos (by omega)]; omega
      · rw [if_neg e2] at h2
        by_cases e3 : z < y
        · rw [if_pos e3] at h2; omega
        · rw [if_pos (by omega)]; omega
    · rw [if_neg e1] at h1
      by_cases e3 : y < x
      · rw [if_pos e3] at h1; omega
      · rw [if_neg e3] at h1
        by_cases e2 : y < z
        · rw [if_pos (by omega)]; omega
        · rw [if_neg e2] at h2
          by_cases e4 : z < y
          · rw [if_pos e4] at h2; omega
          · rw [if_neg e4] at h2
            rw [if_neg (by omega), if_neg (by omega)]
            exact cmpL_trans h1 h2
abbrev ltL (a b : List Int) : Prop := cmpL a b < 0
theorem ordL : OrdOK ltL := ⟨fun a h => by rw [ltL, cmpL_refl] at h; omega, fun a b c h1 h2 => cmpL_trans h1 h2, fun a b h1 h2 => by
  unfold ltL at *
  have := cmpL_neg a b
  exact cmpL_eq (by omega)⟩
-- how far two lists agree
theorem cmpL_drop : ∀ (a b : List Int) (k : Nat), k ≤ a.length → k ≤ b.length → a.take k = b.take k → cmpL a b = cmpL (a.drop k) (b.drop k)
  | _, _, 0, _, _, _ => by simp
  | [], _, k + 1, h, _, _ => by simp at h
  | _ :: _, [], k + 1, _, h, _ => by simp at h
  | x :: a, y :: b, k + 1, h1, h2, e => by
    simp only [List.take_succ_cons, List.cons.injEq] at e
    obtain ⟨rfl, e⟩ := e
    rw [List.drop_succ_cons, List.drop_succ_cons, ← cmpL_drop a b k (by simpa using h1) (by simpa using h2) e]
    show (if x < x then (-1 : Int) else if x < x then 1 else cmpL a b) = _
    rw [if_neg (by omega), if_neg (by omega)]
theorem cmpL_at {a b : List Int} {k : Nat} (h1 : k < a.length) (h2 : k < b.length) (e : a.take k = b.take k) : cmpL a b = if a[k] < b[k] then -1 else if b[k] < a[k] then 1 else cmpL (a.drop (k + 1)) (b.drop (k + 1)) := by
  rw [cmpL_drop a b k (by omega) (by omega) e, List.drop_eq_getElem_cons h1, List.drop_eq_getElem_cons h2]
  rfl
theorem cmpL_end {a b : List Int} {k : Nat} (h1 : k ≤ a.length) (h2 : k ≤ b.length) (e : a.take k = b.take k) (hk : k = a.length ∨ k = b.length) : cmpL a b = if a.length < b.length then -1 else if b.length < a.length then 1 else 0 := by
  rw [cmpL_drop a b k h1 h2 e]
  by_cases e1 : k = a.length
  · by_cases e2 : k = b.length
    · rw [if_neg (by omega), if_neg (by omega), List.drop_eq_nil_of_le (by omega), List.drop_eq_nil_of_le (by omega)]; rfl
    · rw [if_pos (by omega), List.drop_eq_nil_of_le (by omega), List.drop_eq_getElem_cons (show k < b.length by omega)]; rfl
  · have e2 : k = b.length := by omega
    rw [if_neg (by omega), if_pos (by omega), List.drop_eq_nil_of_le (show b.length ≤ k by omega), List.drop_eq_getElem_cons (show k < a.length by omega)]; rfl
end Go.Proofs.YtdbmmdjmkbnboaaGreatDoor
