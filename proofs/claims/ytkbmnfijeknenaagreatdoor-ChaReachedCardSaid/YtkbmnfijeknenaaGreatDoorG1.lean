/-
  Plain: call edges, their graph, and what they reach.
-/
import Derived.Test.YtkbmnfijeknenaaGreatDoorUA
namespace Go.Unit0
/-- a call edge -/
structure Cal where
  f : Int
  i : Int
  c : Int
abbrev Edg := Int × Int
def rightC (n : Nat) (e : Cal) : Bool := decide (0 ≤ e.f ∧ e.f < n ∧ 0 ≤ e.c ∧ e.c < n)
theorem rightC_iff {n : Nat} {e : Cal} : rightC n e = true ↔ 0 ≤ e.f ∧ e.f < n ∧ 0 ≤ e.c ∧ e.c < n := by simp [rightC]
theorem ord_unique {α : Type} {lt : α → α → Prop} (hi : ∀ a, ¬ lt a a) (ht : ∀ a b c, lt a b → lt b c → lt a c) : ∀ (a b : List α), a.Pairwise lt → b.Pairwise lt → (∀ x, x ∈ a ↔ x ∈ b) → a = b
  | [], [], _, _, _ => rfl
  | [], y :: b, _, _, h => absurd ((h y).2 (by simp)) (by simp)
  | x :: a, [], _, _, h => absurd ((h x).1 (by simp)) (by simp)
  | x :: a, y :: b, ha, hb, h => by
    rw [List.pairwise_cons] at ha hb
    have hxy : x = y := by
      rcases List.mem_cons.1 ((h x).1 (by simp)) with e | e
      · exact e
      · rcases List.mem_cons.1 ((h y).2 (by simp)) with e2 | e2
        · exact e2.symm
        · exact absurd (ht _ _ _ (hb.1 x e) (ha.1 y e2)) (hi _)
    subst hxy
    rw [ord_unique hi ht a b ha.2 hb.2 fun z => ?_]
    constructor
    · intro hz
      rcases List.mem_cons.1 ((h z).1 (List.mem_cons_of_mem _ hz)) with e | e
      · subst e; exact absurd (ha.1 z hz) (hi _)
      · exact e
    · intro hz
      rcases List.mem_cons.1 ((h z).2 (List.mem_cons_of_mem _ hz)) with e | e
      · subst e; exact absurd (hb.1 z hz) (hi _)
      · exact e
theorem perm_erase {α : Type} : ∀ {l : List α} {j : Nat} {p : α}, l[j]? = some p → l.Perm (p :: l.eraseIdx j)
  | [], j, p, h => by simp at h
  | a :: l, 0, p, h => by
    simp at h
    subst h
    exact .refl _
  | a :: l, j + 1, p, h => by
    have ih := perm_erase (l := l) (j := j) (by simpa using h)
    exact (ih.cons a).trans (List.Perm.swap _ _ _)
-- edges in order
def ltE (a b : Edg) : Prop := a.1 < b.1 ∨ (a.1 = b.1 ∧ a.2 < b.2)
theorem ltE_irrefl (a : Edg) : ¬ ltE a a := by unfold ltE; omega
theorem ltE_trans (a b c : Edg) (h1 : ltE a b) (h2 : ltE b c) : ltE a c := by unfold ltE at *; omega
theorem ltE_total {a b : Edg} (h1 : ¬ ltE a b) (h2 : a ≠ b) : ltE b a := by
  unfold ltE at *
  have : ¬ (a.1 = b.1 ∧ a.2 = b.2) := fun h => h2 (Prod.ext h.1 h.2)
  omega
/-- an edge of the graph -/
def edgeIn (n : Nat) (l : List Cal) (e : Edg) : Prop := ∃ c ∈ l, rightC n c = true ∧ e = (c.f, c.c)
theorem edgeIn.range {n : Nat} {l : List Cal} {e : Edg} (h : edgeIn n l e) : 0 ≤ e.1 ∧ e.1 < n ∧ 0 ≤ e.2 ∧ e.2 < n := by
  obtain ⟨c, _, hr, rfl⟩ := h
  exact rightC_iff.1 hr
def GraphL (n : Nat) (l : List Cal) (L : List Edg) : Prop := L.Pairwise ltE ∧ ∀ e, e ∈ L ↔ edgeIn n l e
theorem graph_unique {n : Nat} {l : List Cal} {L M : List Edg} (h : GraphL n l L) (k : GraphL n l M) : L = M :=
  ord_unique ltE_irrefl ltE_trans L M h.1 k.1 fun x => (h.2 x).trans (k.2 x).symm
theorem graph_sorted {n : Nat} {l : List Cal} {Ls Ld : List Edg} (hn : Ls.Nodup) (hm : ∀ e, e ∈ Ls ↔ edgeIn n l e) (hp : Ld.Perm Ls) (hs : Ld.Pairwise (fun a b => ¬ ltE b a)) : GraphL n l Ld := by
  refine ⟨?_, fun e => (hp.mem_iff).trans (hm e)⟩
  have hn2 : Ld.Nodup := hp.nodup_iff.2 hn
  have := List.pairwise_and_iff.2 ⟨hs, hn2⟩
  exact this.imp (fun h => ltE_total h.1 (Ne.symm h.2))
-- what is reached
inductive Rch (n : Nat) (l : List Cal) (S : Int → Prop) : Int → Prop
  | base {x : Int} : S x → Rch n l S x
  | step {c : Cal} : c ∈ l → rightC n c = true → Rch n l S c.f → Rch n l S c.c
def mainS (n : Nat) (m x : Int) : Prop := x = m ∧ 0 ≤ m ∧ m < n
def ReachL (n : Nat) (l : List Cal) (m : Int) (L : List Int) : Prop := L.Pairwise (· < ·) ∧ ∀ x, x ∈ L ↔ Rch n l (mainS n m) x
theorem reach_unique {n : Nat} {l : List Cal} {m : Int} {L M : List Int} (h : ReachL n l m L) (k : ReachL n l m M) : L = M :=
  ord_unique (fun a => Int.lt_irrefl a) (fun _ _ _ => Int.lt_trans) L M h.1 k.1 fun x => (h.2 x).trans (k.2 x).symm
theorem Rch.range {n : Nat} {l : List Cal} {S : Int → Prop} (hS : ∀ x, S x → 0 ≤ x ∧ x < n) {x : Int} (h : Rch n l S x) : 0 ≤ x ∧ x < n := by
  induction h with
  | base h => exact hS _ h
  | step _ hr _ _ => have := rightC_iff.1 hr; exact ⟨this.2.2.1, this.2.2.2⟩
theorem Rch.congr {n : Nat} {l : List Cal} {S T : Int → Prop} (h : ∀ x, S x ↔ T x) (x : Int) : Rch n l S x ↔ Rch n l T x := by
  constructor
  · intro k
    induction k with
    | base h0 => exact .base ((h _).1 h0)
    | step hc hr _ ih => exact .step hc hr ih
  · intro k
    induction k with
    | base h0 => exact .base ((h _).2 h0)
    | step hc hr _ ih => exact .step hc hr ih
-- marks
/-- the number x is marked -/
def At (bs : List Bool) (x : Int) : Prop := 0 ≤ x ∧ bs[x.toNat]? = some true
theorem at_set {bs : List Bool} {k : Nat} (hk : k < bs.length) (x : Int) : At (bs.set k true) x ↔ x = k ∨ At bs x := by
  unfold At
  rw [List.getElem?_set]
  constructor
  · rintro ⟨h0, h1⟩
    by_cases e : k = x.toNat
    · left; omega
    · rw [if_neg e] at h1; exact .inr ⟨h0, h1⟩
  · rintro (rfl | ⟨h0, h1⟩)
    · refine ⟨by omega, ?_⟩
      rw [if_pos (by omega), if_pos hk]
    · refine ⟨h0, ?_⟩
      by_cases e : k = x.toNat
      · rw [if_pos e, if_pos hk]
      · rw [if_neg e]; exact h1
theorem at_none {n : Nat} (x : Int) : ¬ At (List.replicate n false) x := by
  rintro ⟨_, h⟩
  rw [List.getElem?_replicate] at h
  split at h <;> simp at h
theorem at_lt {bs : List Bool} {x : Int} (h : At bs x) : 0 ≤ x ∧ x < bs.length := by
  have := (List.getElem?_eq_some_iff.1 h.2).1
  exact ⟨h.1, by have := h.1; omega⟩
theorem at_dec {bs : List Bool} {k : Nat} (hk : k < bs.length) : (At bs k ↔ bs[k] = true) := by
  unfold At
  rw [Int.toNat_natCast, List.getElem?_eq_getElem hk]
  simp
def cntF (bs : List Bool) : Nat := bs.count false
theorem cntF_set : ∀ {bs : List Bool} {k : Nat}, bs[k]? = some false → cntF (bs.set k true) + 1 = cntF bs
  | [], k, h => by simp at h
  | b :: bs, 0, h => by
    simp at h
    subst h
    simp [cntF]
  | b :: bs, k + 1, h => by
    have ih := cntF_set (bs := bs) (k := k) (by simpa using h)
    unfold cntF at *
    rw [List.set_cons_succ, List.count_cons, List.count_cons]
    omega
def markT (bs : List Bool) (k : Nat) : List Int := ((List.range k).filter (fun i => bs[i]? == some true)).map (fun i : Nat => (i : Int))
def marked (bs : List Bool) : List Int := markT bs bs.length
theorem markT_z (bs : List Bool) : markT bs 0 = [] := rfl
theorem markT_t {bs : List Bool} {k : Nat} (h : bs[k]? = some true) : markT bs (k + 1) = markT bs k ++ [(k : Int)] := by
  unfold markT
  rw [List.range_succ, List.filter_append, List.map_append]
  simp [h]
theorem markT_f {bs : List Bool} {k : Nat} (h : bs[k]? = some false) : markT bs (k + 1) = markT bs k := by
  unfold markT
  rw [List.range_succ, List.filter_append, List.map_append]
  simp [h]
theorem markT_len (bs : List Bool) (k : Nat) : (markT bs k).length ≤ k := by
  unfold markT
  rw [List.length_map]
  exact Nat.le_trans (List.length_filter_le _ _) (by simp)
theorem mem_marked {bs : List Bool} {x : Int} : x ∈ marked bs ↔ At bs x := by
  unfold marked markT At
  simp only [List.mem_map, List.mem_filter, List.mem_range]
  constructor
  · rintro ⟨i, ⟨hi, h⟩, rfl⟩
    exact ⟨by omega, by simpa using h⟩
  · rintro ⟨h0, h1⟩
    exact ⟨x.toNat, ⟨(List.getElem?_eq_some_iff.1 h1).1, by simpa using h1⟩, by omega⟩
theorem marked_lt (bs : List Bool) : (marked bs).Pairwise (· < ·) := by
  unfold marked markT
  rw [List.pairwise_map]
  exact (List.pairwise_lt_range.filter _).imp (fun h => Int.ofNat_lt.2 h)
-- closures of marks
structure CI (n : Nat) (l : List Cal) (bs bs' : List Bool) : Prop where
  len : bs'.length = bs.length
  mono : ∀ x, At bs x → At bs' x
  min : ∀ x, At bs' x → Rch n l (At bs) x
theorem CI.refl (n : Nat) (l : List Cal) (bs : List Bool) : CI n l bs bs := ⟨rfl, fun _ h => h, fun _ h => .base h⟩
theorem CI.step {n : Nat} {l : List Cal} {bs bs' : List Bool} {c : Cal} (h : CI n l bs bs') (hc : c ∈ l) (hr : rightC n c = true) (hn : bs.length = n) (ha : At bs' c.f) : CI n l bs (bs'.set c.c.toNat true) := by
  have hr' := rightC_iff.1 hr
  have hk : c.c.toNat < bs'.length := by rw [h.len]; omega
  refine ⟨by rw [List.length_set, h.len], fun x hx => (at_set hk x).2 (.inr (h.mono x hx)), fun x hx => ?_⟩
  rcases (at_set hk x).1 hx with e | e
  · obtain rfl : x = c.c := by omega
    exact .step hc hr (h.min _ ha)
  · exact h.min _ e
def ClosedB (n : Nat) (l : List Cal) (bs : List Bool) : Prop := ∀ c ∈ l, rightC n c = true → At bs c.f → At bs c.c
theorem ClosedB.nil (n : Nat) (bs : List Bool) : ClosedB n [] bs := fun _ h => by cases h
theorem ClosedB.snoc {n : Nat} {l : List Cal} {c : Cal} {bs : List Bool} (h : ClosedB n l bs) (hc : rightC n c = true → At bs c.f → At bs c.c) : ClosedB n (l ++ [c]) bs := fun d hd => by
  rcases List.mem_append.1 hd with hd | hd
  · exact h d hd
  · rw [List.mem_singleton.1 hd]; exact hc
theorem CI.done {n : Nat} {l : List Cal} {bs bs' : List Bool} (h : CI n l bs bs') (hc : ClosedB n l bs') (x : Int) : At bs' x ↔ Rch n l (At bs) x := ⟨h.min x, fun hx => by
  induction hx with
  | base h0 => exact h.mono _ h0
  | step hcm hr _ ih => exact hc _ hcm hr ih⟩
-- the reference's graph
def RowA (n : Nat) (l : List Cal) (a : Int) (bs : List Bool) : Prop := bs.length = n ∧ ∀ x, At bs x ↔ ∃ c ∈ l, rightC n c = true ∧ c.f = a ∧ c.c = x
theorem rowA_nil (n : Nat) (a : Int) : RowA n [] a (List.replicate n false) := ⟨by simp, fun x => ⟨fun h => absurd h (at_none x), fun ⟨c, h, _⟩ => (by cases h)⟩⟩
theorem rowA_t {n : Nat} {l : List Cal} {a : Int} {bs : List Bool} {c : Cal} (h : RowA n l a bs) (hr : rightC n c = true) (hf : c.f = a) : RowA n (l ++ [c]) a (bs.set c.c.toNat true) := by
  have hr' := rightC_iff.1 hr
  have hk : c.c.toNat < bs.length := by rw [h.1]; omega
  refine ⟨by rw [List.length_set, h.1], fun x => ?_⟩
  rw [at_set hk x, h.2 x]
  constructor
  · rintro (e | ⟨d, hd, h1, h2, h3⟩)
    · exact ⟨c, by simp, hr, hf, by omega⟩
    · exact ⟨d, by simp [hd], h1, h2, h3⟩
  · rintro ⟨d, hd, h1, h2, h3⟩
    rcases List.mem_append.1 hd with hd | hd
    · exact .inr ⟨d, hd, h1, h2, h3⟩
    · rw [List.mem_singleton.1 hd] at h3; left; omega
theorem rowA_f {n : Nat} {l : List Cal} {a : Int} {bs : List Bool} {c : Cal} (h : RowA n l a bs) (hn : ¬ (rightC n c = true ∧ c.f = a)) : RowA n (l ++ [c]) a bs := by
  refine ⟨h.1, fun x => ?_⟩
  rw [h.2 x]
  constructor
  · rintro ⟨d, hd, h1, h2, h3⟩
    exact ⟨d, by simp [hd], h1, h2, h3⟩
  · rintro ⟨d, hd, h1, h2, h3⟩
    rcases List.mem_append.1 hd with hd | hd
    · exact ⟨d, hd, h1, h2, h3⟩
    · rw [List.mem_singleton.1 hd] at h1 h2; exact absurd ⟨h1, h2⟩ hn
/-- the edges of the first a functions -/
structure GI (n : Nat) (l : List Cal) (a : Nat) (L : List Edg) : Prop where
  st : L.Pairwise ltE
  mem : ∀ e, e ∈ L ↔ edgeIn n l e ∧ e.1 < a
  len : L.length ≤ a * n
theorem GI.nil (n : Nat) (l : List Cal) : GI n l 0 [] := by
  refine ⟨.nil, fun e => ⟨fun h => absurd h List.not_mem_nil, fun h => ?_⟩, by simp⟩
  have h2 := h.1.range
  have h3 := h.2
  omega
theorem GI.step {n : Nat} {l : List Cal} {a : Nat} {L : List Edg} {bs : List Bool} (h : GI n l a L) (hr : RowA n l a bs) : GI n l (a + 1) (L ++ (marked bs).map (fun b => ((a : Int), b))) := by
  refine ⟨?_, fun e => ?_, ?_⟩
  · rw [List.pairwise_append]
    refine ⟨h.st, ?_, fun x hx y hy => ?_⟩
    · rw [List.pairwise_map]
      exact (marked_lt bs).imp (fun h => .inr ⟨rfl, h⟩)
    · obtain ⟨b, _, rfl⟩ := List.mem_map.1 hy
      exact .inl ((h.mem x).1 hx).2
  · rw [List.mem_append, h.mem e, List.mem_map]
    constructor
    · rintro (⟨h1, h2⟩ | ⟨b, hb, rfl⟩)
      · exact ⟨h1, by omega⟩
      · obtain ⟨c, hc, h1, h2, h3⟩ := (hr.2 b).1 (mem_marked.1 hb)
        exact ⟨⟨c, hc, h1, by rw [h2, h3]⟩, by show (a : Int) < _; omega⟩
    · rintro ⟨h1, h2⟩
      by_cases e1 : e.1 < a
      · exact .inl ⟨h1, e1⟩
      · obtain ⟨c, hc, hr', rfl⟩ := h1
        have e2 : c.f = a := by have : c.f < ((a + 1 : Nat) : Int) := h2; have : ¬ c.f < (a : Int) := e1; omega
        exact .inr ⟨c.c, mem_marked.2 ((hr.2 _).2 ⟨c, hc, hr', e2, rfl⟩), by rw [e2]⟩
  · rw [List.length_append, List.length_map, Nat.add_mul]
    have h1 := markT_len bs bs.length
    have h2 := hr.1
    have h3 := h.len
    have h4 : (marked bs).length ≤ bs.length := h1
    omega
theorem GI.done {n : Nat} {l : List Cal} {L : List Edg} (h : GI n l n L) : GraphL n l L := ⟨h.st, fun e => (h.mem e).trans ⟨fun h => h.1, fun h => ⟨h, h.range.2.1⟩⟩⟩
-- the program's lists of callees
def adjL (n : Nat) (L : List Edg) : List (List Int) := (List.range n).map (fun f : Nat => (L.filter (fun e => e.1 == (f : Int))).map (·.2))
theorem adjL_len (n : Nat) (L : List Edg) : (adjL n L).length = n := by simp [adjL]
theorem adjL_get {n : Nat} {L : List Edg} {f : Nat} (hf : f < n) : (adjL n L)[f]'(by rw [adjL_len]; exact hf) = (L.filter (fun e => e.1 == (f : Int))).map (·.2) := by simp [adjL]
theorem adjL_nil (n : Nat) : adjL n [] = List.replicate n [] := by
  apply List.ext_getElem (by simp [adjL])
  intro i h1 h2
  simp [adjL]
theorem adjL_snoc {n : Nat} {L : List Edg} {e : Edg} {f : Nat} (hf : f < n) (he : e.1 = f) : adjL n (L ++ [e]) = (adjL n L).set f ((adjL n L)[f]'(by rw [adjL_len]; exact hf) ++ [e.2]) := by
  apply List.ext_getElem (by simp [adjL])
  intro i h1 h2
  rw [List.getElem_set]
  have hi : i < n := by simpa [adjL] using h1
  rw [adjL_get hi]
  by_cases h : f = i
  · subst h
    rw [if_pos rfl, adjL_get hf, List.filter_append, List.map_append]
    simp [he]
  · rw [if_neg h, adjL_get hi, List.filter_append, List.map_append]
    have : ¬ e.1 = (i : Int) := by omega
    simp [this]
theorem adjL_mem {n : Nat} {L : List Edg} {f : Nat} (hf : f < n) (x : Int) : x ∈ (adjL n L)[f]'(by rw [adjL_len]; exact hf) ↔ ((f : Int), x) ∈ L := by
  rw [adjL_get hf]
  simp only [List.mem_map, List.mem_filter]
  constructor
  · rintro ⟨e, ⟨h1, h2⟩, rfl⟩
    have : e.1 = (f : Int) := by simpa using h2
    rw [← this]; exact h1
  · intro h
    exact ⟨_, ⟨h, by simp⟩, rfl⟩
theorem adjL_small {n : Nat} {L : List Edg} {f : Nat} (hf : f < n) : ((adjL n L)[f]'(by rw [adjL_len]; exact hf)).length ≤ L.length := by
  rw [adjL_get hf, List.length_map]
  exact List.length_filter_le _ _
-- the program's search
/-- found: S; still to be looked at: T, and function x from its q-th callee on -/
structure RI (n : Nat) (l : List Cal) (m : Int) (S T : List Int) : Prop where
  nd : S.Nodup
  sub : ∀ x ∈ T, x ∈ S
  rch : ∀ x ∈ S, Rch n l (mainS n m) x
  base : m ∈ S
theorem RI.start {n : Nat} {l : List Cal} {m : Int} (h0 : 0 ≤ m) (h1 : m < n) : RI n l m [m] [m] := ⟨by simp, fun _ h => h, fun x hx => by rw [List.mem_singleton.1 hx]; exact .base ⟨rfl, h0, h1⟩, by simp⟩
/-- all that S reaches is in S, but through T -/
def ClosT (n : Nat) (l : List Cal) (S : List Int) (T : Int → Prop) : Prop := ∀ c ∈ l, rightC n c = true → c.f ∈ S → ¬ T c.f → c.c ∈ S
theorem RI.range {n : Nat} {l : List Cal} {m : Int} {S T : List Int} (h : RI n l m S T) {x : Int} (hx : x ∈ S) : 0 ≤ x ∧ x < n := (h.rch x hx).range (fun _ h => by obtain ⟨rfl, h1, h2⟩ := h; exact ⟨h1, h2⟩)
theorem RI.done {n : Nat} {l : List Cal} {m : Int} {S : List Int} (h : RI n l m S []) (hc : ClosT n l S (fun _ => False)) (x : Int) : x ∈ S ↔ Rch n l (mainS n m) x := ⟨h.rch x, fun hx => by
  induction hx with
  | base hb => rw [hb.1]; exact h.base
  | step hcm hr _ ih => exact hc _ hcm hr ih (fun h => h)⟩
end Go.Unit0
