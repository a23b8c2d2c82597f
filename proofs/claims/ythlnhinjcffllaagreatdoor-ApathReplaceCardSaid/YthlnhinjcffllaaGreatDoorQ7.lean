/-
  Plain: access paths, their checks, texts and round trips.
-/
import Derived.Test.YthlnhinjcffllaaGreatDoorQ3
import Derived.Test.YthlnhinjcffllaaGreatDoorQ6
import Derived.Lib.ItoaNum
namespace Go.Proofs.YthlnhinjcffllaaGreatDoor
open Go.RowKit

/-- an access path -/
structure Pth where
  root : Int
  n : Int
  fs : List ByteArray
  star : Bool
def zeroP : Pth := ⟨0, 0, [], false⟩
def pV (p : Pth) (a : Option Addr) (c : Nat) : Value := .agg #[.int .i64 p.root, .int .i64 p.n, .slice a p.fs.length c, .bool p.star]
def mostI (r : Int) : Int := if r = 1 then 6 else if r = 2 then 0 else if r = 3 then 255 else if r = 4 then 1023 else -1
/-- the error of a path -/
def chkE (p : Pth) : Int := if mostI p.root < 0 then 12 else if p.n < 0 ∨ mostI p.root < p.n then 4 else if 2 < p.fs.length then 3 else if p.fs.all identB = true then 0 else 5
theorem chkE_ok {p : Pth} : chkE p = 0 ↔ 0 ≤ mostI p.root ∧ 0 ≤ p.n ∧ p.n ≤ mostI p.root ∧ p.fs.length ≤ 2 ∧ p.fs.all identB = true := by
  unfold chkE
  by_cases h1 : mostI p.root < 0
  · rw [if_pos h1]; constructor
    · intro h; omega
    · intro h; omega
  rw [if_neg h1]
  by_cases h2 : p.n < 0 ∨ mostI p.root < p.n
  · rw [if_pos h2]; constructor
    · intro h; omega
    · intro h; omega
  rw [if_neg h2]
  by_cases h3 : 2 < p.fs.length
  · rw [if_pos h3]; constructor
    · intro h; omega
    · intro h; omega
  rw [if_neg h3]
  by_cases h4 : p.fs.all identB = true
  · rw [if_pos h4]; exact ⟨fun _ => ⟨by omega, by omega, by omega, by omega, h4⟩, fun _ => rfl⟩
  · rw [if_neg h4]; constructor
    · intro h; omega
    · intro h; exact absurd h.2.2.2.2 h4
theorem chkE_field {p : Pth} (h : chkE p = 0) {f : ByteArray} (hf : f ∈ p.fs) : identB f = true := List.all_eq_true.1 (chkE_ok.1 h).2.2.2.2 f hf
/-- the error of a longer path -/
def extE (p : Pth) (f : ByteArray) : Int := if chkE p ≠ 0 then chkE p else if identB f = true then 0 else 5
/-- a longer path -/
def extP (p : Pth) (f : ByteArray) : Pth := if p.star = true then p else if p.fs.length < 2 then ⟨p.root, p.n, p.fs ++ [f], p.star⟩ else ⟨p.root, p.n, p.fs, true⟩
theorem extP_ok {p : Pth} {f : ByteArray} (h : chkE p = 0) (hf : identB f = true) : chkE (extP p f) = 0 := by
  obtain ⟨h1, h2, h3, h4, h5⟩ := chkE_ok.1 h
  unfold extP
  split
  · exact h
  split
  · exact chkE_ok.2 ⟨h1, h2, h3, by simp; omega, by simp [h5, hf]⟩
  · exact chkE_ok.2 ⟨h1, h2, h3, h4, h5⟩
/-- is a list of names the beginning of another one? -/
def preB : List ByteArray → List ByteArray → Bool
  | [], _ => true
  | _ :: _, [] => false
  | x :: a, y :: b => (x.toList == y.toList) && preB a b
theorem toList_inj {a b : ByteArray} (h : a.toList = b.toList) : a = b := by
  rw [ByteArray.toList_eq, ByteArray.toList_eq] at h
  exact WideShapes.bytes_inj h
theorem preB_iff : ∀ {a b : List ByteArray}, preB a b = true ↔ a <+: b
  | [], b => ⟨fun _ => List.nil_prefix, fun _ => rfl⟩
  | x :: a, [] => ⟨fun h => (by cases h), fun h => (by simp at h)⟩
  | x :: a, y :: b => by
    rw [preB, Bool.and_eq_true, preB_iff, List.cons_prefix_cons, beq_iff_eq]
    exact ⟨fun ⟨h1, h2⟩ => ⟨toList_inj h1, h2⟩, fun ⟨h1, h2⟩ => ⟨by rw [h1], h2⟩⟩
/-- the fields are the first fields of another path with this root -/
def begB (a b : Pth) : Bool := (a.root == b.root) && (a.n == b.n) && preB a.fs b.fs
/-- does a path cover another one? -/
def covB (a b : Pth) : Bool := (chkE a == 0) && (chkE b == 0) && begB a b && (a.star || (!b.star && a.fs.length == b.fs.length))
def extAll (q : Pth) (l : List ByteArray) : Pth := l.foldl extP q
def orStar (q : Pth) (b : Bool) : Pth := ⟨q.root, q.n, q.fs, q.star || b⟩
/-- the path that p becomes -/
def repP (p a b : Pth) : Option Pth := if chkE p = 0 ∧ chkE a = 0 ∧ chkE b = 0 ∧ begB a p = true then some (orStar (extAll b (p.fs.drop a.fs.length)) (p.star || a.star)) else none
theorem extAll_ok : ∀ {l : List ByteArray} {q : Pth}, chkE q = 0 → l.all identB = true → chkE (extAll q l) = 0
  | [], q, h, _ => h
  | f :: l, q, h, hl => by
    rw [List.all_cons, Bool.and_eq_true] at hl
    show chkE (extAll (extP q f) l) = 0
    exact extAll_ok (l := l) (q := extP q f) (extP_ok h hl.1) hl.2
theorem extAll_snoc (q : Pth) (l : List ByteArray) (f : ByteArray) : extAll q (l ++ [f]) = extP (extAll q l) f := by simp [extAll]
/-- equal paths -/
def sameP (a b : Pth) : Bool := (a.root == b.root) && (a.n == b.n) && (a.star == b.star) && (a.fs.length == b.fs.length) && preB a.fs b.fs
theorem pre_same {a b : List ByteArray} (h : a.length = b.length) (hp : preB a b = true) : a = b := (preB_iff.1 hp).eq_of_length h
theorem preB_self (a : List ByteArray) : preB a a = true := preB_iff.2 List.prefix_rfl
theorem sameP_self (a : Pth) : sameP a a = true := by simp [sameP, preB_self]
theorem sameP_eq {a b : Pth} (h : sameP a b = true) : a = b := by
  simp only [sameP, Bool.and_eq_true, beq_iff_eq] at h
  obtain ⟨⟨⟨⟨h1, h2⟩, h3⟩, h4⟩, h5⟩ := h
  cases a; cases b
  simp only at h1 h2 h3 h4 h5
  rw [h1, h2, h3, pre_same h4 h5]

-- the order
theorem cov_refl (a : Pth) : covB a a = (chkE a == 0) := by
  unfold covB begB
  rw [preB_self]
  cases a.star <;> simp
theorem cov_trans {a b c : Pth} (h1 : covB a b = true) (h2 : covB b c = true) : covB a c = true := by
  simp only [covB, begB, Bool.and_eq_true, Bool.or_eq_true, beq_iff_eq, Bool.not_eq_true', preB_iff] at h1 h2 ⊢
  obtain ⟨⟨⟨a1, a2⟩, ⟨a3, a4⟩, a5⟩, a6⟩ := h1
  obtain ⟨⟨⟨b1, b2⟩, ⟨b3, b4⟩, b5⟩, b6⟩ := h2
  refine ⟨⟨⟨a1, b2⟩, ⟨a3.trans b3, a4.trans b4⟩, a5.trans b5⟩, ?_⟩
  rcases a6 with h | ⟨h, h'⟩
  · exact .inl h
  · rcases b6 with k | ⟨k, k'⟩
    · rw [k] at h; cases h
    · exact .inr ⟨k, by omega⟩
theorem cov_anti {a b : Pth} (h1 : covB a b = true) (h2 : covB b a = true) : a = b := by
  simp only [covB, begB, Bool.and_eq_true, Bool.or_eq_true, beq_iff_eq, Bool.not_eq_true', preB_iff] at h1 h2
  obtain ⟨⟨⟨a1, a2⟩, ⟨a3, a4⟩, a5⟩, a6⟩ := h1
  obtain ⟨⟨⟨b1, b2⟩, ⟨b3, b4⟩, b5⟩, b6⟩ := h2
  have e : a.fs = b.fs := a5.eq_of_length (Nat.le_antisymm a5.length_le b5.length_le)
  have es : a.star = b.star := by
    rcases a6 with h | ⟨h, _⟩ <;> rcases b6 with k | ⟨k, _⟩
    · rw [h, k]
    · rw [h] at k; cases k
    · rw [k] at h; cases h
    · rw [h, k]
  cases a; cases b
  simp only at a3 a4 e es
  rw [a3, a4, e, es]
/-- a path covers its extension exactly if it has a star -/
theorem cov_ext {a : Pth} {f : ByteArray} (h : chkE a = 0) (hf : identB f = true) : covB a (extP a f) = a.star := by
  have hx := extP_ok h hf
  unfold covB begB
  rw [h, hx]
  unfold extP
  cases hs : a.star
  · by_cases hl : a.fs.length < 2
    · simp only [Bool.false_eq_true, if_false, hl, if_true]
      simp
    · simp only [Bool.false_eq_true, if_false, hl]
      simp
  · simp [hs, preB_self]
/-- the extension covers the path only if it has a star -/
theorem ext_cov {a : Pth} {f : ByteArray} (h : covB (extP a f) a = true) : (extP a f).star = true := by
  cases hs : (extP a f).star with
  | true => rfl
  | false =>
    exfalso
    simp only [covB, hs, Bool.and_eq_true, Bool.or_eq_true, beq_iff_eq, Bool.not_eq_true', Bool.false_eq_true, false_or] at h
    obtain ⟨_, h1, h2⟩ := h
    unfold extP at hs h2
    rw [if_neg (by simp [h1])] at hs h2
    by_cases hl : a.fs.length < 2
    · rw [if_pos hl] at h2
      simp at h2
    · rw [if_neg hl] at hs
      cases hs
theorem extAll_room : ∀ {l : List ByteArray} {q : Pth}, q.star = false → q.fs.length + l.length ≤ 2 → extAll q l = ⟨q.root, q.n, q.fs ++ l, false⟩
  | [], q, hs, _ => by cases q; simp only at hs; simp [extAll, hs]
  | f :: l, q, hs, hl => by
    simp only [List.length_cons] at hl
    show extAll (extP q f) l = _
    have e : extP q f = ⟨q.root, q.n, q.fs ++ [f], false⟩ := by
      unfold extP
      rw [if_neg (by simp [hs]), if_pos (by omega), hs]
    rw [e, extAll_room rfl (by simp; omega)]
    simp
theorem extAll_star : ∀ {l : List ByteArray} {q : Pth}, q.star = true → extAll q l = q
  | [], _, _ => rfl
  | f :: l, q, hs => by
    show extAll (extP q f) l = _
    have e : extP q f = q := by unfold extP; rw [if_pos hs]
    rw [e]
    exact extAll_star hs
/-- the beginning of a path replaced by itself -/
theorem rep_self {a b q : Pth} (h : repP b a a = some q) : q = if a.star = true then a else b := by
  unfold repP at h
  split at h
  · rename_i hc
    obtain ⟨h1, h2, _, h3⟩ := hc
    simp only [begB, Bool.and_eq_true, beq_iff_eq, preB_iff] at h3
    obtain ⟨⟨e1, e2⟩, e3⟩ := h3
    cases h
    obtain ⟨t, ht⟩ := e3
    have hd : b.fs.drop a.fs.length = t := by rw [← ht]; simp
    have hl : b.fs.length ≤ 2 := (chkE_ok.1 h1).2.2.2.1
    rw [hd]
    cases hs : a.star with
    | true =>
      rw [extAll_star hs, if_pos rfl]
      cases a
      simp only at hs
      subst hs
      simp [orStar]
    | false =>
      rw [extAll_room hs (by rw [← List.length_append, ht]; exact hl), if_neg (by simp)]
      cases b
      simp only at e1 e2 ht
      simp [orStar, e1, e2, ht]
  · cases h
end Go.Proofs.YthlnhinjcffllaaGreatDoor
