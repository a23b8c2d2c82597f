/-
  Plain: numbers in decimal, texts of paths, and what Parse computes.
-/
import Derived.Test.YthlnhinjcffllaaGreatDoorQ7
namespace Go.Proofs.YthlnhinjcffllaaGreatDoor
open Go.RowKit

def digC (c : UInt8) : Bool := decide (48 ≤ c.toNat) && decide (c.toNat ≤ 57)
def numL (l : List UInt8) : Nat := l.foldl (fun n c => 10 * n + (c.toNat - 48)) 0
theorem numL_snoc (l : List UInt8) (c : UInt8) : numL (l ++ [c]) = 10 * numL l + (c.toNat - 48) := by simp [numL]
theorem dig_toNat {d : Nat} (h : d < 10) : (UInt8.ofNat (48 + d)).toNat = 48 + d := by
  rw [UInt8.toNat_ofNat']; omega
theorem num_dec (u : Nat) : numL (Lib.decDigits u) = u := by
  induction u using Nat.strongRecOn with
  | _ u ih =>
    rw [Lib.decDigits]
    by_cases h : u < 10
    · rw [dif_pos h]
      have := dig_toNat h
      simp only [numL, List.foldl_cons, List.foldl_nil, this]; omega
    · rw [dif_neg h, numL_snoc, ih _ (by omega), dig_toNat (Nat.mod_lt _ (by omega))]; omega
theorem dec_dig (u : Nat) : ∀ c ∈ Lib.decDigits u, digC c = true := by
  induction u using Nat.strongRecOn with
  | _ u ih =>
    rw [Lib.decDigits]
    have key : ∀ d, d < 10 → digC (UInt8.ofNat (48 + d)) = true := fun d hd => by
      unfold digC; rw [dig_toNat hd]; simp; omega
    by_cases h : u < 10
    · rw [dif_pos h]
      intro c hc
      rw [List.mem_singleton.1 hc]; exact key u h
    · rw [dif_neg h]
      intro c hc
      rcases List.mem_append.1 hc with hc | hc
      · exact ih _ (by omega) c hc
      · rw [List.mem_singleton.1 hc]; exact key _ (Nat.mod_lt _ (by omega))
theorem dec_len (u : Nat) (h : u < 10000) : (Lib.decDigits u).length ≤ 4 := by
  rw [Lib.decDigits_length]
  have key : ∀ k u : Nat, u < 10 ^ (k + 1) → Lib.nDigits u ≤ k + 1 := by
    intro k
    induction k with
    | zero => intro u h; rw [Lib.nDigits_small (by simpa using h)]; omega
    | succ k ih =>
      intro u h
      by_cases h10 : u < 10
      · rw [Lib.nDigits_small h10]; omega
      · rw [Lib.nDigits_big h10]
        have := ih (u / 10) (by rw [Nat.pow_succ] at h; omega)
        omega
  exact key 3 u h
theorem dec_ne (u : Nat) : Lib.decDigits u ≠ [] := by
  intro h
  have := congrArg List.length h
  rw [Lib.decDigits_length] at this
  have := Lib.nDigits_pos u
  simp at *; omega
theorem dec_head (u : Nat) : 1 < (Lib.decDigits u).length → (Lib.decDigits u).head? ≠ some 48 := by
  induction u using Nat.strongRecOn with
  | _ u ih =>
    rw [Lib.decDigits]
    by_cases h : u < 10
    · rw [dif_pos h]; intro h; simp at h
    · rw [dif_neg h]
      intro _
      have hne := dec_ne (u / 10)
      have hh : (Lib.decDigits (u / 10) ++ [UInt8.ofNat (48 + u % 10)]).head? = (Lib.decDigits (u / 10)).head? := by
        cases hd : Lib.decDigits (u / 10) with
        | nil => exact absurd hd hne
        | cons a l => rfl
      rw [hh]
      by_cases h1 : 1 < (Lib.decDigits (u / 10)).length
      · exact ih _ (by omega) h1
      · by_cases h2 : u / 10 < 10
        · rw [Lib.decDigits, dif_pos h2]
          intro e
          have e : UInt8.ofNat (48 + u / 10) = 48 := by simpa using e
          have := congrArg UInt8.toNat e
          rw [dig_toNat h2] at this
          have h48 : (48 : UInt8).toNat = 48 := rfl
          rw [h48] at this
          omega
        · exfalso
          rw [Lib.decDigits, dif_neg h2] at h1
          have := dec_ne (u / 10 / 10)
          have hl : 0 < (Lib.decDigits (u / 10 / 10)).length := List.length_pos_iff.2 this
          rw [List.length_append, List.length_singleton] at h1
          omega
theorem num_pos : ∀ (l : List UInt8), (∀ c ∈ l, digC c = true) → l ≠ [] → l.head? ≠ some 48 → 1 ≤ numL l := by
  intro l
  induction hn : l.length generalizing l with
  | zero => intro _ h; exact absurd (List.length_eq_zero_iff.1 hn) h
  | succ n ih =>
    intro hd hne hh
    obtain ⟨m, c, rfl⟩ : ∃ m c, l = m ++ [c] := ⟨l.dropLast, l.getLast hne, (List.dropLast_concat_getLast hne).symm⟩
    rw [numL_snoc]
    by_cases hm : m = []
    · subst hm
      have hc := hd c (by simp)
      simp only [digC, Bool.and_eq_true, decide_eq_true_eq] at hc
      have : c.toNat ≠ 48 := fun e => hh (by
        have : c = 48 := UInt8.toNat_inj.1 e
        subst this; rfl)
      omega
    · have := ih m (by simp at hn; omega) (fun c hc => hd c (by simp [hc])) hm (by
        cases m with
        | nil => exact absurd rfl hm
        | cons a m => simpa using hh)
      omega
theorem dec_num : ∀ (l : List UInt8), (∀ c ∈ l, digC c = true) → l ≠ [] → (1 < l.length → l.head? ≠ some 48) → Lib.decDigits (numL l) = l := by
  intro l
  induction hn : l.length generalizing l with
  | zero => intro _ h; exact absurd (List.length_eq_zero_iff.1 hn) h
  | succ n ih =>
    intro hd hne hh
    obtain ⟨m, c, rfl⟩ : ∃ m c, l = m ++ [c] := ⟨l.dropLast, l.getLast hne, (List.dropLast_concat_getLast hne).symm⟩
    have hc := hd c (by simp)
    simp only [digC, Bool.and_eq_true, decide_eq_true_eq] at hc
    have hcc : UInt8.ofNat (48 + (c.toNat - 48)) = c := by
      apply UInt8.toNat_inj.1
      rw [dig_toNat (by omega)]; omega
    rw [numL_snoc, Lib.decDigits]
    by_cases hm : m = []
    · subst hm
      rw [dif_pos (by simp [numL]; omega)]
      simp only [numL, List.foldl_nil, Nat.mul_zero, Nat.zero_add, hcc, List.nil_append]
    · have hhm : m.head? ≠ some 48 := by
        have := hh (by have := List.length_pos_iff.2 hm; rw [List.length_append, List.length_singleton] at hn; omega)
        cases m with
        | nil => exact absurd rfl hm
        | cons a m => simpa using this
      have hp := num_pos m (fun c hc => hd c (by simp [hc])) hm hhm
      rw [dif_neg (by omega), show (10 * numL m + (c.toNat - 48)) / 10 = numL m by omega, show (10 * numL m + (c.toNat - 48)) % 10 = c.toNat - 48 by omega, hcc]
      rw [ih m (by simp at hn; omega) (fun c hc => hd c (by simp [hc])) hm (fun _ => hhm)]

def argW : List UInt8 := [97, 114, 103]
def varW : List UInt8 := [118, 97, 114]
def siteW : List UInt8 := [115, 105, 116, 101]
def resW : List UInt8 := [114, 101, 115, 117, 108, 116]
/-- the kind of a root that a word begins with, and the rest -/
def kindOf (w : List UInt8) : Int × List UInt8 := if w.take 3 = argW then (1, w.drop 3) else if w.take 3 = varW then (3, w.drop 3) else if w.take 4 = siteW then (4, w.drop 4) else (0, [])
def numOk (d : List UInt8) : Bool := !d.isEmpty && decide (d.length ≤ 9) && !(decide (1 < d.length) && d.head? == some 48) && d.all digC
/-- the root that a word is -/
def rootOf (w : List UInt8) : Option (Int × Int) := if w = resW then some (2, 0) else if numOk (kindOf w).2 = true then some ((kindOf w).1, (numL (kindOf w).2 : Int)) else none
/-- the text of a root -/
def rootL (r n : Int) : List UInt8 := if r = 1 then argW ++ Lib.decDigits n.toNat else if r = 3 then varW ++ Lib.decDigits n.toNat else if r = 4 then siteW ++ Lib.decDigits n.toNat else resW
def fldL (l : List ByteArray) : List UInt8 := (l.map (fun f => 46 :: f.data.toList)).flatten
/-- the text of a path -/
def textL (p : Pth) : List UInt8 := rootL p.root p.n ++ fldL p.fs ++ (if p.star = true then [42] else [])
def unS (s : List UInt8) : Bool × List UInt8 := if s.getLast? = some 42 then (true, s.dropLast) else (false, s)
def badW (w : List UInt8) : Bool := w.isEmpty || w.contains 42
/-- the path of words -/
def pathW (st : Bool) : List (List UInt8) → Int × Pth
  | [] => (2, zeroP)
  | w :: ws => match rootOf w with
    | none => (2, zeroP)
    | some kn => if ws.any badW = true then (2, zeroP) else if chkE ⟨kn.1, kn.2, ws.map mkB, st⟩ = 0 then (0, ⟨kn.1, kn.2, ws.map mkB, st⟩) else (chkE ⟨kn.1, kn.2, ws.map mkB, st⟩, zeroP)
/-- what Parse computes -/
def parseP (s : List UInt8) : Int × Pth := if 65536 < s.length then (3, zeroP) else pathW (unS s).1 (splitOn 46 (unS s).2)

theorem numOk_iff {d : List UInt8} : numOk d = true ↔ d ≠ [] ∧ d.length ≤ 9 ∧ (1 < d.length → d.head? ≠ some 48) ∧ ∀ c ∈ d, digC c = true := by
  unfold numOk
  simp only [Bool.and_eq_true, Bool.not_eq_true', List.isEmpty_eq_false_iff, decide_eq_true_eq, Bool.and_eq_false_imp, beq_eq_false_iff_ne, List.all_eq_true]
  exact ⟨fun ⟨⟨⟨h1, h2⟩, h3⟩, h4⟩ => ⟨h1, h2, h3, h4⟩, fun ⟨h1, h2, h3, h4⟩ => ⟨⟨⟨h1, h2⟩, h3⟩, h4⟩⟩
theorem dec_ok {n : Nat} (h : n < 10000) : numOk (Lib.decDigits n) = true := numOk_iff.2 ⟨dec_ne n, by have := dec_len n h; omega, dec_head n, dec_dig n⟩
theorem root_text {r n : Int} (h0 : 0 ≤ mostI r) (h1 : 0 ≤ n) (h2 : n ≤ mostI r) : rootOf (rootL r n) = some (r, n) := by
  have hn : n.toNat < 10000 := by unfold mostI at h2; repeat' split at h2 <;> omega
  have hk := dec_ok hn
  have hnum : ((numL (Lib.decDigits n.toNat) : Nat) : Int) = n := by rw [num_dec]; omega
  unfold mostI at h0 h2
  by_cases r1 : r = 1
  · subst r1
    have e : kindOf (argW ++ Lib.decDigits n.toNat) = (1, Lib.decDigits n.toNat) := by
      unfold kindOf argW
      simp
    rw [rootL, if_pos rfl, rootOf, if_neg (by simp [argW, resW]), e]
    simp only [hk, if_true, hnum]
  rw [if_neg r1] at h0 h2
  by_cases r2 : r = 2
  · subst r2
    simp only [if_true] at h2
    obtain rfl : n = 0 := by omega
    rfl
  rw [if_neg r2] at h0 h2
  by_cases r3 : r = 3
  · subst r3
    have e : kindOf (varW ++ Lib.decDigits n.toNat) = (3, Lib.decDigits n.toNat) := by
      unfold kindOf varW argW
      simp
    rw [rootL, if_neg r1, if_pos rfl, rootOf, if_neg (by simp [varW, resW]), e]
    simp only [hk, if_true, hnum]
  rw [if_neg r3] at h0 h2
  by_cases r4 : r = 4
  · subst r4
    have e : kindOf (siteW ++ Lib.decDigits n.toNat) = (4, Lib.decDigits n.toNat) := by
      unfold kindOf siteW varW argW
      simp
    rw [rootL, if_neg r1, if_neg r3, if_pos rfl, rootOf, if_neg (by simp [siteW, resW]), e]
    simp only [hk, if_true, hnum]
  · rw [if_neg r4] at h0; omega
theorem take_drop_eq {w a : List UInt8} {k : Nat} (h : w.take k = a) : w = a ++ w.drop k := by rw [← h, List.take_append_drop]
theorem text_root {w : List UInt8} {r n : Int} (h : rootOf w = some (r, n)) : rootL r n = w := by
  unfold rootOf at h
  by_cases hw : w = resW
  · rw [if_pos hw] at h
    cases h
    rw [hw]; rfl
  rw [if_neg hw] at h
  split at h
  · rename_i hk
    obtain ⟨h1, h2, h3, h4⟩ := numOk_iff.1 hk
    have hd := dec_num _ h4 h1 h3
    simp only [Option.some.injEq, Prod.mk.injEq] at h
    obtain ⟨rfl, rfl⟩ := h
    have e : ((numL (kindOf w).2 : Nat) : Int).toNat = numL (kindOf w).2 := by omega
    unfold rootL
    rw [e, hd]
    unfold kindOf at hk ⊢
    by_cases k1 : w.take 3 = argW
    · rw [if_pos k1]
      simp only [if_true]
      exact (take_drop_eq k1).symm
    rw [if_neg k1] at hk ⊢
    by_cases k2 : w.take 3 = varW
    · rw [if_pos k2]
      exact (take_drop_eq k2).symm
    rw [if_neg k2] at hk ⊢
    by_cases k3 : w.take 4 = siteW
    · rw [if_pos k3]
      exact (take_drop_eq k3).symm
    · rw [if_neg k3] at hk
      cases hk
  · cases h

theorem split_join (c : UInt8) : ∀ (l w : List UInt8) (ws : List (List UInt8)), splitOn c l = w :: ws → l = w ++ (ws.map (fun f => c :: f)).flatten
  | [], w, ws, h => by
    simp only [splitOn, List.cons.injEq] at h
    obtain ⟨rfl, rfl⟩ := h
    rfl
  | b :: l, w, ws, h => by
    simp only [splitOn] at h
    by_cases hb : b = c
    · rw [if_pos hb] at h
      simp only [List.cons.injEq] at h
      obtain ⟨rfl, rfl⟩ := h
      subst hb
      cases hs : splitOn b l with
      | nil => exact absurd hs (splitOn_ne b l)
      | cons x r =>
        have := split_join b l x r hs
        simp only [List.nil_append, List.map_cons, List.flatten_cons, List.cons_append]
        rw [← this]
    · rw [if_neg hb] at h
      cases hs : splitOn c l with
      | nil => exact absurd hs (splitOn_ne c l)
      | cons x r =>
        rw [hs] at h
        simp only [List.cons.injEq] at h
        obtain ⟨rfl, rfl⟩ := h
        rw [List.cons_append, ← split_join c l x r hs]
theorem split_words (c : UInt8) : ∀ (ws : List (List UInt8)) (w : List UInt8), c ∉ w → (∀ x ∈ ws, c ∉ x) → splitOn c (w ++ (ws.map (fun f => c :: f)).flatten) = w :: ws
  | [], w, h, _ => by simpa using splitOn_miss c w h
  | x :: ws, w, h, hx => by
    rw [List.map_cons, List.flatten_cons, List.cons_append, splitOn_hit c w _ h, split_words c ws x (hx x (by simp)) (fun y hy => hx y (by simp [hy]))]
theorem ident_bytes {s : ByteArray} (h : identB s = true) : s.size ≤ 32 ∧ 0 < s.size ∧ (∀ c ∈ s.data.toList, partI c.toNat = true) := by
  simp only [identB, Bool.and_eq_true, decide_eq_true_eq, List.all_eq_true] at h
  exact ⟨h.1.1.1.2, h.1.1.1.1, h.1.2⟩
theorem part_no {c : UInt8} (h : partI c.toNat = true) : c ≠ 46 ∧ c ≠ 42 := by
  refine ⟨?_, ?_⟩ <;> rintro rfl <;> exact absurd h (by decide)
theorem dig_no {c : UInt8} (h : digC c = true) : c ≠ 46 ∧ c ≠ 42 := by
  refine ⟨?_, ?_⟩ <;> rintro rfl <;> exact absurd h (by decide)
theorem root_no (r n : Int) : ∀ c ∈ rootL r n, c ≠ 46 ∧ c ≠ 42 := by
  intro c hc
  have d := dec_dig n.toNat
  have key : ∀ (a : List UInt8), (∀ c ∈ a, c ≠ 46 ∧ c ≠ 42) → c ∈ a ++ Lib.decDigits n.toNat → c ≠ 46 ∧ c ≠ 42 := fun a ha hm => by
    rcases List.mem_append.1 hm with h | h
    · exact ha c h
    · exact dig_no (d c h)
  unfold rootL at hc
  split at hc
  · exact key argW (by decide) hc
  split at hc
  · exact key varW (by decide) hc
  split at hc
  · exact key siteW (by decide) hc
  · exact (show ∀ c ∈ resW, c ≠ 46 ∧ c ≠ 42 by decide) c hc
theorem mkB_self (s : ByteArray) : mkB s.data.toList = s := WideShapes.bytes_inj (mkB_data _)
theorem map_mkB (l : List ByteArray) : (l.map (·.data.toList)).map mkB = l := bytes_map l
theorem fldL_eq (l : List ByteArray) : fldL l = ((l.map (·.data.toList)).map (fun f => 46 :: f)).flatten := by
  unfold fldL; rw [List.map_map]; rfl
theorem unS_text (b : List UInt8) (st : Bool) (h : (42 : UInt8) ∉ b) : unS (b ++ (if st = true then [42] else [])) = (st, b) := by
  unfold unS
  cases st with
  | true => simp
  | false =>
    simp only [Bool.false_eq_true, if_false, List.append_nil]
    rw [if_neg]
    intro e
    exact h (List.mem_of_getLast? e)
theorem unS_inv {s : List UInt8} {st : Bool} {b : List UInt8} (h : unS s = (st, b)) : s = b ++ (if st = true then [42] else []) := by
  unfold unS at h
  split at h
  · rename_i hl
    simp only [Prod.mk.injEq] at h
    obtain ⟨rfl, rfl⟩ := h
    have hne : s ≠ [] := fun e => by subst e; cases hl
    have := List.dropLast_concat_getLast hne
    rw [List.getLast?_eq_some_getLast hne] at hl
    rw [if_pos rfl, ← Option.some.inj hl, this]
  · simp only [Prod.mk.injEq] at h
    obtain ⟨rfl, rfl⟩ := h
    simp
/-- a path is parsed from its text -/
theorem parse_text {p : Pth} (h : chkE p = 0) : parseP (textL p) = (0, p) := by
  obtain ⟨h1, h2, h3, h4, h5⟩ := chkE_ok.1 h
  have hid : ∀ f ∈ p.fs, identB f = true := fun f hf => chkE_field h hf
  have hr := root_no p.root p.n
  have hroot := root_text h1 h2 h3
  have hf46 : ∀ x ∈ p.fs.map (·.data.toList), (46 : UInt8) ∉ x := by
    intro x hx hm
    obtain ⟨f, hf, rfl⟩ := List.mem_map.1 hx
    exact (part_no ((ident_bytes (hid f hf)).2.2 46 hm)).1 rfl
  have hf42 : ∀ f ∈ p.fs, (42 : UInt8) ∉ f.data.toList := fun f hf hm => (part_no ((ident_bytes (hid f hf)).2.2 42 hm)).2 rfl
  have hb : (42 : UInt8) ∉ rootL p.root p.n ++ fldL p.fs := by
    intro hm
    rcases List.mem_append.1 hm with hm | hm
    · exact (hr 42 hm).2 rfl
    · unfold fldL at hm
      obtain ⟨x, hx, hm⟩ := List.mem_flatten.1 hm
      obtain ⟨f, hf, rfl⟩ := List.mem_map.1 hx
      rcases List.mem_cons.1 hm with e | hm
      · exact absurd e (by decide)
      · exact hf42 f hf hm
  have hlen : (textL p).length ≤ 65536 := by
    unfold textL
    have l1 : (rootL p.root p.n).length ≤ 8 := by
      have hn : p.n.toNat < 10000 := by unfold mostI at h3; repeat' split at h3 <;> omega
      have := dec_len _ hn
      unfold rootL
      repeat' split
      all_goals simp [argW, varW, siteW, resW]
      all_goals omega
    have l2 : (fldL p.fs).length ≤ 33 * p.fs.length := by
      have : ∀ l : List ByteArray, (∀ f ∈ l, identB f = true) → (fldL l).length ≤ 33 * l.length := by
        intro l
        induction l with
        | nil => intro _; simp [fldL]
        | cons f l ih =>
          intro hl
          have := ih (fun g hg => hl g (by simp [hg]))
          have hs := (ident_bytes (hl f (by simp))).1
          have hs' : f.data.toList.length ≤ 32 := by simpa using hs
          simp only [fldL, List.map_cons, List.flatten_cons, List.length_append, List.length_cons] at this ⊢
          omega
      exact this p.fs hid
    rw [List.length_append, List.length_append]
    split
    · simp; omega
    · simp; omega
  unfold parseP
  rw [if_neg (by omega), textL, unS_text _ _ hb]
  simp only
  rw [fldL_eq, split_words 46 _ _ (fun hm => (hr 46 hm).1 rfl) hf46]
  simp only [pathW, hroot, map_mkB]
  rw [if_neg, if_pos h]
  rw [Bool.not_eq_true, List.any_eq_false]
  intro x hx
  obtain ⟨f, hf, rfl⟩ := List.mem_map.1 hx
  have hs := (ident_bytes (hid f hf)).2.1
  have : f.data.toList ≠ [] := fun e => by
    have h9 := congrArg List.length e
    rw [Array.length_toList, List.length_nil] at h9
    have hz : f.size = f.data.size := rfl
    omega
  simp only [badW, Bool.or_eq_true, List.isEmpty_iff, List.contains_iff_mem, not_or]
  exact ⟨this, hf42 f hf⟩
/-- what is parsed is the text of its path -/
theorem text_parse {s : List UInt8} {p : Pth} (h : parseP s = (0, p)) : textL p = s ∧ chkE p = 0 := by
  unfold parseP at h
  split at h
  · simp at h
  obtain ⟨st, b, hu⟩ : ∃ st b, unS s = (st, b) := ⟨_, _, rfl⟩
  rw [hu] at h
  simp only at h
  cases hs : splitOn 46 b with
  | nil => exact absurd hs (splitOn_ne 46 b)
  | cons w ws =>
    rw [hs] at h
    simp only [pathW] at h
    cases hr : rootOf w with
    | none => rw [hr] at h; simp at h
    | some kn =>
      rw [hr] at h
      simp only at h
      split at h
      · simp at h
      split at h
      · rename_i hc
        simp only [Prod.mk.injEq, true_and] at h
        subst h
        refine ⟨?_, hc⟩
        have e1 := split_join 46 b w ws hs
        have e2 := unS_inv hu
        have e3 : rootL kn.1 kn.2 = w := text_root (by rw [hr])
        have e4 : (ws.map mkB).map (·.data.toList) = ws := by
          rw [List.map_map]
          have : ((fun x : ByteArray => x.data.toList) ∘ mkB) = id := by funext x; exact mkB_data x
          rw [this, List.map_id]
        unfold textL
        simp only
        rw [fldL_eq, e4, e3, ← e1, ← e2]
      · rename_i hc
        simp only [Prod.mk.injEq] at h
        exact absurd h.1 hc
theorem parse_bad {s : List UInt8} (h : (parseP s).1 ≠ 0) : (parseP s).2 = zeroP := by
  unfold parseP at h ⊢
  split
  · rfl
  rename_i hs
  rw [if_neg hs] at h
  revert h
  cases splitOn 46 (unS s).2 with
  | nil => intro _; rfl
  | cons w ws =>
    simp only [pathW]
    cases rootOf w with
    | none => intro _; rfl
    | some kn =>
      simp only
      split
      · intro _; rfl
      split
      · intro h; exact absurd rfl h
      · intro _; rfl
end Go.Proofs.YthlnhinjcffllaaGreatDoor
