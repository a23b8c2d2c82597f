/-
  Strings, numbers and places: how they are compared (program and reference), and the error of a place.
-/
import Derived.Test.YtpgmjfnjdgdmcaaDoorP24
import Derived.Laws.Cover1
namespace Go.Proofs.YtpgmjfnjdgdmcaaDoor
open Go.RowKit Go.Sort

def cmpS (a b : ByteArray) : Int := Lib.compareBytes a.data.toList b.data.toList
def cmpI (a b : Int) : Int := Lib.compareInt a b
theorem less_iff : ∀ a b : List UInt8, (Lib.compareBytes a b = -1 ∧ Op.bytesLess a b = true) ∨ (Lib.compareBytes a b = 0 ∧ Op.bytesLess a b = false ∧ (a == b) = true) ∨ (Lib.compareBytes a b = 1 ∧ Op.bytesLess a b = false ∧ (a == b) = false)
  | [], [] => by simp [Lib.compareBytes, Op.bytesLess]
  | [], _ :: _ => by simp [Lib.compareBytes, Op.bytesLess]
  | _ :: _, [] => by simp [Lib.compareBytes, Op.bytesLess]
  | x :: a, y :: b => by
    have ih := less_iff a b
    unfold Lib.compareBytes
    unfold Op.bytesLess
    by_cases h1 : x < y
    · simp [h1]
    · by_cases h2 : y < x
      · have hne : x ≠ y := by rintro rfl; exact h1 h2
        simp [h1, h2, hne]
      · obtain rfl : x = y := UInt8.le_antisymm (UInt8.not_lt.1 h2) (UInt8.not_lt.1 h1)
        simp [h1]
        simpa using ih
theorem cmpS_self (a : ByteArray) : cmpS a a = 0 := by
  unfold cmpS
  rcases less_iff a.data.toList a.data.toList with ⟨h, h2⟩ | ⟨h, _⟩ | ⟨_, _, h⟩
  · exfalso
    have : ∀ l : List UInt8, Lib.compareBytes l l = 0 := by
      intro l
      induction l with
      | nil => rfl
      | cons x l ih => unfold Lib.compareBytes; rw [if_neg (UInt8.lt_irrefl x), if_neg (UInt8.lt_irrefl x), ih]
    rw [this] at h; omega
  · exact h
  · simp at h
theorem cmpI_self (a : Int) : cmpI a a = 0 := by simp [cmpI, Lib.compareInt]
theorem scompare70 (a b : ByteArray) (w : World) : Calls Tryd.prog 70 #[.string a, .string b] w (Same w (.int .i64 (cmpS a b))) :=
  (Tryd.strings_Compare a b w).mono fun _ _ h => ⟨h.1, h.2.symm⟩
theorem icompare69 (a b : Int) (w : World) : Calls Tryd.prog 69 #[.int .i64 a, .int .i64 b] w (Same w (.int .i64 (cmpI a b))) :=
  (Tryd.cmp_Compare_int a b w).mono fun _ _ h => ⟨h.1, h.2.symm⟩
theorem words49 (a b : ByteArray) (w : World) : Calls Tryd.prog 49 #[.string a, .string b] w (Same w (.int .i64 (cmpS a b))) := by
  have h := less_iff a.data.toList b.data.toList
  have e : Lib.compareBytes a.data.toList b.data.toList = cmpS a b := rfl
  rw [e, ← ByteArray.toList_eq, ← ByteArray.toList_eq] at h
  clear e
  rcases h with ⟨h, h1⟩ | ⟨h, h1, h2⟩ | ⟨h, h1, h2⟩
  all_goals
    have H := Lib.hid h; clear h
    go_enter Tryd.func49, Tryd.ntmps49
    go_wp2
    go_ret
    exact ⟨ret_int H.out.symm, rfl⟩
theorem numbers48 (a b : Int) (w : World) : Calls Tryd.prog 48 #[.int .i64 a, .int .i64 b] w (Same w (.int .i64 (cmpI a b))) := by
  by_cases h1 : a < b
  · have H : Hid (cmpI a b = -1) := by show _ = _; unfold cmpI Lib.compareInt; rw [if_pos h1]
    go_enter Tryd.func48, Tryd.ntmps48
    go_wp2
    go_ret
    exact ⟨ret_int H.out.symm, rfl⟩
  · by_cases h2 : b < a
    · have H : Hid (cmpI a b = 1) := by show _ = _; unfold cmpI Lib.compareInt; rw [if_neg h1, if_pos h2]
      go_enter Tryd.func48, Tryd.ntmps48
      go_wp2
      go_ret
      exact ⟨ret_int H.out.symm, rfl⟩
    · have H : Hid (cmpI a b = 0) := by show _ = _; unfold cmpI Lib.compareInt; rw [if_neg h1, if_neg (by omega)]
      go_enter Tryd.func48, Tryd.ntmps48
      go_wp2
      go_ret
      exact ⟨ret_int H.out.symm, rfl⟩

def PlV (p : Pl) : Value := .agg #[.string p.cls, .string p.meth, .int .i64 p.instr]
/-- the first that is not 0 -/
def orC (a b : Int) : Int := if a = 0 then b else a
def cmpP (p q : Pl) : Int := orC (cmpS p.cls q.cls) (orC (cmpS p.meth q.meth) (cmpI p.instr q.instr))
theorem cmpP_self (p : Pl) : cmpP p p = 0 := by simp [cmpP, orC, cmpS_self, cmpI_self]
theorem orC_f {a b : Int} (h : a ≠ 0) : orC a b = a := if_neg h
theorem orC_t {a b : Int} (h : a = 0) : orC a b = b := if_pos h

set_option maxRecDepth 100000 in
set_option maxHeartbeats 1000000 in
theorem cmpPlaces68 (p q : Pl) (w : World) : Calls Tryd.prog 68 #[PlV p, PlV q] w (Ret w (.int .i64 (cmpP p q))) := by
  unfold PlV
  have HB0 := Lib.hid (two_below w (.cells #[.string p.cls, .string p.meth, .int .i64 p.instr] 25) (.cells #[.string q.cls, .string q.meth, .int .i64 q.instr] 25))
  by_cases h1 : cmpS p.cls q.cls = 0
  · have t1 : (cmpS p.cls q.cls != 0) = false := by simp [h1]
    by_cases h2 : cmpS p.meth q.meth = 0
    · have t2 : (cmpS p.meth q.meth != 0) = false := by simp [h2]
      have HF : Hid (cmpP p q = cmpI p.instr q.instr) := by show _ = _; unfold cmpP; rw [orC_t h1, orC_t h2]
      clear h1 h2
      go_enter Tryd.func68, Tryd.ntmps68
      go_wp2_with (first | (go_at_call 70; refine (scompare70 _ _ _).mono ?_; rintro e w' ⟨rfl, rfl⟩) | (go_at_call 69; refine (icompare69 _ _ _).mono ?_; rintro e w' ⟨rfl, rfl⟩))
      go_ret
      exact ⟨ret_int HF.out.symm, HB0.out⟩
    · have t2 : (cmpS p.meth q.meth != 0) = true := by simpa using h2
      have HF : Hid (cmpP p q = cmpS p.meth q.meth) := by show _ = _; unfold cmpP; rw [orC_t h1, orC_f h2]
      clear h1 h2
      go_enter Tryd.func68, Tryd.ntmps68
      go_wp2_with (first | (go_at_call 70; refine (scompare70 _ _ _).mono ?_; rintro e w' ⟨rfl, rfl⟩) | (go_at_call 69; refine (icompare69 _ _ _).mono ?_; rintro e w' ⟨rfl, rfl⟩))
      go_ret
      exact ⟨ret_int HF.out.symm, HB0.out⟩
  · have t1 : (cmpS p.cls q.cls != 0) = true := by simpa using h1
    have HF : Hid (cmpP p q = cmpS p.cls q.cls) := by show _ = _; unfold cmpP; rw [orC_f h1]
    clear h1
    go_enter Tryd.func68, Tryd.ntmps68
    go_wp2_with (first | (go_at_call 70; refine (scompare70 _ _ _).mono ?_; rintro e w' ⟨rfl, rfl⟩) | (go_at_call 69; refine (icompare69 _ _ _).mono ?_; rintro e w' ⟨rfl, rfl⟩))
    go_ret
    exact ⟨ret_int HF.out.symm, HB0.out⟩
set_option maxRecDepth 100000 in
set_option maxHeartbeats 1000000 in
theorem cmpPlaces47 (p q : Pl) (w : World) : Calls Tryd.prog 47 #[PlV p, PlV q] w (Ret w (.int .i64 (cmpP p q))) := by
  unfold PlV
  have HB0 := Lib.hid (two_below w (.cells #[.string p.cls, .string p.meth, .int .i64 p.instr] 25) (.cells #[.string q.cls, .string q.meth, .int .i64 q.instr] 25))
  by_cases h1 : cmpS p.cls q.cls = 0
  · have t1 : (cmpS p.cls q.cls != 0) = false := by simp [h1]
    by_cases h2 : cmpS p.meth q.meth = 0
    · have t2 : (cmpS p.meth q.meth != 0) = false := by simp [h2]
      have HF : Hid (cmpP p q = cmpI p.instr q.instr) := by show _ = _; unfold cmpP; rw [orC_t h1, orC_t h2]
      clear h1 h2
      go_enter Tryd.func47, Tryd.ntmps47
      go_wp2_with (first | (go_at_call 49; refine (words49 _ _ _).mono ?_; rintro e w' ⟨rfl, rfl⟩) | (go_at_call 48; refine (numbers48 _ _ _).mono ?_; rintro e w' ⟨rfl, rfl⟩))
      go_ret
      exact ⟨ret_int HF.out.symm, HB0.out⟩
    · have t2 : (cmpS p.meth q.meth != 0) = true := by simpa using h2
      have HF : Hid (cmpP p q = cmpS p.meth q.meth) := by show _ = _; unfold cmpP; rw [orC_t h1, orC_f h2]
      clear h1 h2
      go_enter Tryd.func47, Tryd.ntmps47
      go_wp2_with (first | (go_at_call 49; refine (words49 _ _ _).mono ?_; rintro e w' ⟨rfl, rfl⟩) | (go_at_call 48; refine (numbers48 _ _ _).mono ?_; rintro e w' ⟨rfl, rfl⟩))
      go_ret
      exact ⟨ret_int HF.out.symm, HB0.out⟩
  · have t1 : (cmpS p.cls q.cls != 0) = true := by simpa using h1
    have HF : Hid (cmpP p q = cmpS p.cls q.cls) := by show _ = _; unfold cmpP; rw [orC_f h1]
    clear h1
    go_enter Tryd.func47, Tryd.ntmps47
    go_wp2_with (first | (go_at_call 49; refine (words49 _ _ _).mono ?_; rintro e w' ⟨rfl, rfl⟩) | (go_at_call 48; refine (numbers48 _ _ _).mono ?_; rintro e w' ⟨rfl, rfl⟩))
    go_ret
    exact ⟨ret_int HF.out.symm, HB0.out⟩

/-- the error of a place -/
def placeE (p : Pl) : Int := if (!identB p.cls || !identB p.meth) = true then 5 else if p.instr < 0 ∨ 1024 ≤ p.instr then 4 else 0
theorem placeE_n {p : Pl} (h : (!identB p.cls || !identB p.meth) = true) : placeE p = 5 := if_pos h
theorem placeE_r {p : Pl} (h : ¬ (!identB p.cls || !identB p.meth) = true) (h2 : p.instr < 0 ∨ 1024 ≤ p.instr) : placeE p = 4 := by unfold placeE; rw [if_neg h, if_pos h2]
theorem placeE_0 {p : Pl} (h : ¬ (!identB p.cls || !identB p.meth) = true) (h2 : ¬ (p.instr < 0 ∨ 1024 ≤ p.instr)) : placeE p = 0 := by unfold placeE; rw [if_neg h, if_neg h2]
theorem rng3 (n : Int) : (decide (n < 0) = true ∧ (n < 0 ∨ 1024 ≤ n)) ∨ (decide (n < 0) = false ∧ decide (1024 ≤ n) = true ∧ (n < 0 ∨ 1024 ≤ n)) ∨ (decide (n < 0) = false ∧ decide (1024 ≤ n) = false ∧ ¬ (n < 0 ∨ 1024 ≤ n)) := by
  by_cases h1 : n < 0
  · exact .inl ⟨decide_eq_true h1, .inl h1⟩
  · by_cases h2 : 1024 ≤ n
    · exact .inr (.inl ⟨decide_eq_false h1, decide_eq_true h2, .inr h2⟩)
    · exact .inr (.inr ⟨decide_eq_false h1, decide_eq_false h2, by omega⟩)

set_option maxRecDepth 100000 in
set_option maxHeartbeats 1000000 in
theorem checkPlace66 (p : Pl) (w : World) (hk : KW w) : Calls Tryd.prog 66 #[PlV p] w (Ret w (.int .i64 (placeE p))) := by
  unfold PlV
  have hb := (Below.refl w.heap.size w).alloc (Nat.le_refl _) (.cells #[.string p.cls, .string p.meth, .int .i64 p.instr] 25)
  have HK := Lib.hid (hk.below hb)
  have HB0 := Lib.hid hb
  clear hb hk
  cases h1 : identB p.cls
  case false =>
    have HF := Lib.hid (placeE_n (p := p) (by rw [h1]; rfl))
    go_enter Tryd.func66, Tryd.ntmps66
    go_wp2_with (go_at_call 24; refine (ident24 _ _ HK.out).mono ?_; rintro e w' ⟨rfl, rfl⟩)
    go_ret
    exact ⟨ret_int HF.out.symm, HB0.out⟩
  cases h2 : identB p.meth
  case false =>
    have HF := Lib.hid (placeE_n (p := p) (by rw [h1, h2]; rfl))
    go_enter Tryd.func66, Tryd.ntmps66
    go_wp2_with (go_at_call 24; refine (ident24 _ _ HK.out).mono ?_; rintro e w' ⟨rfl, rfl⟩)
    go_ret
    exact ⟨ret_int HF.out.symm, HB0.out⟩
  have hn : ¬ (!identB p.cls || !identB p.meth) = true := by rw [h1, h2]; simp
  rcases rng3 p.instr with ⟨r1, r⟩ | ⟨r1, r2, r⟩ | ⟨r1, r2, r⟩
  · have HF := Lib.hid (placeE_r hn r)
    clear r hn
    go_enter Tryd.func66, Tryd.ntmps66
    go_wp2_with (go_at_call 24; refine (ident24 _ _ HK.out).mono ?_; rintro e w' ⟨rfl, rfl⟩)
    go_ret
    exact ⟨ret_int HF.out.symm, HB0.out⟩
  · have HF := Lib.hid (placeE_r hn r)
    clear r hn
    go_enter Tryd.func66, Tryd.ntmps66
    go_wp2_with (go_at_call 24; refine (ident24 _ _ HK.out).mono ?_; rintro e w' ⟨rfl, rfl⟩)
    go_ret
    exact ⟨ret_int HF.out.symm, HB0.out⟩
  · have HF := Lib.hid (placeE_0 hn r)
    clear r hn
    go_enter Tryd.func66, Tryd.ntmps66
    go_wp2_with (go_at_call 24; refine (ident24 _ _ HK.out).mono ?_; rintro e w' ⟨rfl, rfl⟩)
    go_ret
    exact ⟨ret_int HF.out.symm, HB0.out⟩
set_option maxRecDepth 100000 in
set_option maxHeartbeats 1000000 in
theorem checkPlace72 (p : Pl) (w : World) : Calls Tryd.prog 72 #[PlV p] w (Ret w (.int .i64 (placeE p))) := by
  unfold PlV
  have hb := (Below.refl w.heap.size w).alloc (Nat.le_refl _) (.cells #[.string p.cls, .string p.meth, .int .i64 p.instr] 25)
  have B0 : Hid (Blk (w.alloc (.cells #[.string p.cls, .string p.meth, .int .i64 p.instr] 25)) w.heap.size #[.string p.cls, .string p.meth, .int .i64 p.instr] 25) := blk_new _ _ _
  have HB0 := Lib.hid hb
  clear hb
  have hcase : (identB p.cls = false ∧ placeE p = 5) ∨ (identB p.cls = true ∧ identB p.meth = false ∧ placeE p = 5) ∨ (identB p.cls = true ∧ identB p.meth = true ∧ ((decide (p.instr < 0) = true ∧ placeE p = 4) ∨ (decide (p.instr < 0) = false ∧ decide (1024 ≤ p.instr) = true ∧ placeE p = 4) ∨ (decide (p.instr < 0) = false ∧ decide (1024 ≤ p.instr) = false ∧ placeE p = 0))) := by
    cases h1 : identB p.cls
    · exact .inl ⟨rfl, placeE_n (by rw [h1]; rfl)⟩
    cases h2 : identB p.meth
    · exact .inr (.inl ⟨rfl, rfl, placeE_n (by rw [h1, h2]; rfl)⟩)
    have hn : ¬ (!identB p.cls || !identB p.meth) = true := by rw [h1, h2]; simp
    refine .inr (.inr ⟨rfl, rfl, ?_⟩)
    rcases rng3 p.instr with ⟨r1, r⟩ | ⟨r1, r2, r⟩ | ⟨r1, r2, r⟩
    · exact .inl ⟨r1, placeE_r hn r⟩
    · exact .inr (.inl ⟨r1, r2, placeE_r hn r⟩)
    · exact .inr (.inr ⟨r1, r2, placeE_0 hn r⟩)
  go_enter Tryd.func72, Tryd.ntmps72
  go_wp2_with fail
  refine (ident26 _ _).mono ?_
  rintro e w1 ⟨rfl, hb1⟩
  have HB1 := Lib.hid (HB0.out.trans (hb1.mono HB0.out.size))
  have B1 := Lib.hid (B0.out.below hb1)
  clear hb1 B0 HB0
  have c1 : w1.cell? ⟨w.heap.size, 1, none⟩ = some (.string p.meth) := B1.out.cell 1 (by simp)
  have c2 : w1.cell? ⟨w.heap.size, 2, none⟩ = some (.int .i64 p.instr) := B1.out.cell 2 (by simp)
  rcases hcase with ⟨h1, hf⟩ | ⟨h1, h2, hf⟩ | ⟨h1, h2, hc⟩
  · have HF := Lib.hid hf; clear hf
    rw [h1]
    go_wp2
    go_ret
    exact ⟨ret_int HF.out.symm, HB1.out⟩
  all_goals
    rw [h1]
    go_wp2_with fail
    refine (ident26 _ _).mono ?_
    rintro e w2 ⟨rfl, hb2⟩
    have HB2 := Lib.hid (HB1.out.trans (hb2.mono HB1.out.size))
    have d2 : w2.cell? ⟨w.heap.size, 2, none⟩ = some (.int .i64 p.instr) := cell_below hb2 c2
    clear hb2 c1 c2
    rw [h2]
  · have HF := Lib.hid hf; clear hf
    go_wp2
    go_ret
    exact ⟨ret_int HF.out.symm, HB2.out⟩
  rcases hc with ⟨r1, hf⟩ | ⟨r1, r2, hf⟩ | ⟨r1, r2, hf⟩
  all_goals
    have HF := Lib.hid hf; clear hf
    go_wp2
    go_ret
    exact ⟨ret_int HF.out.symm, HB2.out⟩

/-- may a kind have this name? -/
def whatOk (k : Int) (s : ByteArray) : Bool := if k = 2 ∨ k = 3 then identB s else if k = 4 then (s.toList == [116, 114, 117, 101] || s.toList == [102, 97, 108, 115, 101]) else wordOk s
theorem whatOk_word (k : Int) (s : ByteArray) (h : wordOk s = false) : whatOk k s = false := by
  unfold whatOk
  have hw : ¬ (s.size ≥ 1 ∧ s.size ≤ 32 ∧ prB 33 s = true) := by
    rintro ⟨h1, h2, h3⟩
    unfold wordOk at h
    rw [h3, decide_eq_true h1, decide_eq_true h2] at h
    simp at h
  split
  · cases hi : identB s with
    | false => rfl
    | true =>
      exfalso
      simp only [identB, Bool.and_eq_true, decide_eq_true_eq] at hi
      obtain ⟨⟨⟨⟨h1, h2⟩, _⟩, h4⟩, _⟩ := hi
      refine hw ⟨h1, h2, ?_⟩
      unfold prB
      rw [List.all_eq_true] at h4 ⊢
      intro c hc
      have := h4 c hc
      simp only [partI, letterI, digitI, Bool.or_eq_true, Bool.and_eq_true, decide_eq_true_eq, beq_iff_eq] at this
      simp only [prI, Bool.and_eq_true, decide_eq_true_eq]
      omega
  split
  · have key : ∀ l : List UInt8, s.toList = l → wordOk (mkB l) = true → False := by
      intro l hl hb
      have : s = mkB l := WideShapes.bytes_inj (by rw [mkB_data, ← hl, ByteArray.toList_eq])
      rw [this, hb] at h; cases h
    cases h1 : (s.toList == [116, 114, 117, 101]) with
    | true => exact absurd (by simpa using h1) fun e => key _ e (by decide)
    | false =>
      cases h2 : (s.toList == [102, 97, 108, 115, 101]) with
      | true => exact absurd (by simpa using h2) fun e => key _ e (by decide)
      | false => rfl
  · exact h
theorem what4 (k : Int) (s : ByteArray) : ((k == 2) = true ∧ whatOk k s = identB s) ∨ ((k == 2) = false ∧ (k == 3) = true ∧ whatOk k s = identB s) ∨ ((k == 2) = false ∧ (k == 3) = false ∧ (k == 4) = true ∧ whatOk k s = (s.toList == [116, 114, 117, 101] || s.toList == [102, 97, 108, 115, 101])) ∨ ((k == 2) = false ∧ (k == 3) = false ∧ (k == 4) = false ∧ whatOk k s = wordOk s) := by
  unfold whatOk
  by_cases h2 : k = 2
  · exact .inl ⟨by simp [h2], if_pos (.inl h2)⟩
  by_cases h3 : k = 3
  · exact .inr (.inl ⟨by simp [h2], by simp [h3], if_pos (.inr h3)⟩)
  have hn : ¬ (k = 2 ∨ k = 3) := by omega
  rw [if_neg hn]
  by_cases h4 : k = 4
  · exact .inr (.inr (.inl ⟨by simp [h2], by simp [h3], by simp [h4], if_pos h4⟩))
  · exact .inr (.inr (.inr ⟨by simp [h2], by simp [h3], by simp [h4], if_neg h4⟩))
theorem tf3 (s : ByteArray) : ((s.toList == [116, 114, 117, 101]) = true ∧ (s.toList == [116, 114, 117, 101] || s.toList == [102, 97, 108, 115, 101]) = true) ∨ ((s.toList == [116, 114, 117, 101]) = false ∧ (s.toList == [102, 97, 108, 115, 101]) = true ∧ (s.toList == [116, 114, 117, 101] || s.toList == [102, 97, 108, 115, 101]) = true) ∨ ((s.toList == [116, 114, 117, 101]) = false ∧ (s.toList == [102, 97, 108, 115, 101]) = false ∧ (s.toList == [116, 114, 117, 101] || s.toList == [102, 97, 108, 115, 101]) = false) := by
  cases (s.toList == [116, 114, 117, 101]) <;> cases (s.toList == [102, 97, 108, 115, 101]) <;> simp

set_option maxRecDepth 100000 in
set_option maxHeartbeats 1000000 in
theorem named73 (k : Int) (s : ByteArray) (w : World) (hs : s.size ≤ 9223372036854775807) : Calls Tryd.prog 73 #[.int .i64 k, .string s] w (Ret w (.bool (whatOk k s))) := by
  rcases what4 k s with ⟨h1, hf⟩ | ⟨h1, h2, hf⟩ | ⟨h1, h2, h3, hf⟩ | ⟨h1, h2, h3, hf⟩
  · have HF := Lib.hid hf; clear hf
    go_enter Tryd.func73, Tryd.ntmps73
    go_wp2_with fail
    refine (ident26 _ _).mono ?_
    rintro e w2 ⟨rfl, hb2⟩
    have HB2 := Lib.hid hb2; clear hb2
    go_wp2
    go_ret
    exact ⟨ret_bool HF.out.symm, HB2.out⟩
  · have HF := Lib.hid hf; clear hf
    go_enter Tryd.func73, Tryd.ntmps73
    go_wp2_with fail
    refine (ident26 _ _).mono ?_
    rintro e w2 ⟨rfl, hb2⟩
    have HB2 := Lib.hid hb2; clear hb2
    go_wp2
    go_ret
    exact ⟨ret_bool HF.out.symm, HB2.out⟩
  · rcases tf3 s with ⟨e1, e3⟩ | ⟨e1, e2, e3⟩ | ⟨e1, e2, e3⟩
    all_goals
      rw [e3] at hf
      have HF := Lib.hid hf; clear hf e3
      go_enter Tryd.func73, Tryd.ntmps73
      go_wp2
      go_ret
      exact ⟨ret_bool HF.out.symm, Below.refl _ _⟩
  · have HF := Lib.hid hf; clear hf
    go_enter Tryd.func73, Tryd.ntmps73
    go_wp2_with (go_at_call 27; refine (word27 _ _ hs).mono ?_; rintro e w' ⟨rfl, rfl⟩)
    go_ret
    exact ⟨ret_bool HF.out.symm, Below.refl _ _⟩
set_option maxRecDepth 100000 in
set_option maxHeartbeats 1000000 in
theorem validWhat67 (k : Int) (s : ByteArray) (w : World) (hk : KW w) : Calls Tryd.prog 67 #[.int .i64 k, .string s] w (Same w (.bool (whatOk k s))) := by
  have HK := Lib.hid hk; clear hk
  by_cases h1 : 1 ≤ s.size
  case neg =>
    have d1 : decide ((s.size : Int) < 1) = true := by simp; omega
    have HF := Lib.hid (whatOk_word k s (by unfold wordOk; rw [decide_eq_false h1]; simp))
    go_enter Tryd.func67, Tryd.ntmps67
    go_wp2
    go_ret
    exact ⟨ret_bool HF.out.symm, rfl⟩
  have d1 : decide ((s.size : Int) < 1) = false := by simp; omega
  by_cases h2 : s.size ≤ 32
  case neg =>
    have d2 : decide (32 < (s.size : Int)) = true := by simp; omega
    have HF := Lib.hid (whatOk_word k s (by unfold wordOk; rw [decide_eq_false h2]; simp))
    go_enter Tryd.func67, Tryd.ntmps67
    go_wp2
    go_ret
    exact ⟨ret_bool HF.out.symm, rfl⟩
  have d2 : decide (32 < (s.size : Int)) = false := by simp; omega
  have HD1 := Lib.hid (decide_eq_true h1)
  have HD2 := Lib.hid (decide_eq_true h2)
  go_enter Tryd.func67, Tryd.ntmps67
  go_wp2
  go_loop [16] (fun i => ∃ k : Nat, k ≤ s.size ∧ i = .int .i64 k ∧ Hid (prTo 33 s k)) (fun i => s.size - (intOf i).toNat)
  case atStart => exact ⟨0, Nat.zero_le _, rfl, prTo_zero 33 s⟩
  case round =>
    obtain ⟨j, hj, rfl, HI⟩ := hrel
    by_cases hlt : j < s.size
    · rcases prI_cases 33 s[j] with ⟨hp, h1, h2⟩ | ⟨hp, h1⟩ | ⟨hp, h1, h2⟩
      · have HP := Lib.hid hp; clear hp
        go_wp2
        go_round
        case rel => exact ⟨j + 1, by omega, by go_num, prTo_succ HI.out hlt HP.out⟩
        case measure => simp [intOf]; omega
      · have HF := Lib.hid (whatOk_word k s (by unfold wordOk; rw [prB_f hlt hp]; rfl))
        clear hp
        go_wp2
        go_ret
        exact ⟨ret_bool HF.out.symm, rfl⟩
      · have HF := Lib.hid (whatOk_word k s (by unfold wordOk; rw [prB_f hlt hp]; rfl))
        clear hp
        go_wp2
        go_ret
        exact ⟨ret_bool HF.out.symm, rfl⟩
    · obtain rfl : j = s.size := by omega
      have HW : Hid (wordOk s = true) := by show _ = _; unfold wordOk; rw [prB_t HI.out, HD1.out, HD2.out]; rfl
      rcases what4 k s with ⟨h1, hf⟩ | ⟨h1, h2, hf⟩ | ⟨h1, h2, h3, hf⟩ | ⟨h1, h2, h3, hf⟩
      · have HF := Lib.hid hf; clear hf
        go_wp2_with (go_at_call 24; refine (ident24 _ _ HK.out).mono ?_; rintro e w' ⟨rfl, rfl⟩)
        go_ret
        exact ⟨ret_bool HF.out.symm, rfl⟩
      · have HF := Lib.hid hf; clear hf
        go_wp2_with (go_at_call 24; refine (ident24 _ _ HK.out).mono ?_; rintro e w' ⟨rfl, rfl⟩)
        go_ret
        exact ⟨ret_bool HF.out.symm, rfl⟩
      · rcases tf3 s with ⟨e1, e3⟩ | ⟨e1, e2, e3⟩ | ⟨e1, e2, e3⟩
        all_goals
          rw [e3] at hf
          have HF := Lib.hid hf; clear hf e3
          go_wp2
          go_ret
          exact ⟨ret_bool HF.out.symm, rfl⟩
      · rw [HW.out] at hf
        have HF := Lib.hid hf; clear hf
        go_wp2
        go_ret
        exact ⟨ret_bool HF.out.symm, rfl⟩
end Go.Proofs.YtpgmjfnjdgdmcaaDoor
