import Derived.Test.YtpgmjfnjdgdmcaaDoorP19
import Derived.BigQuiet
namespace Go.Proofs.YtpgmjfnjdgdmcaaDoor
open Go.RowKit Go.Sort

theorem Calls.quiet_same {P : Program} {f : FuncId} {args : Array Value} {w : World} {n : Nat} {v : Value}
    (h : Calls P f args (w.drewN n) (Same (w.drewN n) v)) : Calls P f args (w.drewN n) fun e w'' => e = .returned v ∧ ∃ m, w'' = w.drewN m :=
  h.mono fun _ _ ⟨he, hm⟩ => ⟨he, n, hm.symm⟩
/-- an empty word is written as a star -/
def starB (s : ByteArray) : ByteArray := if s.toList = [] then ⟨#[42]⟩ else s
theorem star35 (s : ByteArray) (w : World) : Calls Tryd.prog 35 #[.string s] w (Same w (.string (starB s))) := by
  by_cases h : s.toList = []
  · have HF : Hid (starB s = ⟨#[42]⟩) := if_pos h
    have e : (s.toList == []) = true := by rw [h]; rfl
    clear h
    go_enter Tryd.func35, Tryd.ntmps35
    go_wp2
    go_ret
    exact ⟨by rw [HF.out]; rfl, rfl⟩
  · have HF : Hid (starB s = s) := if_neg h
    have e : (s.toList == []) = false := by simpa using h
    clear h
    go_enter Tryd.func35, Tryd.ntmps35
    go_wp2
    go_ret
    exact ⟨by rw [HF.out]; rfl, rfl⟩
/-- the text before, with the line of n behind -/
def lineR (R : ByteArray) (n : Nt) : ByteArray :=
  R ++ ⟨#[115, 117, 112, 112, 114, 101, 115, 115, 32]⟩ ++ kindW n.kind ++ ⟨#[32]⟩ ++ starB n.cls ++ ⟨#[32]⟩ ++ starB n.meth ++ ⟨#[32]⟩ ++ starB n.what ++ ⟨#[32]⟩ ++ n.reason ++ ⟨#[10]⟩
def linesR (l : List Nt) : ByteArray := l.foldl lineR ⟨#[]⟩
theorem linesR_snoc (l : List Nt) (n : Nt) : linesR (l ++ [n]) = lineR (linesR l) n := by simp [linesR]
/-- the first error of the notes -/
def errN : List Nt → Int
  | [] => 0
  | n :: l => if noteE n ≠ 0 then noteE n else errN l
theorem errN_at : ∀ {l : List Nt} {k : Nat} (h : k < l.length), (∀ n ∈ l.take k, noteE n = 0) → noteE l[k] ≠ 0 → errN l = noteE l[k]
  | n :: l, 0, _, _, h2 => by simp only [errN]; rw [if_pos (by simpa using h2)]; rfl
  | n :: l, k + 1, h, h1, h2 => by
    simp only [errN]
    rw [if_neg (by simpa using h1 n (by simp))]
    exact errN_at (l := l) (k := k) (by simpa using h) (fun m hm => h1 m (by simp [hm])) (by simpa using h2)
theorem errN_all : ∀ {l : List Nt}, (∀ n ∈ l, noteE n = 0) → errN l = 0
  | [], _ => rfl
  | n :: l, h => by
    simp only [errN]
    rw [if_neg (by simpa using h n (by simp))]
    exact errN_all fun m hm => h m (by simp [hm])
def textV (l : List Nt) : Value := if 200 < l.length then .tuple #[.string ⟨#[]⟩, .int .i64 3] else if errN l ≠ 0 then .tuple #[.string ⟨#[]⟩, .int .i64 (errN l)] else .tuple #[.string (linesR l), .int .i64 0]
theorem note_ok {n : Nt} (h : noteE n = 0) : (0 ≤ n.kind ∧ n.kind ≤ 4) ∧ nmBad n.cls = false ∧ nmBad n.meth = false ∧ whatBad n.what = false ∧ reasonB n.reason = true := by
  unfold noteE at h
  split at h
  · omega
  split at h
  · omega
  split at h
  · omega
  split at h
  · rename_i h1 h2 h3 h4
    simp only [Bool.or_eq_true, not_or, Bool.not_eq_true] at h2
    exact ⟨by omega, h2.1, h2.2, by simpa using h3, h4⟩
  · omega
theorem nm_size {s : ByteArray} (h : nmBad s = false) : (starB s).size ≤ 32 := by
  unfold starB
  split
  · decide
  · rename_i h1
    have h2 : identB s = true := by
      cases hs : s.toList with
      | nil => exact absurd hs h1
      | cons => simpa [nmBad, hs] using h
    simp only [identB, Bool.and_eq_true, decide_eq_true_eq] at h2
    exact h2.1.1.1.2
theorem what_size {s : ByteArray} (h : whatBad s = false) : (starB s).size ≤ 32 := by
  unfold starB
  split
  · decide
  · simp only [whatBad, Bool.or_eq_false_iff, decide_eq_false_iff_not] at h
    omega
theorem kind_size (k : Int) : (kindW k).size ≤ 6 := by
  unfold kindW
  repeat' split
  all_goals decide
theorem reason_size {s : ByteArray} (h : reasonB s = true) : s.size ≤ 200 := by
  simp only [reasonB, Bool.and_eq_true, decide_eq_true_eq] at h
  exact h.1.1.1.2
theorem note_size {n : Nt} (h : noteE n = 0) : (kindW n.kind).size ≤ 6 ∧ (starB n.cls).size ≤ 32 ∧ (starB n.meth).size ≤ 32 ∧ (starB n.what).size ≤ 32 ∧ n.reason.size ≤ 200 := by
  obtain ⟨_, h1, h2, h3, h4⟩ := note_ok h
  exact ⟨kind_size _, nm_size h1, nm_size h2, what_size h3, reason_size h4⟩
theorem lineR_size {R : ByteArray} {n : Nt} (h : noteE n = 0) : (lineR R n).size ≤ R.size + 316 := by
  obtain ⟨h1, h2, h3, h4, h5⟩ := note_size h
  unfold lineR
  simp only [ByteArray.size_append]
  have e1 : (⟨#[115, 117, 112, 112, 114, 101, 115, 115, 32]⟩ : ByteArray).size = 9 := rfl
  have e2 : (⟨#[32]⟩ : ByteArray).size = 1 := rfl
  have e3 : (⟨#[10]⟩ : ByteArray).size = 1 := rfl
  omega

structure TRel (w : World) (l : List Nt) (k : Nat) (R : ByteArray) (wr : World) : Prop where
  hk : k ≤ l.length
  hok : ∀ n ∈ l.take k, noteE n = 0
  hR : R = linesR (l.take k)
  hs : R.size ≤ 316 * k
  hb : Below w.heap.size w wr

set_option maxRecDepth 100000 in
set_option maxHeartbeats 4000000 in
theorem text14 (l : List Nt) (a : Option Addr) (c : Nat) (w : World) (h : NtsAt w a l) (hl : l.length ≤ 1000000) (hw : ∀ n ∈ l, n.what.size ≤ 9223372036854775807) :
    Calls Tryd.prog 14 #[.slice a l.length c] w (Ret w (textV l)) := by
  have HA := Lib.hid h; clear h
  have HW := Lib.hid hw; clear hw
  by_cases hbig : 200 < l.length
  · have HF : Hid (textV l = .tuple #[.string ⟨#[]⟩, .int .i64 3]) := if_pos hbig
    go_enter Tryd.func14, Tryd.ntmps14
    go_wp2
    go_ret2
    exact ⟨by rw [HF.out]; rfl, Below.refl _ _⟩
  have hl2 : l.length ≤ 200 := by omega
  have HBIG := Lib.hid hbig; clear hbig
  have R0 : Hid (TRel w l 0 ⟨#[]⟩ w) := ⟨Nat.zero_le _, by simp, by simp [linesR], by decide, Below.refl _ _⟩
  go_enter Tryd.func14, Tryd.ntmps14
  go_wp2
  go_loopw [4, 5] (fun s i wr => ∃ k R, i = .int .i64 (k : Nat) ∧ s = .string R ∧ TRel w l k R wr) (fun _ i _ => l.length - (intOf i).toNat)
  case atStart => exact ⟨0, _, rfl, rfl, R0.out⟩
  case round =>
    clear R0
    obtain ⟨k, R, rfl, rfl, hrel⟩ := hrel
    have hk := hrel.hk
    have hs := hrel.hs
    have HREL := Lib.hid hrel; clear hrel
    by_cases hlt : k < l.length
    · obtain ⟨b, off, rfl, m0, m1, m2, m3, m4⟩ := HA.out.below HREL.out.hb k hlt
      have HX : Hid (l.take (k + 1) = l.take k ++ [l[k]]) := List.take_succ_eq_append_getElem hlt
      have HW1 := Lib.hid (HW.out l[k] (List.getElem_mem hlt))
      have HER := Lib.hid (errN_at hlt HREL.out.hok)
      generalize l[k] = x at *
      go_wp2_with fail
      have HB1 := Lib.hid (HREL.out.hb.alloc (by have := HREL.out.hb.size; omega) (.cells #[.int .i64 x.kind, .string x.cls, .string x.meth, .string x.what, .string x.reason] 23))
      have BN : Hid (Blk (wr.alloc (.cells #[.int .i64 x.kind, .string x.cls, .string x.meth, .string x.what, .string x.reason] 23)) wr.heap.size #[.int .i64 x.kind, .string x.cls, .string x.meth, .string x.what, .string x.reason] 23) := blk_new _ _ _
      refine (check9 x _ HW1.out).mono ?_
      rintro e w2 ⟨rfl, hb2⟩
      have HB2 := Lib.hid (HB1.out.trans (hb2.mono HB1.out.size))
      have BN2 := Lib.hid (BN.out.below hb2)
      clear hb2 BN HB1 m0 m1 m2 m3 m4
      by_cases h0 : noteE x = 0
      · have t0 : (noteE x != 0) = false := by simp [h0]
        obtain ⟨z1, z2, z3, z4, z5⟩ := note_size h0
        have HLS := Lib.hid (lineR_size (R := R) h0)
        have HL : Hid (R ++ ⟨#[115, 117, 112, 112, 114, 101, 115, 115, 32]⟩ ++ kindW x.kind ++ ⟨#[32]⟩ ++ starB x.cls ++ ⟨#[32]⟩ ++ starB x.meth ++ ⟨#[32]⟩ ++ starB x.what ++ ⟨#[32]⟩ ++ x.reason ++ ⟨#[10]⟩ = lineR R x) := rfl
        have H0 := Lib.hid h0; clear h0
        have c0 : w2.cell? ⟨wr.heap.size, 0, none⟩ = some (.int .i64 x.kind) := BN2.out.cell 0 (by simp)
        have c1 : w2.cell? ⟨wr.heap.size, 1, none⟩ = some (.string x.cls) := BN2.out.cell 1 (by simp)
        have c2 : w2.cell? ⟨wr.heap.size, 2, none⟩ = some (.string x.meth) := BN2.out.cell 2 (by simp)
        have c3 : w2.cell? ⟨wr.heap.size, 3, none⟩ = some (.string x.what) := BN2.out.cell 3 (by simp)
        have c4 : w2.cell? ⟨wr.heap.size, 4, none⟩ = some (.string x.reason) := BN2.out.cell 4 (by simp)
        have n1 : ¬ 9223372036854775807 < R.size + 9 := by omega
        have n2 : ¬ 9223372036854775807 < R.size + 9 + (kindW x.kind).size := by omega
        have n3 : ¬ 9223372036854775807 < R.size + 9 + (kindW x.kind).size + 1 := by omega
        have n4 : ¬ 9223372036854775807 < R.size + 9 + (kindW x.kind).size + 1 + (starB x.cls).size := by omega
        have n5 : ¬ 9223372036854775807 < R.size + 9 + (kindW x.kind).size + 1 + (starB x.cls).size + 1 := by omega
        have n6 : ¬ 9223372036854775807 < R.size + 9 + (kindW x.kind).size + 1 + (starB x.cls).size + 1 + (starB x.meth).size := by omega
        have n7 : ¬ 9223372036854775807 < R.size + 9 + (kindW x.kind).size + 1 + (starB x.cls).size + 1 + (starB x.meth).size + 1 := by omega
        have n8 : ¬ 9223372036854775807 < R.size + 9 + (kindW x.kind).size + 1 + (starB x.cls).size + 1 + (starB x.meth).size + 1 + (starB x.what).size := by omega
        have n9 : ¬ 9223372036854775807 < R.size + 9 + (kindW x.kind).size + 1 + (starB x.cls).size + 1 + (starB x.meth).size + 1 + (starB x.what).size + 1 := by omega
        have n10 : ¬ 9223372036854775807 < R.size + 9 + (kindW x.kind).size + 1 + (starB x.cls).size + 1 + (starB x.meth).size + 1 + (starB x.what).size + 1 + x.reason.size := by omega
        have n11 : ¬ 9223372036854775807 < R.size + 9 + (kindW x.kind).size + 1 + (starB x.cls).size + 1 + (starB x.meth).size + 1 + (starB x.what).size + 1 + x.reason.size + 1 := by omega
        go_wp2
        go_quiet (first | (go_at_call 34; exact Calls.quiet_same (kind34 _ _)) | (go_at_call 35; exact Calls.quiet_same (star35 _ _)))
        clear n1 n2 n3 n4 n5 n6 n7 n8 n9 n10 n11
        rw [HL.out]
        go_wp2
        go_roundw
        case rel =>
          refine ⟨k + 1, _, by go_num, rfl, by omega, ?_, ?_, ?_, below_drewN' HB2.out _⟩
          · rw [HX.out]
            intro n hn
            rcases List.mem_append.1 hn with h | h
            · exact HREL.out.hok n h
            · rw [List.mem_singleton.1 h]; exact H0.out
          · rw [HX.out, linesR_snoc, ← HREL.out.hR]
          · have := HLS.out; omega
        case measure => simp [intOf]; omega
      · have t0 : (noteE x != 0) = true := by simpa using h0
        have HF : Hid (textV l = .tuple #[.string ⟨#[]⟩, .int .i64 (noteE x)]) := by
          show _ = _
          unfold textV
          rw [if_neg HBIG.out, HER.out h0, if_pos h0]
        clear h0
        go_wp2
        go_ret2
        exact ⟨by rw [HF.out]; rfl, HB2.out⟩
    · obtain rfl : k = l.length := by omega
      have HF : Hid (textV l = .tuple #[.string R, .int .i64 0]) := by
        show _ = _
        have h1 := HREL.out.hok
        have h2 := HREL.out.hR
        rw [List.take_of_length_le (Nat.le_refl _)] at h1 h2
        unfold textV
        rw [if_neg HBIG.out, errN_all h1, if_neg (by simp), h2]
      go_wp2
      go_ret2
      exact ⟨by rw [HF.out]; rfl, HREL.out.hb⟩
end Go.Proofs.YtpgmjfnjdgdmcaaDoor
