import Derived.Test.YtpgmjfnjdgdmcaaDoorP4
import Derived.Deep.DeepCutAuto
namespace Go.Proofs.YtpgmjfnjdgdmcaaDoor
open Go.RowKit

structure Nt where
  kind : Int
  cls : ByteArray
  meth : ByteArray
  what : ByteArray
  reason : ByteArray
def NtV (n : Nt) : Value := .agg #[.int .i64 n.kind, .string n.cls, .string n.meth, .string n.what, .string n.reason]
/-- a name that is not empty and no identifier -/
def nmBad (s : ByteArray) : Bool := !s.toList.isEmpty && !identB s
def whatBad (s : ByteArray) : Bool := decide (32 < s.size) || (s.toList == [42]) || !prB 33 s
/-- the error of a suppression -/
def noteE (n : Nt) : Int := if n.kind < 0 ∨ 4 < n.kind then 12 else if (nmBad n.cls || nmBad n.meth) = true then 5 else if whatBad n.what = true then 5 else if reasonB n.reason = true then 0 else 23

set_option maxRecDepth 100000 in
set_option maxHeartbeats 1000000 in
theorem check8 (n : Nt) (w : World) (hk : KW w) : Calls Tryd.prog 8 #[NtV n] w (Ret w (.int .i64 (noteE n))) := by
  unfold NtV
  have HK := Lib.hid (hk.below ((Below.refl w.heap.size w).alloc (Nat.le_refl _) (.cells #[.int .i64 n.kind, .string n.cls, .string n.meth, .string n.what, .string n.reason] 23))); clear hk
  by_cases hkind : n.kind < 0 ∨ 4 < n.kind
  · have HF : Hid (noteE n = 12) := by show _ = _; unfold noteE; rw [if_pos hkind]
    have t0 : (n.kind != 0) = true := by simp; omega
    rcases hkind with h | h
    · have t1 : decide (n.kind < 1) = true := by simp; omega
      go_enter Tryd.func8, Tryd.ntmps8
      go_wp2
      go_ret
      exact ⟨ret_int HF.out.symm, (Below.refl _ _).alloc (Nat.le_refl _) _⟩
    · have t1 : decide (n.kind < 1) = false := by simp; omega
      have t2 : decide (4 < n.kind) = true := by simp; omega
      go_enter Tryd.func8, Tryd.ntmps8
      go_wp2
      go_ret
      exact ⟨ret_int HF.out.symm, (Below.refl _ _).alloc (Nat.le_refl _) _⟩
  have HF : Hid (noteE n = if (nmBad n.cls || nmBad n.meth) = true then 5 else if whatBad n.what = true then 5 else if reasonB n.reason = true then 0 else 23) := by show _ = _; unfold noteE; rw [if_neg hkind]
  have HB0 := Lib.hid ((Below.refl w.heap.size w).alloc (Nat.le_refl _) (.cells #[.int .i64 n.kind, .string n.cls, .string n.meth, .string n.what, .string n.reason] 23))
  go_enter Tryd.func8, Tryd.ntmps8
  go_upto_region 1 with (fail)
  go_cut [16] (fun s wx => s = .bool false ∧ wx = w.alloc (.cells #[.int .i64 n.kind, .string n.cls, .string n.meth, .string n.what, .string n.reason] 23))
  case first =>
    by_cases h0 : n.kind = 0
    · have t0 : (n.kind != 0) = false := by simp [h0]
      clear h0
      go_wp2
      go_meet
      exact ⟨rfl, rfl⟩
    · have t0 : (n.kind != 0) = true := by simp [h0]
      have t1 : decide (n.kind < 1) = false := by simp; omega
      have t2 : decide (4 < n.kind) = false := by simp; omega
      go_wp2
      go_meet
      exact ⟨rfl, rfl⟩
  case rest =>
    obtain ⟨rfl, rfl⟩ := hcut
    go_upto_region 3 with (fail)
    go_cut [36] (fun s wx => s = .bool (nmBad n.cls || nmBad n.meth) ∧ wx = w.alloc (.cells #[.int .i64 n.kind, .string n.cls, .string n.meth, .string n.what, .string n.reason] 23))
    case first =>
      cases hc : n.cls.toList.isEmpty <;> cases hi : identB n.cls <;> cases hm : n.meth.toList.isEmpty <;> cases hj : identB n.meth
      all_goals
        go_wp2_with (go_at_call 24; refine (ident24 _ _ HK.out).mono ?_; rintro e w' ⟨rfl, rfl⟩)
        go_meet
        exact ⟨by unfold nmBad; simp [hc, hi, hm, hj], rfl⟩
    case rest =>
      obtain ⟨rfl, rfl⟩ := hcut
      cases hnm : (nmBad n.cls || nmBad n.meth)
      case true =>
        rw [hnm, if_pos rfl] at HF
        go_wp2
        go_ret
        exact ⟨ret_int HF.out.symm, HB0.out⟩
      case false =>
        rw [hnm, if_neg (by simp)] at HF
        clear hnm
        go_upto_region 5 with (fail)
        go_cut [51] (fun s wx => s = .bool (whatBad n.what) ∧ wx = w.alloc (.cells #[.int .i64 n.kind, .string n.cls, .string n.meth, .string n.what, .string n.reason] 23))
        case first =>
          by_cases hl : 32 < n.what.size
          · have d1 : decide (32 < (n.what.size : Int)) = true := by simp; omega
            go_wp2
            go_meet
            exact ⟨by unfold whatBad; rw [decide_eq_true hl]; rfl, rfl⟩
          · have d1 : decide (32 < (n.what.size : Int)) = false := by simp; omega
            have HL := Lib.hid (decide_eq_false hl)
            cases hs : n.what.toList == [42] <;> cases hp : prB 33 n.what
            all_goals
              go_wp2_with (go_at_call 25; refine (printable25 _ _ _ (by omega)).mono ?_; rintro e w' ⟨rfl, rfl⟩)
              go_meet
              exact ⟨by unfold whatBad; rw [HL.out]; simp [hs, hp], rfl⟩
        case rest =>
          obtain ⟨rfl, rfl⟩ := hcut
          cases hwb : whatBad n.what
          case true =>
            rw [hwb, if_pos rfl] at HF
            go_wp2
            go_ret
            exact ⟨ret_int HF.out.symm, HB0.out⟩
          case false =>
            rw [hwb, if_neg (by simp)] at HF
            clear hwb
            go_upto_region 8 with (fail)
            go_cut [79] (fun s wx => s = .bool (!reasonB n.reason) ∧ wx = w.alloc (.cells #[.int .i64 n.kind, .string n.cls, .string n.meth, .string n.what, .string n.reason] 23))
            case first =>
              by_cases h1 : 1 ≤ n.reason.size
              case neg =>
                have d1 : decide ((n.reason.size : Int) < 1) = true := by simp; omega
                go_wp2
                go_meet
                exact ⟨by unfold reasonB; rw [decide_eq_false h1]; rfl, rfl⟩
              have d1 : decide ((n.reason.size : Int) < 1) = false := by simp; omega
              by_cases h2 : n.reason.size ≤ 200
              case neg =>
                have d2 : decide (200 < (n.reason.size : Int)) = true := by simp; omega
                go_wp2
                go_meet
                exact ⟨by unfold reasonB; rw [decide_eq_false h2]; simp, rfl⟩
              have d2 : decide (200 < (n.reason.size : Int)) = false := by simp; omega
              have z0 : 0 < n.reason.size := by omega
              have z1 : n.reason.size - 1 < n.reason.size := by omega
              have HR : Hid (reasonB n.reason = ((n.reason[0] != 32) && (n.reason[n.reason.size - 1] != 32) && prB 32 n.reason)) := by
                show _ = _
                unfold reasonB
                rw [decide_eq_true h1, decide_eq_true h2, byte_at z0, byte_at z1]; simp
              cases hp : prB 32 n.reason
              · go_wp2_with (go_at_call 25; refine (printable25 _ _ _ (by omega)).mono ?_; rintro e w' ⟨rfl, rfl⟩)
                go_meet
                exact ⟨by rw [HR.out, hp]; simp, rfl⟩
              rcases b32 n.reason[0] with ⟨e0, t0⟩ | ⟨e0, t0⟩
              · have E0 := Lib.hid e0; clear e0
                go_wp2_with (go_at_call 25; refine (printable25 _ _ _ (by omega)).mono ?_; rintro e w' ⟨rfl, rfl⟩)
                go_meet
                exact ⟨by rw [HR.out, E0.out]; simp, rfl⟩
              have E0 := Lib.hid e0; clear e0
              rcases b32 n.reason[n.reason.size - 1] with ⟨e1, t1⟩ | ⟨e1, t1⟩
              · have E1 := Lib.hid e1; clear e1
                go_wp2_with (go_at_call 25; refine (printable25 _ _ _ (by omega)).mono ?_; rintro e w' ⟨rfl, rfl⟩)
                go_meet
                exact ⟨by rw [HR.out, E1.out]; simp, rfl⟩
              · have E1 := Lib.hid e1; clear e1
                go_wp2_with (go_at_call 25; refine (printable25 _ _ _ (by omega)).mono ?_; rintro e w' ⟨rfl, rfl⟩)
                go_meet
                exact ⟨by rw [HR.out]; simp [E0.out, E1.out, hp], rfl⟩
            case rest =>
              obtain ⟨rfl, rfl⟩ := hcut
              cases hr : reasonB n.reason
              · rw [hr, if_neg (by simp)] at HF
                go_wp2
                go_ret
                exact ⟨ret_int HF.out.symm, HB0.out⟩
              · rw [hr, if_pos rfl] at HF
                go_wp2
                go_ret
                exact ⟨ret_int HF.out.symm, HB0.out⟩

theorem word_bad (s : ByteArray) : (!s.toList.isEmpty && !wordOk s || s.toList == [42]) = whatBad s := by
  unfold whatBad wordOk
  by_cases h0 : s.size = 0
  · have e := nil_of_size h0
    have hp : prB 33 s = true := prB_t (fun j hj => absurd hj (by omega))
    simp [e, h0, hp]
  · have e := ne_of_size h0
    have e2 : s.toList.isEmpty = false := by simpa using e
    have h1 : decide (1 ≤ s.size) = true := by simp; omega
    rw [e2, h1]
    by_cases h2 : s.size ≤ 32
    · rw [decide_eq_true h2, decide_eq_false (p := 32 < s.size) (by omega)]
      cases prB 33 s <;> cases (s.toList == [42]) <;> rfl
    · rw [decide_eq_false h2, decide_eq_true (p := 32 < s.size) (by omega)]
      simp
theorem cell_below {w w' : World} (hb : Below w.heap.size w w') {a : Addr} {v : Value} (h : w.cell? a = some v) : w'.cell? a = some v := by
  rw [hb.cell (World.block_lt_of_cell? w a h)]; exact h
theorem note_cells (w : World) (n : Nt) (e : TypeId) (i : Nat) (hi : i < 5) : (w.alloc (.cells #[.int .i64 n.kind, .string n.cls, .string n.meth, .string n.what, .string n.reason] e)).cell? ⟨w.heap.size, i, none⟩ = some (#[.int .i64 n.kind, .string n.cls, .string n.meth, .string n.what, .string n.reason][i]) := by
  rw [cell_of_row _ _ _ _ e (0, 0) (heap_alloc_new w _)]; simp [hi]
theorem nm3 (s : ByteArray) : (s.toList.isEmpty = true ∧ nmBad s = false) ∨ (s.toList.isEmpty = false ∧ identB s = true ∧ nmBad s = false) ∨ (s.toList.isEmpty = false ∧ identB s = false ∧ nmBad s = true) := by
  unfold nmBad
  cases s.toList.isEmpty <;> cases identB s <;> simp
theorem wh4 (s : ByteArray) : (s.toList.isEmpty = true ∧ (s.toList == [42]) = false) ∨ (s.toList.isEmpty = false ∧ wordOk s = false) ∨ (s.toList.isEmpty = false ∧ wordOk s = true ∧ (s.toList == [42]) = false) ∨ (s.toList.isEmpty = false ∧ wordOk s = true ∧ (s.toList == [42]) = true) := by
  cases h : s.toList.isEmpty
  · cases wordOk s <;> cases (s.toList == [42]) <;> simp
  · have : s.toList = [] := by simpa using h
    simp [this]
set_option maxRecDepth 100000 in
set_option maxHeartbeats 2000000 in
theorem check9 (n : Nt) (w : World) (hw : n.what.size ≤ 9223372036854775807) : Calls Tryd.prog 9 #[NtV n] w (Ret w (.int .i64 (noteE n))) := by
  unfold NtV
  have HB0 := Lib.hid ((Below.refl w.heap.size w).alloc (Nat.le_refl _) (.cells #[.int .i64 n.kind, .string n.cls, .string n.meth, .string n.what, .string n.reason] 23))
  by_cases hkind : n.kind < 0 ∨ 4 < n.kind
  · have HF : Hid (noteE n = 12) := by show _ = _; unfold noteE; rw [if_pos hkind]
    rcases hkind with h | h
    · have t1 : decide (n.kind < 0) = true := by simp; omega
      go_enter Tryd.func9, Tryd.ntmps9
      go_wp2
      go_ret
      exact ⟨ret_int HF.out.symm, HB0.out⟩
    · have t1 : decide (n.kind < 0) = false := by simp; omega
      have t2 : decide (4 < n.kind) = true := by simp; omega
      go_enter Tryd.func9, Tryd.ntmps9
      go_wp2
      go_ret
      exact ⟨ret_int HF.out.symm, HB0.out⟩
  have HF : Hid (noteE n = if (nmBad n.cls || nmBad n.meth || (!n.what.toList.isEmpty && !wordOk n.what || n.what.toList == [42])) = true then 5 else if reasonB n.reason = true then 0 else 23) := by
    show _ = _
    unfold noteE
    rw [if_neg hkind, word_bad]
    cases nmBad n.cls || nmBad n.meth <;> cases whatBad n.what <;> rfl
  have t1 : decide (n.kind < 0) = false := by simp; omega
  have t2 : decide (4 < n.kind) = false := by simp; omega
  go_enter Tryd.func9, Tryd.ntmps9
  go_upto_region 3 with (fail)
  go_cut [46] (fun s wx => s = .bool (nmBad n.cls || nmBad n.meth || (!n.what.toList.isEmpty && !wordOk n.what || n.what.toList == [42])) ∧ Below w.heap.size w wx ∧ wx.cell? ⟨w.heap.size, 4, none⟩ = some (.string n.reason))
  case first =>
    have q1 : World.cell? _ ⟨w.heap.size, 1, none⟩ = some (.string n.cls) := note_cells w n 23 1 (by omega)
    have q2 : World.cell? _ ⟨w.heap.size, 2, none⟩ = some (.string n.meth) := note_cells w n 23 2 (by omega)
    have q3 : World.cell? _ ⟨w.heap.size, 3, none⟩ = some (.string n.what) := note_cells w n 23 3 (by omega)
    have q4 : World.cell? _ ⟨w.heap.size, 4, none⟩ = some (.string n.reason) := note_cells w n 23 4 (by omega)
    have hb0 := HB0.out
    clear HF HB0
    generalize w.alloc (.cells #[.int .i64 n.kind, .string n.cls, .string n.meth, .string n.what, .string n.reason] 23) = W at *
    rcases nm3 n.cls with ⟨hc, bc⟩ | ⟨hc, hi, bc⟩ | ⟨hc, hi, bc⟩
    case inr.inr =>
      go_wp2_with (first
        | (go_at_call 26; refine (ident26 _ _).mono ?_; rintro e w' ⟨rfl, hb⟩; have z2 := cell_below hb (show World.cell? _ ⟨w.heap.size, 2, none⟩ = some (.string n.meth) by assumption); have z3 := cell_below hb (show World.cell? _ ⟨w.heap.size, 3, none⟩ = some (.string n.what) by assumption); have z4 := cell_below hb (show World.cell? _ ⟨w.heap.size, 4, none⟩ = some (.string n.reason) by assumption); have hbn := Below.trans (B := w.heap.size) (show RowKit.Below w.heap.size w _ by assumption) (hb.mono (Below.size (by assumption))); clear hb)
        | (go_at_call 27; refine (word27 _ _ hw).mono ?_; rintro e w' ⟨rfl, rfl⟩))
      go_meet
      exact ⟨by simp [bc], by assumption, by assumption⟩
    all_goals
      rcases nm3 n.meth with ⟨hm, bm⟩ | ⟨hm, hj, bm⟩ | ⟨hm, hj, bm⟩
    case inl.inr.inr | inr.inl.inr.inr =>
      go_wp2_with (first
        | (go_at_call 26; refine (ident26 _ _).mono ?_; rintro e w' ⟨rfl, hb⟩; have z2 := cell_below hb (show World.cell? _ ⟨w.heap.size, 2, none⟩ = some (.string n.meth) by assumption); have z3 := cell_below hb (show World.cell? _ ⟨w.heap.size, 3, none⟩ = some (.string n.what) by assumption); have z4 := cell_below hb (show World.cell? _ ⟨w.heap.size, 4, none⟩ = some (.string n.reason) by assumption); have hbn := Below.trans (B := w.heap.size) (show RowKit.Below w.heap.size w _ by assumption) (hb.mono (Below.size (by assumption))); clear hb)
        | (go_at_call 27; refine (word27 _ _ hw).mono ?_; rintro e w' ⟨rfl, rfl⟩))
      go_meet
      exact ⟨by simp [bc, bm], by assumption, by assumption⟩
    all_goals
      rcases wh4 n.what with ⟨he, hs⟩ | ⟨he, ho⟩ | ⟨he, ho, hs⟩ | ⟨he, ho, hs⟩
    all_goals
      go_wp2_with (first
        | (go_at_call 26; refine (ident26 _ _).mono ?_; rintro e w' ⟨rfl, hb⟩; have z2 := cell_below hb (show World.cell? _ ⟨w.heap.size, 2, none⟩ = some (.string n.meth) by assumption); have z3 := cell_below hb (show World.cell? _ ⟨w.heap.size, 3, none⟩ = some (.string n.what) by assumption); have z4 := cell_below hb (show World.cell? _ ⟨w.heap.size, 4, none⟩ = some (.string n.reason) by assumption); have hbn := Below.trans (B := w.heap.size) (show RowKit.Below w.heap.size w _ by assumption) (hb.mono (Below.size (by assumption))); clear hb)
        | (go_at_call 27; refine (word27 _ _ hw).mono ?_; rintro e w' ⟨rfl, rfl⟩))
      go_meet
      exact ⟨by simp [*], by assumption, by assumption⟩
  case rest =>
    obtain ⟨rfl, hbx, q4⟩ := hcut
    have HBX := Lib.hid hbx; clear hbx
    cases hnm : (nmBad n.cls || nmBad n.meth || (!n.what.toList.isEmpty && !wordOk n.what || n.what.toList == [42]))
    case true =>
      rw [hnm, if_pos rfl] at HF
      go_wp2
      go_ret
      exact ⟨ret_int HF.out.symm, HBX.out⟩
    case false =>
      rw [hnm, if_neg (by simp)] at HF
      clear hnm
      cases hr : reasonB n.reason
      · rw [hr, if_neg (by simp)] at HF
        go_wp2_with (go_at_call 28; refine (reason28 _ _).mono ?_; rintro e w' ⟨rfl, rfl⟩)
        go_ret
        exact ⟨ret_int HF.out.symm, HBX.out⟩
      · rw [hr, if_pos rfl] at HF
        go_wp2_with (go_at_call 28; refine (reason28 _ _).mono ?_; rintro e w' ⟨rfl, rfl⟩)
        go_ret
        exact ⟨ret_int HF.out.symm, HBX.out⟩
end Go.Proofs.YtpgmjfnjdgdmcaaDoor
