/-
  The reference's Compare of lists.
-/
import Derived.Test.YtdbmmdjmkbnboaaGreatDoorQa
import Derived.Test.YtdbmmdjmkbnboaaGreatDoorQn
namespace Go.Proofs.YtdbmmdjmkbnboaaGreatDoor
open Go.RowKit

set_option maxRecDepth 100000 in
set_option maxHeartbeats 8000000 in
theorem compareR22 (a b : List Int) (pa : Option Addr) (ca : Nat) (pb : Option Addr) (cb : Nat) (w : World) (ha : IntsAt w pa a) (hb : IntsAt w pb b) (la : a.length ≤ 1000000) (_lb : b.length ≤ 1000000) :
    Calls Tryz.prog 27 #[.slice pa a.length ca, .slice pb b.length cb] w (Ret w (.int .i64 (cmpL a b))) := by
  have HA := Lib.hid ha
  have HB := Lib.hid hb
  have HEN : Hid (∀ k, k ≤ a.length → k ≤ b.length → a.take k = b.take k → (k = a.length ∨ k = b.length) → cmpL a b = if a.length < b.length then -1 else if b.length < a.length then 1 else 0) := fun k h1 h2 e hk => cmpL_end h1 h2 e hk
  have HAT : Hid (∀ k (h1 : k < a.length) (h2 : k < b.length), a.take k = b.take k → cmpL a b = if a[k] < b[k] then -1 else if b[k] < a[k] then 1 else cmpL (a.drop (k + 1)) (b.drop (k + 1))) := fun k h1 h2 e => cmpL_at h1 h2 e
  clear ha hb
  generalize cmpL a b = R at *
  go_enter Tryz.func27, Tryz.ntmps27
  go_wp2
  go_loopw [5] (fun i wr => ∃ k : Nat, k ≤ a.length ∧ k ≤ b.length ∧ i = .int .i64 k ∧ Hid (a.take k = b.take k) ∧ Hid (Below w.heap.size w wr)) (fun i _ => a.length - (intOf i).toNat)
  case atStart => exact ⟨0, Nat.zero_le _, Nat.zero_le _, rfl, rfl, Below.refl _ _⟩
  case round =>
    obtain ⟨k, hk, hkb, rfl, HT, HW⟩ := hrel
    by_cases hin : k < a.length ∧ k < b.length
    case neg =>
      have HV := Lib.hid (HEN.out k hk hkb HT.out (by omega))
      have hor : k = a.length ∨ k = b.length := by omega
      clear HEN HAT HT HA HB
      by_cases h1 : a.length < b.length
      · have HF : Hid (-1 = R) := by show _ = _; rw [HV.out, if_pos h1]
        have t0 : decide ((k : Int) < (a.length : Int)) = false := by simp; omega
        have t1 : decide ((a.length : Int) < (b.length : Int)) = true := by simp; omega
        clear HV
        go_wp2
        go_ret
        exact ⟨ret_int HF.out, HW.out⟩
      · have t1 : decide ((a.length : Int) < (b.length : Int)) = false := by simp; omega
        by_cases h2 : b.length < a.length
        · have HF : Hid (1 = R) := by show _ = _; rw [HV.out, if_neg h1, if_pos h2]
          have t2 : decide ((b.length : Int) < (a.length : Int)) = true := by simp; omega
          have t0 : decide ((k : Int) < (a.length : Int)) = true := by simp; omega
          have t3 : decide ((k : Int) < (b.length : Int)) = false := by simp; omega
          clear HV
          go_wp2
          go_ret
          exact ⟨ret_int HF.out, HW.out⟩
        · have HF : Hid (0 = R) := by show _ = _; rw [HV.out, if_neg h1, if_neg h2]
          have t2 : decide ((b.length : Int) < (a.length : Int)) = false := by simp; omega
          have t0 : decide ((k : Int) < (a.length : Int)) = false := by simp; omega
          clear HV
          go_wp2
          go_ret
          exact ⟨ret_int HF.out, HW.out⟩
    obtain ⟨h1, h2⟩ := hin
    have HV := Lib.hid (HAT.out k h1 h2 HT.out)
    obtain ⟨b1, o1, he1, p1⟩ := HA.out.below HW.out k h1
    subst he1
    obtain ⟨b2, o2, he2, p2⟩ := HB.out.below HW.out k h2
    subst he2
    have t0 : decide ((k : Int) < (a.length : Int)) = true := by simp; omega
    have t3 : decide ((k : Int) < (b.length : Int)) = true := by simp; omega
    have HN : Hid (a[k] = b[k] → a.take (k + 1) = b.take (k + 1)) := fun e => by
      rw [List.take_succ_eq_append_getElem h1, List.take_succ_eq_append_getElem h2, HT.out, e]
    clear HEN HAT HT
    generalize a[k] = x at *
    generalize b[k] = y at *
    have hne : Nonempty (WB wr) := ⟨⟨wr, Below.refl _ _⟩⟩
    have k0 : ∀ o : WB wr, o.u.cell? ⟨b1, o1 + k, none⟩ = some (.int .i64 x) := fun o => cell_below o.h p1
    have k1 : ∀ o : WB wr, o.u.cell? ⟨b2, o2 + k, none⟩ = some (.int .i64 y) := fun o => cell_below o.h p2
    go_upto_region 4 with (fail)
    clear p1 p2 t0 t3
    by_cases h3 : x < y
    · have HF : Hid (-1 = R) := by show _ = _; rw [HV.out, if_pos h3]
      have t4 := decide_eq_true h3
      clear HV HN HA HB h3
      refine wp_region_WB wr (by kernel_rfl) ?_
      repeat (go_big_quiet_step (fail))
      refine wpQuiet_nil ?_
      intro _ hw'
      obtain ⟨o, rfl⟩ := hw'
      clear k0 k1
      have HB3 := Lib.hid (HW.out.trans (o.h.mono HW.out.size))
      go_wp2
      go_ret
      exact ⟨ret_int HF.out, HB3.out⟩
    have t4 := decide_eq_false h3
    refine wp_region_WB wr (by kernel_rfl) ?_
    repeat (go_big_quiet_step (fail))
    refine wpQuiet_nil ?_
    intro _ hw'
    obtain ⟨o, rfl⟩ := hw'
    have q0 := k0 o
    have q1 := k1 o
    have HB3 := Lib.hid (HW.out.trans (o.h.mono HW.out.size))
    clear k0 k1 hne HW t4
    generalize o.u = W4 at *
    have hne : Nonempty (WB W4) := ⟨⟨W4, Below.refl _ _⟩⟩
    have k0 : ∀ o : WB W4, o.u.cell? ⟨b1, o1 + k, none⟩ = some (.int .i64 x) := fun o => cell_below o.h q0
    have k1 : ∀ o : WB W4, o.u.cell? ⟨b2, o2 + k, none⟩ = some (.int .i64 y) := fun o => cell_below o.h q1
    clear q0 q1
    go_upto_region 6 with (fail)
    by_cases h4 : y < x
    · have HF : Hid (1 = R) := by show _ = _; rw [HV.out, if_neg h3, if_pos h4]
      have t4 := decide_eq_true h4
      clear HV HN HA HB h3 h4
      refine wp_region_WB W4 (by kernel_rfl) ?_
      repeat (go_big_quiet_step (fail))
      refine wpQuiet_nil ?_
      intro _ hw'
      obtain ⟨o, rfl⟩ := hw'
      have HB5 := Lib.hid (HB3.out.trans (o.h.mono HB3.out.size))
      clear k0 k1
      go_wp2
      go_ret
      exact ⟨ret_int HF.out, HB5.out⟩
    · have t4 := decide_eq_false h4
      have HN2 := Lib.hid (HN.out (by omega))
      clear HV HN HA HB h3 h4
      refine wp_region_WB W4 (by kernel_rfl) ?_
      repeat (go_big_quiet_step (fail))
      refine wpQuiet_nil ?_
      intro _ hw'
      obtain ⟨o, rfl⟩ := hw'
      have HB5 := Lib.hid (HB3.out.trans (o.h.mono HB3.out.size))
      clear k0 k1
      go_wp2
      go_roundw
      case rel => exact ⟨k + 1, by omega, by omega, by go_num, HN2.out, HB5.out⟩
      case measure => simp [intOf]; omega
end Go.Proofs.YtdbmmdjmkbnboaaGreatDoor
