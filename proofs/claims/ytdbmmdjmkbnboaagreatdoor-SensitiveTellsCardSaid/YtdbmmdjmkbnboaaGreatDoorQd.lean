/-
  Lists of numbers compared by the library.
-/
import Derived.Test.YtdbmmdjmkbnboaaGreatDoorQa
import Derived.Test.YtdbmmdjmkbnboaaGreatDoorQn
import Derived.Test.YtdbmmdjmkbnboaaGreatDoorShelf
namespace Go.Proofs.YtdbmmdjmkbnboaaGreatDoor
open Go.RowKit

set_option maxRecDepth 100000 in
set_option maxHeartbeats 4000000 in
theorem compareI (a b : List Int) (pa : Option Addr) (ca : Nat) (pb : Option Addr) (cb : Nat) (w : World) (ha : IntsAt w pa a) (hb : IntsAt w pb b) (la : a.length ≤ 1000000) (_lb : b.length ≤ 1000000) :
    Calls Tryz.prog 63 #[.slice pa a.length ca, .slice pb b.length cb] w (Same w (.int .i64 (cmpL a b))) := by
  have HA := Lib.hid ha
  have HB := Lib.hid hb
  have HEN : Hid (∀ k, k ≤ a.length → k ≤ b.length → a.take k = b.take k → (k = a.length ∨ k = b.length) → cmpL a b = if a.length < b.length then -1 else if b.length < a.length then 1 else 0) := fun k h1 h2 e hk => cmpL_end h1 h2 e hk
  have HAT : Hid (∀ k (h1 : k < a.length) (h2 : k < b.length), a.take k = b.take k → cmpL a b = if a[k] < b[k] then -1 else if b[k] < a[k] then 1 else cmpL (a.drop (k + 1)) (b.drop (k + 1))) := fun k h1 h2 e => cmpL_at h1 h2 e
  have HCM : Hid (∀ (x y c : Int), Lib.compareInt x y = c → ∀ w1, Calls Tryz.prog 58 #[.int .i64 x, .int .i64 y] w1 (Same w1 (.int .i64 c))) := fun x y c e w1 => by
    subst e
    exact (Tryz.cmp_Compare_int x y w1).mono (fun e w' h => ⟨h.1, h.2.symm⟩)
  clear ha hb
  generalize hR : cmpL a b = R at *
  clear hR
  go_enter Tryz.func63, Tryz.ntmps63
  go_wp2
  go_loop [11] (fun i => ∃ k : Nat, k ≤ a.length ∧ k ≤ b.length ∧ i = .int .i64 k ∧ Hid (a.take k = b.take k)) (fun i => a.length - (intOf i).toNat)
  case atStart => exact ⟨0, Nat.zero_le _, Nat.zero_le _, rfl, rfl⟩
  case round =>
    obtain ⟨k, hk, hkb, rfl, HT⟩ := hrel
    by_cases hlt : k < a.length
    case neg =>
      have hka : k = a.length := by omega
      have HV := Lib.hid (HEN.out k hk hkb HT.out (.inl hka))
      clear HEN HAT HCM HT
      by_cases h1 : a.length < b.length
      · have HF : Hid (-1 = R) := by show _ = _; rw [HV.out, if_pos h1]
        have t1 : decide ((a.length : Int) < (b.length : Int)) = true := by simp; omega
        clear HV
        go_wp2
        go_ret
        exact ⟨ret_int HF.out, rfl⟩
      · have HF : Hid (0 = R) := by show _ = _; rw [HV.out, if_neg h1, if_neg (by omega)]
        have t1 : decide ((a.length : Int) < (b.length : Int)) = false := by simp; omega
        clear HV
        go_wp2
        go_ret
        exact ⟨ret_int HF.out, rfl⟩
    obtain ⟨b1, o1, he1, p1⟩ := HA.out k hlt
    subst he1
    by_cases h2 : k < b.length
    case neg =>
      have HV := Lib.hid (HEN.out k hk hkb HT.out (.inr (by omega)))
      have HF : Hid (1 = R) := by show _ = _; rw [HV.out, if_neg (by omega), if_pos (by omega)]
      have t1 : decide ((b.length : Int) ≤ (k : Int)) = true := by simp; omega
      clear HEN HAT HCM HT HV
      generalize a[k] = x at *
      go_wp2
      go_ret
      exact ⟨ret_int HF.out, rfl⟩
    obtain ⟨b2, o2, he2, p2⟩ := HB.out k h2
    subst he2
    have HV := Lib.hid (HAT.out k hlt h2 HT.out)
    have t1 : decide ((b.length : Int) ≤ (k : Int)) = false := by simp; omega
    have HN : Hid (a[k] = b[k] → a.take (k + 1) = b.take (k + 1)) := fun e => by
      rw [List.take_succ_eq_append_getElem hlt, List.take_succ_eq_append_getElem h2, HT.out, e]
    clear HEN HAT HT
    generalize a[k] = x at *
    generalize b[k] = y at *
    by_cases h3 : x < y
    · have HC := Lib.hid (HCM.out x y (-1) (by unfold Lib.compareInt; rw [if_pos h3]))
      have HF : Hid (-1 = R) := by show _ = _; rw [HV.out, if_pos h3]
      clear HV HN HCM
      go_wp2_with (go_at_call 58; refine (HC.out _).mono ?_; rintro e w2 ⟨rfl, rfl⟩)
      go_ret
      exact ⟨ret_int HF.out, rfl⟩
    · by_cases h4 : y < x
      · have HC := Lib.hid (HCM.out x y 1 (by unfold Lib.compareInt; rw [if_neg h3, if_pos (by omega)]))
        have HF : Hid (1 = R) := by show _ = _; rw [HV.out, if_neg h3, if_pos h4]
        clear HV HN HCM
        go_wp2_with (go_at_call 58; refine (HC.out _).mono ?_; rintro e w2 ⟨rfl, rfl⟩)
        go_ret
        exact ⟨ret_int HF.out, rfl⟩
      · have HC := Lib.hid (HCM.out x y 0 (by unfold Lib.compareInt; rw [if_neg h3, if_neg (by omega)]))
        have HN2 := Lib.hid (HN.out (by omega))
        clear HV HN HCM
        go_wp2_with (go_at_call 58; refine (HC.out _).mono ?_; rintro e w2 ⟨rfl, rfl⟩)
        go_round
        case rel => exact ⟨k + 1, by omega, by omega, by go_num, HN2.out⟩
        case measure => simp [intOf]; omega
end Go.Proofs.YtdbmmdjmkbnboaaGreatDoor
