/-
  Numbers in decimal.
-/
import Derived.Test.YthlnhinjcffllaaGreatDoorQ16
import Derived.Lib.AppendIntMem
namespace Go.Proofs.YthlnhinjcffllaaGreatDoor
open Go.RowKit

def digs : ByteArray := ⟨#[48, 49, 50, 51, 52, 53, 54, 55, 56, 57]⟩
theorem digs_at : ∀ d, d < 10 → digs.extract d (d + 1) = mkB [UInt8.ofNat (48 + d)]
  | 0, _ => by kernel_rfl
  | 1, _ => by kernel_rfl
  | 2, _ => by kernel_rfl
  | 3, _ => by kernel_rfl
  | 4, _ => by kernel_rfl
  | 5, _ => by kernel_rfl
  | 6, _ => by kernel_rfl
  | 7, _ => by kernel_rfl
  | 8, _ => by kernel_rfl
  | 9, _ => by kernel_rfl
  | n + 10, h => absurd h (by omega)
theorem mkB_append (a b : List UInt8) : mkB a ++ mkB b = mkB (a ++ b) := by
  apply WideShapes.bytes_inj
  rw [ByteArray.data_append, mkB_data]
  simp [mkB]
theorem dec_big {m : Nat} (h : ¬ m < 10) : Lib.decDigits m = Lib.decDigits (m / 10) ++ [UInt8.ofNat (48 + m % 10)] := by rw [Lib.decDigits, dif_neg h]
theorem dec_small {m : Nat} (h : m < 10) : Lib.decDigits m = [UInt8.ofNat (48 + m)] := by rw [Lib.decDigits, dif_pos h]

theorem itoa29 (n : Int) (w : World) (h0 : 0 ≤ n) (h1 : n ≤ 1000000) (ht : Lib.TabIs Tryz.prog w "internal/strconv.uint64pow10" .u64 Lib.pow10Tab) : Calls Tryz.prog 29 #[.int .i64 n] w (Ret w (.string (mkB (Lib.decDigits n.toNat)))) := by
  refine (Tryz.strconv_Itoa n (by omega) (by omega) w ht).mono ?_
  rintro e w' ⟨rfl, k, os, rfl⟩
  refine ⟨?_, Lib.below_grow _ w (Nat.le_refl _) k os⟩
  have : Lib.itoa n = Lib.decDigits n.toNat := by unfold Lib.itoa; rw [if_neg (by omega)]
  rw [this]; rfl
set_option maxRecDepth 100000 in
set_option maxHeartbeats 1000000 in
theorem num30 (n : Int) (w : World) (h0 : 0 ≤ n) (h1 : n < 10000) : Calls Tryz.prog 30 #[.int .i64 n] w (Same w (.string (mkB (Lib.decDigits n.toNat)))) := by
  obtain ⟨N, rfl⟩ : ∃ N : Nat, n = N := ⟨n.toNat, by omega⟩
  rw [Int.toNat_natCast]
  have hl := dec_len N (by omega)
  go_enter Tryz.func30, Tryz.ntmps30
  go_wp2
  go_loop [0, 3] (fun v u => ∃ (m : Nat) (t : List UInt8), m ≤ 1000000 ∧ v = .int .i64 (m : Nat) ∧ u = .string (mkB t) ∧ t.length ≤ 4 ∧ Hid (Lib.decDigits N = Lib.decDigits m ++ t)) (fun v _ => (intOf v).toNat)
  case atStart => exact ⟨N, [], by omega, rfl, rfl, by simp, by show _ = _; simp⟩
  case round =>
    obtain ⟨m, t, hm, rfl, rfl, htl, HI⟩ := hrel
    have hmz := mkB_size t
    by_cases h : m < 10
    · have HX := Lib.hid (digs_at m h)
      have HD := Lib.hid (dec_small h)
      have d1 : decide (10 ≤ (m : Int)) = false := by simp; omega
      have hsum : ¬ (9223372036854775807 < min (m + 1) 10 - m + (mkB t).size) := by omega
      have hmm : min (m + 1) 10 - m = 1 := by omega
      clear hmz
      go_wp2
      go_ret
      refine ⟨?_, rfl⟩
      show Ending.returned (.string (digs.extract m (m + 1) ++ mkB t)) = _
      rw [HX.out, HI.out, HD.out, mkB_append]
    · have HX := Lib.hid (digs_at (m % 10) (by omega))
      have HD := Lib.hid (dec_big h)
      have d1 : decide (10 ≤ (m : Int)) = true := by simp; omega
      obtain ⟨d, hd⟩ : ∃ d, d = m % 10 := ⟨_, rfl⟩
      obtain ⟨f, hf⟩ : ∃ f, f = m / 10 := ⟨_, rfl⟩
      have hd10 : d < 10 := by omega
      have hfm : f < m := by omega
      have e1 : (m : Int) % 10 = (d : Int) := by omega
      have e2 : (m : Int) / 10 = (f : Int) := by omega
      rw [← hd] at HX HD
      rw [← hf] at HD
      clear hd hf
      have hsum : ¬ (9223372036854775807 < min (d + 1) 10 - d + (mkB t).size) := by omega
      have hlen : t.length + 1 ≤ 4 := by
        have h2 := congrArg List.length HI.out
        rw [HD.out] at h2
        have h3 := List.length_pos_iff.2 (dec_ne f)
        simp at h2
        omega
      clear hmz hl
      go_wp2
      go_round
      case rel =>
        refine ⟨f, UInt8.ofNat (48 + d) :: t, by omega, rfl, ?_, by simpa using hlen, ?_⟩
        · show Value.string (digs.extract d (d + 1) ++ mkB t) = _
          rw [HX.out, mkB_append]; rfl
        · show _ = _
          rw [HI.out, HD.out]; simp
      case measure => simp [intOf]; omega
end Go.Proofs.YthlnhinjcffllaaGreatDoor
