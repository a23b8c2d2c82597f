import Derived.Test.YtpgmjfnjdgdmcaaDoorP18
namespace Go.Proofs.YtpgmjfnjdgdmcaaDoor
open Go.RowKit Go.Sort

set_option maxRecDepth 100000 in
set_option maxHeartbeats 1000000 in
theorem same16 (l : List Nt) (a : Option Addr) (c : Nat) (b : Option Addr) (d : Nat) (w : World) (h1 : NtsAt w a l) (h2 : NtsAt w b l) (hl : l.length ≤ 1000000) :
    Calls Tryd.prog 16 #[.slice a l.length c, .slice b l.length d] w (Ret w (.bool true)) := by
  have H1 := Lib.hid h1; clear h1
  have H2 := Lib.hid h2; clear h2
  go_enter Tryd.func16, Tryd.ntmps16
  go_wp2
  go_loopw [5] (fun i wr => ∃ k n : Nat, k ≤ l.length ∧ i = .int .i64 k ∧ wr = w.drewN n) (fun i _ => l.length - (intOf i).toNat)
  case atStart => exact ⟨0, 0, Nat.zero_le _, rfl, rfl⟩
  case round =>
    obtain ⟨k, n, hk, rfl, rfl⟩ := hrel
    by_cases hlt : k < l.length
    · obtain ⟨b1, off, rfl, m0, m1, m2, m3, m4⟩ := H1.out k hlt
      obtain ⟨b2, off', rfl, n0, n1, n2, n3, n4⟩ := H2.out k hlt
      generalize l[k] = x at *
      go_wp2
      go_quiet (fail)
      go_wp2
      go_roundw
      case rel => exact ⟨k + 1, n + nq, by omega, by go_num, by simp⟩
      case measure => simp [intOf]; omega
    · obtain rfl : k = l.length := by omega
      go_wp2
      go_ret
      exact ⟨rfl, below_drewN' (Below.refl _ _) _⟩
end Go.Proofs.YtpgmjfnjdgdmcaaDoor
