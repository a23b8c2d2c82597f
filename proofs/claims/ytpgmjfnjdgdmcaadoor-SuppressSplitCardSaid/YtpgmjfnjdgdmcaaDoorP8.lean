import Derived.Test.YtpgmjfnjdgdmcaaDoorP7
import Derived.Test.YtpgmjfnjdgdmcaaDoorShelf
import Derived.Test.YtpgmjfnjdgdmcaaDoorQTail
import Derived.Lib.QuietBelow
import Derived.Deep.QuietTactic
namespace Go.Proofs.YtpgmjfnjdgdmcaaDoor
open Go.RowKit Go.Sort

/-- strings at an address -/
def StrsAt (w : World) (a : Option Addr) (l : List ByteArray) : Prop :=
  ∀ k (h : k < l.length), ∃ b off, a = some ⟨b, off, none⟩ ∧ w.cell? ⟨b, off + k, none⟩ = some (.string l[k])
theorem StrsAt.below {w w' : World} {a : Option Addr} {l : List ByteArray} (h : StrsAt w a l) (hb : Below w.heap.size w w') : StrsAt w' a l := by
  intro k hk
  obtain ⟨b, off, ha, hc⟩ := h k hk
  exact ⟨b, off, ha, cell_below hb hc⟩
set_option maxHeartbeats 400000 in
theorem index62 (a : Option Addr) (cap : Nat) (ss : List ByteArray) (s : ByteArray) (w : World) (hm : ss.length ≤ 1000000)
    (hc : StrsAt w a ss) : Calls Tryd.prog 62 #[.slice a ss.length cap, .string s] w (Same w (.int .i64 (idx ss s))) := by
  go_enter Tryd.func62, Tryd.ntmps62
  go_wp2
  go_loop [8] (fun i => ∃ k : Nat, k ≤ ss.length ∧ i = .int .i64 k ∧ Hid (idxFrom ss s k = idx ss s)) (fun i => ss.length - (intOf i).toNat)
  case atStart => exact ⟨0, Nat.zero_le _, rfl, rfl⟩
  case round =>
    obtain ⟨k, hk, rfl, HI⟩ := hrel
    by_cases hlt : k < ss.length
    · obtain ⟨b, off, rfl, hcell⟩ := hc k hlt
      obtain ⟨x, hx⟩ : ∃ x, x = ss[k] := ⟨_, rfl⟩
      rw [← hx] at hcell
      have HX := Lib.hid hx; clear hx
      by_cases hq : x.toList = s.toList
      · have hq' : (s.toList == x.toList) = true := by simp [hq]
        go_wp2
        go_ret
        refine ⟨ret_int ?_, rfl⟩
        have := HI.out
        rw [← this, idxFrom, dif_pos hlt, ← HX.out, if_pos hq]
      · have hq' : (s.toList == x.toList) = false := by simp; exact fun e => hq e.symm
        go_wp2
        go_round
        case rel => 
          refine ⟨k+1, by omega, by go_num, ?_⟩
          have := HI.out
          rw [idxFrom, dif_pos hlt, ← HX.out, if_neg hq] at this
          exact this
        case measure => simp [intOf]; omega
    · go_wp2
      go_ret
      refine ⟨ret_int ?_, rfl⟩
      have := HI.out
      rw [← this, idxFrom, dif_neg hlt]
set_option maxHeartbeats 400000 in
theorem contains61 (a : Option Addr) (cap : Nat) (ss : List ByteArray) (s : ByteArray) (w : World) (hm : ss.length ≤ 1000000)
    (hc : StrsAt w a ss) : Calls Tryd.prog 61 #[.slice a ss.length cap, .string s] w (Same w (.bool (decide (0 ≤ idx ss s)))) := by
  have HC := Lib.hid hc; clear hc
  go_enter Tryd.func61, Tryd.ntmps61
  go_wp2_with (go_at_call 62; refine (index62 _ _ _ _ _ (by omega) HC.out).mono ?_; rintro e w' ⟨rfl, rfl⟩)
  go_ret
  exact ⟨rfl, rfl⟩


def orA (s f t : ByteArray) : ByteArray := if s.toList = f.toList then t else s
theorem orAny30 (s f t : ByteArray) (w : World) : Calls Tryd.prog 30 #[.string s, .string f, .string t] w (Same w (.string (orA s f t))) := by
  by_cases h : s.toList = f.toList
  · have HF : Hid (orA s f t = t) := by show _ = _; unfold orA; rw [if_pos h]
    have e : (s.toList == f.toList) = true := by simp [h]
    clear h
    go_enter Tryd.func30, Tryd.ntmps30
    go_wp2
    go_ret
    exact ⟨by rw [HF.out]; rfl, rfl⟩
  · have HF : Hid (orA s f t = s) := by show _ = _; unfold orA; rw [if_neg h]
    have e : (s.toList == f.toList) = false := by simpa using h
    clear h
    go_enter Tryd.func30, Tryd.ntmps30
    go_wp2
    go_ret
    exact ⟨by rw [HF.out]; rfl, rfl⟩
theorem kinds29 (w : World) : Calls Tryd.prog 29 #[] w fun e w' => e = .returned (.slice (some ⟨w.heap.size, 0, none⟩) 5 5) ∧ w' = w.alloc (.cells (kindL.map Value.string).toArray 9) := by
  go_enter Tryd.func29, Tryd.ntmps29
  go_wp2
  go_ret
  exact ⟨rfl, rfl⟩
end Go.Proofs.YtpgmjfnjdgdmcaaDoor
