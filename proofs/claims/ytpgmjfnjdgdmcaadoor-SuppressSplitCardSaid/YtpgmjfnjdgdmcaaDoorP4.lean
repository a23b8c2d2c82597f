import Derived.Test.YtpgmjfnjdgdmcaaDoorP3
namespace Go.Proofs.YtpgmjfnjdgdmcaaDoor
open Go.RowKit

/-- is a byte between lo and 126? -/
def prI (lo : Int) (c : UInt8) : Bool := decide (lo ≤ (c.toNat : Int)) && decide ((c.toNat : Int) ≤ 126)
def prB (lo : Int) (s : ByteArray) : Bool := s.data.toList.all (prI lo)
def prTo (lo : Int) (s : ByteArray) (k : Nat) : Prop := ∀ j (h : j < s.size), j < k → prI lo s[j] = true
theorem prTo_zero (lo : Int) (s : ByteArray) : prTo lo s 0 := fun j h hj => absurd hj (by omega)
theorem prTo_succ {lo : Int} {s : ByteArray} {k : Nat} (h : prTo lo s k) (hk : k < s.size) (hp : prI lo s[k] = true) : prTo lo s (k + 1) := fun j hj hjk => by
  by_cases e : j = k
  · subst e; exact hp
  · exact h j hj (by omega)
theorem prB_f {lo : Int} {s : ByteArray} {k : Nat} (hk : k < s.size) (hp : prI lo s[k] = false) : prB lo s = false := by
  unfold prB
  rw [List.all_eq_false]
  exact ⟨s[k], by simp [ByteArray.getElem_eq_getElem_data], by simp [hp]⟩
theorem prB_t {lo : Int} {s : ByteArray} (h : prTo lo s s.size) : prB lo s = true := by
  unfold prB
  rw [List.all_eq_true]
  intro c hc
  obtain ⟨j, hj, rfl⟩ := List.getElem_of_mem hc
  have hj' : j < s.size := by simpa using hj
  have := h j hj' hj'
  simpa [ByteArray.getElem_eq_getElem_data] using this
theorem prI_cases (lo : Int) (c : UInt8) : (prI lo c = true ∧ decide ((c.toNat : Int) < lo) = false ∧ decide (126 < (c.toNat : Int)) = false) ∨ (prI lo c = false ∧ decide ((c.toNat : Int) < lo) = true) ∨ (prI lo c = false ∧ decide ((c.toNat : Int) < lo) = false ∧ decide (126 < (c.toNat : Int)) = true) := by
  by_cases h1 : (c.toNat : Int) < lo
  · exact .inr (.inl ⟨by unfold prI; rw [decide_eq_false (by omega)]; rfl, by simp [h1]⟩)
  · by_cases h2 : 126 < (c.toNat : Int)
    · exact .inr (.inr ⟨by unfold prI; rw [decide_eq_false (p := (c.toNat : Int) ≤ 126) (by omega)]; simp, decide_eq_false h1, decide_eq_true h2⟩)
    · exact .inl ⟨by unfold prI; rw [decide_eq_true (by omega), decide_eq_true (by omega)]; rfl, decide_eq_false h1, decide_eq_false h2⟩

set_option maxHeartbeats 400000 in
theorem printable25 (s : ByteArray) (lo : Int) (w : World) (hs : s.size ≤ 9223372036854775807) : Calls Tryd.prog 25 #[.string s, .int .u8 lo] w (Same w (.bool (prB lo s))) := by
  go_enter Tryd.func25, Tryd.ntmps25
  go_wp2
  go_loop [8] (fun i => ∃ k : Nat, k ≤ s.size ∧ i = .int .i64 k ∧ Hid (prTo lo s k)) (fun i => s.size - (intOf i).toNat)
  case atStart => exact ⟨0, Nat.zero_le _, rfl, prTo_zero lo s⟩
  case round =>
    obtain ⟨k, hk, rfl, HI⟩ := hrel
    by_cases hlt : k < s.size
    · rcases prI_cases lo s[k] with ⟨hp, h1, h2⟩ | ⟨hp, h1⟩ | ⟨hp, h1, h2⟩
      · have HP := Lib.hid hp; clear hp
        go_wp2
        go_round
        case rel => exact ⟨k + 1, by omega, by go_num, prTo_succ HI.out hlt HP.out⟩
        case measure => simp [intOf]; omega
      · have HP := Lib.hid hp; clear hp
        go_wp2
        go_ret
        exact ⟨ret_bool (prB_f hlt HP.out).symm, rfl⟩
      · have HP := Lib.hid hp; clear hp
        go_wp2
        go_ret
        exact ⟨ret_bool (prB_f hlt HP.out).symm, rfl⟩
    · obtain rfl : k = s.size := by omega
      go_wp2
      go_ret
      exact ⟨ret_bool (prB_t HI.out).symm, rfl⟩
def wordOk (s : ByteArray) : Bool := prB 33 s && decide (1 ≤ s.size) && decide (s.size ≤ 32)
set_option maxHeartbeats 400000 in
theorem word27 (s : ByteArray) (w : World) (hs : s.size ≤ 9223372036854775807) : Calls Tryd.prog 27 #[.string s] w (Same w (.bool (wordOk s))) := by
  go_enter Tryd.func27, Tryd.ntmps27
  go_wp2
  go_loop [3] (fun i => ∃ k : Nat, k ≤ s.size ∧ i = .int .i64 k ∧ Hid (prTo 33 s k)) (fun i => s.size - (intOf i).toNat)
  case atStart => exact ⟨0, Nat.zero_le _, rfl, prTo_zero 33 s⟩
  case round =>
    obtain ⟨k, hk, rfl, HI⟩ := hrel
    by_cases hlt : k < s.size
    · rcases prI_cases 33 s[k] with ⟨hp, h1, h2⟩ | ⟨hp, h1⟩ | ⟨hp, h1, h2⟩
      · have HP := Lib.hid hp; clear hp
        go_wp2
        go_round
        case rel => exact ⟨k + 1, by omega, by go_num, prTo_succ HI.out hlt HP.out⟩
        case measure => simp [intOf]; omega
      · have HP := Lib.hid hp; clear hp
        go_wp2
        go_ret
        exact ⟨ret_bool (by unfold wordOk; rw [prB_f hlt HP.out]; rfl), rfl⟩
      · have HP := Lib.hid hp; clear hp
        go_wp2
        go_ret
        exact ⟨ret_bool (by unfold wordOk; rw [prB_f hlt HP.out]; rfl), rfl⟩
    · obtain rfl : k = s.size := by omega
      have HF : Hid (wordOk s = (decide (1 ≤ s.size) && decide (s.size ≤ 32))) := by show _ = _; unfold wordOk; rw [prB_t HI.out]; simp
      by_cases h1 : 1 ≤ s.size
      · by_cases h2 : s.size ≤ 32
        · have d1 : decide ((1 : Int) ≤ s.size) = true := by simp; omega
          have d2 : decide ((s.size : Int) ≤ 32) = true := by simp; omega
          go_wp2
          go_ret
          exact ⟨ret_bool (by rw [HF.out]; simp [h1, h2]), rfl⟩
        · have d1 : decide ((1 : Int) ≤ s.size) = true := by simp; omega
          have d2 : decide ((s.size : Int) ≤ 32) = false := by simp; omega
          go_wp2
          go_ret
          exact ⟨ret_bool (by rw [HF.out]; simp [h1, h2]), rfl⟩
      · have d1 : decide ((1 : Int) ≤ s.size) = false := by simp; omega
        go_wp2
        go_ret
        exact ⟨ret_bool (by rw [HF.out]; simp [h1]), rfl⟩
/-- a reason: its first and last byte are no blanks -/
def reasonB (s : ByteArray) : Bool := decide (1 ≤ s.size) && decide (s.size ≤ 200) && (s.data[0]?.getD 0 != 32) && (s.data[s.size - 1]?.getD 0 != 32) && prB 32 s
theorem byte_at {s : ByteArray} {k : Nat} (h : k < s.size) : s.data[k]?.getD 0 = s[k] := by
  have h' : k < s.data.size := h
  rw [Array.getElem?_eq_getElem h']; rfl
theorem b32 (c : UInt8) : (c = 32 ∧ ((c.toNat : Int) == 32) = true) ∨ (c ≠ 32 ∧ ((c.toNat : Int) == 32) = false) := by
  by_cases e : c = 32
  · exact .inl ⟨e, by subst e; rfl⟩
  · refine .inr ⟨e, ?_⟩
    simp only [beq_eq_false_iff_ne, ne_eq]
    intro h2
    exact e (UInt8.toNat_inj.1 (by simp; omega))
set_option maxHeartbeats 400000 in
theorem reason28 (s : ByteArray) (w : World) : Calls Tryd.prog 28 #[.string s] w (Same w (.bool (reasonB s))) := by
  by_cases h1 : 1 ≤ s.size
  case neg =>
    have d1 : decide ((s.size : Int) < 1) = true := by simp; omega
    go_enter Tryd.func28, Tryd.ntmps28
    go_wp2
    go_ret
    exact ⟨ret_bool (by unfold reasonB; rw [decide_eq_false h1]; rfl), rfl⟩
  have d1 : decide ((s.size : Int) < 1) = false := by simp; omega
  by_cases h2 : s.size ≤ 200
  case neg =>
    have d2 : decide (200 < (s.size : Int)) = true := by simp; omega
    go_enter Tryd.func28, Tryd.ntmps28
    go_wp2
    go_ret
    exact ⟨ret_bool (by unfold reasonB; rw [decide_eq_false h2]; simp), rfl⟩
  have d2 : decide (200 < (s.size : Int)) = false := by simp; omega
  have z0 : 0 < s.size := by omega
  have z1 : s.size - 1 < s.size := by omega
  have HF : Hid (reasonB s = ((s[0] != 32) && (s[s.size - 1] != 32) && prB 32 s)) := by
    show _ = _
    unfold reasonB
    rw [decide_eq_true h1, decide_eq_true h2, byte_at z0, byte_at z1]; simp
  rcases b32 s[0] with ⟨e0, t0⟩ | ⟨e0, t0⟩
  · have E0 := Lib.hid e0; clear e0
    go_enter Tryd.func28, Tryd.ntmps28
    go_wp2
    go_ret
    exact ⟨ret_bool (by rw [HF.out, E0.out]; rfl), rfl⟩
  have E0 := Lib.hid e0; clear e0
  rcases b32 s[s.size - 1] with ⟨e1, t1⟩ | ⟨e1, t1⟩
  · have E1 := Lib.hid e1; clear e1
    go_enter Tryd.func28, Tryd.ntmps28
    go_wp2
    go_ret
    exact ⟨ret_bool (by rw [HF.out, E1.out]; simp), rfl⟩
  have E1 := Lib.hid e1; clear e1
  go_enter Tryd.func28, Tryd.ntmps28
  go_wp2
  go_loop [3] (fun i => ∃ k : Nat, k ≤ s.size ∧ i = .int .i64 k ∧ Hid (prTo 32 s k)) (fun i => s.size - (intOf i).toNat)
  case atStart => exact ⟨0, Nat.zero_le _, rfl, prTo_zero 32 s⟩
  case round =>
    obtain ⟨k, hk, rfl, HI⟩ := hrel
    by_cases hlt : k < s.size
    · rcases prI_cases 32 s[k] with ⟨hp, h1, h2⟩ | ⟨hp, h1⟩ | ⟨hp, h1, h2⟩
      · have HP := Lib.hid hp; clear hp
        go_wp2
        go_round
        case rel => exact ⟨k + 1, by omega, by go_num, prTo_succ HI.out hlt HP.out⟩
        case measure => simp [intOf]; omega
      · have HP := Lib.hid hp; clear hp
        go_wp2
        go_ret
        exact ⟨ret_bool (by rw [HF.out, prB_f hlt HP.out]; simp), rfl⟩
      · have HP := Lib.hid hp; clear hp
        go_wp2
        go_ret
        exact ⟨ret_bool (by rw [HF.out, prB_f hlt HP.out]; simp), rfl⟩
    · obtain rfl : k = s.size := by omega
      go_wp2
      go_ret
      exact ⟨ret_bool (by rw [HF.out, prB_t HI.out]; simp [E0.out, E1.out]), rfl⟩
end Go.Proofs.YtpgmjfnjdgdmcaaDoor
