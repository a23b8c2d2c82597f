import Derived.Test.YthlnhinjcffllaaGreatDoorQ2
namespace Go.Proofs.YthlnhinjcffllaaGreatDoor
open Go.RowKit

theorem kw_block (w : World) (e : TypeId) : ∀ j, j < 17 → (w.alloc (.cells kwArr e)).cell? ⟨w.heap.size, j, none⟩ = some (.string (kws.getD j ByteArray.empty)) := by
  intro j hj
  have h' : j < kws.length := hj
  rw [cell_of_row _ _ _ kwArr e (0, 0) (heap_alloc_new w _)]
  simp [kwArr, h']

set_option maxHeartbeats 400000 in
theorem keyword46 (s : ByteArray) (w : World) : Calls Tryz.prog 46 #[.string s] w (Ret w (.bool (kwB s))) := by
  go_enter Tryz.func46, Tryz.ntmps46
  go_wp2
  go_loopw [4] (fun i wr => ∃ k : Nat, k ≤ 17 ∧ i = .int .i64 k ∧ Hid (kwTo s k = false) ∧ Below w.heap.size w wr ∧ Hid (∀ j, j < 17 → wr.cell? ⟨w.heap.size, j, none⟩ = some (.string (kws.getD j ByteArray.empty)))) (fun i _ => 17 - (intOf i).toNat)
  case atStart => exact ⟨0, Nat.zero_le _, rfl, rfl, (Below.refl _ _).alloc (Nat.le_refl _) _, kw_block w 9⟩
  case round =>
    obtain ⟨k, hk, rfl, HI, HB0, HC⟩ := hrel
    by_cases hlt : k < 17
    · have hcell := HC.out k hlt
      have HS := Lib.hid (kwTo_succ s k hlt)
      have HB := Lib.hid (@kwB_of s k hlt)
      generalize kws.getD k ByteArray.empty = x at *
      by_cases hq : x.toList = s.toList
      · have hq1 : (x.toList == s.toList) = true := by simp [hq]
        go_wp2
        go_ret
        exact ⟨ret_bool (HB.out hq).symm, HB0⟩
      · have hq1 : (x.toList == s.toList) = false := by simpa using hq
        go_wp2
        go_roundw
        case rel =>
          refine ⟨k+1, by omega, by go_num, ?_, HB0, HC⟩
          have h1 := HS.out
          rw [HI.out] at h1
          show kwTo s (k + 1) = false
          rw [h1]; simpa using hq
        case measure => simp [intOf]; omega
    · go_wp2
      go_ret
      refine ⟨ret_bool ?_, HB0⟩
      obtain rfl : k = 17 := by omega
      exact HI.out.symm

/-- the first k bytes may follow in a word -/
def partTo (s : ByteArray) (k : Nat) : Prop := ∀ j (h : j < s.size), j < k → partI s[j].toNat = true
def SpanPost (s : ByteArray) (w : World) (e : Ending) (w' : World) : Prop := w = w' ∧ ∃ k : Nat, k ≤ s.size ∧ partTo s k ∧ (∀ h : k < s.size, partI s[k].toNat = false) ∧ e = .returned (.int .i64 k)
set_option maxHeartbeats 400000 in
theorem span42 (s : ByteArray) (w : World) (hs : s.size ≤ 1000000) : Calls Tryz.prog 42 #[.string s, .func (.func 43) #[] #[]] w (SpanPost s w) := by
  go_enter Tryz.func42, Tryz.ntmps42
  go_wp2
  go_loop [5] (fun i => ∃ k : Nat, k ≤ s.size ∧ i = .int .i64 k ∧ Hid (partTo s k)) (fun i => s.size - (intOf i).toNat)
  case atStart => exact ⟨0, Nat.zero_le _, rfl, fun j h hj => absurd hj (by omega)⟩
  case round =>
    obtain ⟨k, hk, rfl, HI⟩ := hrel
    by_cases hlt : k < s.size
    · cases hp : partI s[k].toNat
      · go_wp2_with (go_at_call 43; refine (part43 _ _).mono ?_; rintro e w' ⟨rfl, rfl⟩)
        go_ret
        exact ⟨rfl, k, hk, HI.out, fun _ => hp, rfl⟩
      · go_wp2_with (go_at_call 43; refine (part43 _ _).mono ?_; rintro e w' ⟨rfl, rfl⟩)
        go_round
        case rel =>
          refine ⟨k+1, by omega, by go_num, fun j h hj => ?_⟩
          by_cases e : j = k
          · subst e; exact hp
          · exact HI.out j h (by omega)
        case measure => simp [intOf]; omega
    · go_wp2
      go_ret
      exact ⟨rfl, k, hk, HI.out, fun h => absurd h hlt, rfl⟩

def identB (s : ByteArray) : Bool := decide (0 < s.size) && decide (s.size ≤ 32) && letterI (s.data[0]?.getD 0).toNat && s.data.toList.all (fun c => partI c.toNat) && !kwB s
theorem ident_f1 {s : ByteArray} (h : s.size = 0) : identB s = false := by simp [identB, h]
theorem ident_f2 {s : ByteArray} (h : 32 < s.size) : identB s = false := by
  have : ¬ s.size ≤ 32 := by omega
  simp [identB, this]
theorem byte0 {s : ByteArray} (h : 0 < s.size) : s.data[0]?.getD 0 = s[0] := by
  have h' : 0 < s.data.size := h
  rw [Array.getElem?_eq_getElem h']; rfl
theorem ident_f3 {s : ByteArray} (h : 0 < s.size) (hl : letterI s[0].toNat = false) : identB s = false := by
  unfold identB
  rw [byte0 h, hl]
  simp
theorem ident_f4 {s : ByteArray} {k : Nat} (h : k < s.size) (hl : partI s[k].toNat = false) : identB s = false := by
  have : (s.data.toList.all fun c => partI c.toNat) = false := by
    rw [List.all_eq_false]
    exact ⟨s[k], by simp [ByteArray.getElem_eq_getElem_data], by simp [hl]⟩
  simp [identB, this]
theorem ident_f5 {s : ByteArray} (h : kwB s = true) : identB s = false := by simp [identB, h]
theorem ident_t {s : ByteArray} (h : 0 < s.size) (h2 : s.size ≤ 32) (hl : letterI s[0].toNat = true) (hp : partTo s s.size) (hk : kwB s = false) : identB s = true := by
  have : (s.data.toList.all fun c => partI c.toNat) = true := by
    rw [List.all_eq_true]
    intro c hc
    obtain ⟨j, hj, rfl⟩ := List.getElem_of_mem hc
    have hj' : j < s.size := by simpa using hj
    have := hp j hj' hj'
    simpa [ByteArray.getElem_eq_getElem_data] using this
  unfold identB
  rw [byte0 h, hl, this, hk]
  simp [h, h2]
theorem nil_of_size {s : ByteArray} (h : s.size = 0) : s.toList = [] := by
  rw [ByteArray.toList_eq]
  apply List.eq_nil_of_length_eq_zero
  simpa using h
theorem ne_of_size {s : ByteArray} (h : ¬ s.size = 0) : ¬ s.toList = [] := by
  rw [ByteArray.toList_eq]
  intro e
  exact h (by simpa using congrArg List.length e)

set_option maxHeartbeats 400000 in
theorem ident24 (s : ByteArray) (w : World) (hw : KW w) : Calls Tryz.prog 24 #[.string s] w (Same w (.bool (identB s))) := by
  have HW := Lib.hid hw; clear hw
  by_cases h0 : s.size = 0
  · have H := Lib.hid (ident_f1 h0)
    have e := nil_of_size h0
    go_enter Tryz.func24, Tryz.ntmps24
    go_wp2
    go_ret
    exact ⟨ret_bool H.out.symm, rfl⟩
  have e := ne_of_size h0
  have e2 : s.toList.isEmpty = false := by cases h : s.toList <;> simp_all
  by_cases h32 : 32 < s.size
  · have H := Lib.hid (ident_f2 h32)
    go_enter Tryz.func24, Tryz.ntmps24
    go_wp2
    go_ret
    exact ⟨ret_bool H.out.symm, rfl⟩
  have hp : 0 < s.size := by omega
  cases hl : letterI s[0].toNat
  · have H := Lib.hid (ident_f3 hp hl)
    go_enter Tryz.func24, Tryz.ntmps24
    go_wp2_with (go_at_call 41; refine (letter41 _ _).mono ?_; rintro e w' ⟨rfl, rfl⟩)
    go_ret
    exact ⟨ret_bool H.out.symm, rfl⟩
  have HL := Lib.hid hl
  go_enter Tryz.func24, Tryz.ntmps24
  go_wp2_with (first | (go_at_call 41; refine (letter41 _ _).mono ?_; rintro e w' ⟨rfl, rfl⟩))
  refine (span42 _ _ (by omega)).mono ?_
  rintro e w' ⟨rfl, k, hk, hp1, hp2, rfl⟩
  have HP1 := Lib.hid hp1; clear hp1
  have HP2 := Lib.hid hp2; clear hp2
  by_cases hks : k = s.size
  · have hb : ((k : Int) == (s.size : Int)) = true := by simp [hks]
    have HK := Lib.hid hks; clear hks
    cases hkw : kwB s
    · go_wp2_with (first | (go_at_call 44; refine (keyword44 _ _ HW.out).mono ?_; rintro e w' ⟨rfl, rfl⟩))
      go_ret
      exact ⟨ret_bool (ident_t hp (by omega) HL.out (HK.out ▸ HP1.out) hkw).symm, rfl⟩
    · go_wp2_with (first | (go_at_call 44; refine (keyword44 _ _ HW.out).mono ?_; rintro e w' ⟨rfl, rfl⟩))
      go_ret
      exact ⟨ret_bool (ident_f5 hkw).symm, rfl⟩
  · have hb : ((k : Int) == (s.size : Int)) = false := by simp; omega
    go_wp2_with (first | (go_at_call 44; refine (keyword44 _ _ HW.out).mono ?_; rintro e w' ⟨rfl, rfl⟩))
    go_ret
    have hlt : k < s.size := by omega
    exact ⟨ret_bool (ident_f4 hlt (HP2.out hlt)).symm, rfl⟩

set_option maxHeartbeats 400000 in
theorem ident26 (s : ByteArray) (w : World) : Calls Tryz.prog 26 #[.string s] w (Ret w (.bool (identB s))) := by
  by_cases h0 : s.size = 0
  · have H := Lib.hid (ident_f1 h0)
    have e := nil_of_size h0
    go_enter Tryz.func26, Tryz.ntmps26
    go_wp2
    go_ret
    exact ⟨ret_bool H.out.symm, Below.refl _ _⟩
  have e := ne_of_size h0
  have e2 : s.toList.isEmpty = false := by cases h : s.toList <;> simp_all
  by_cases h32 : 32 < s.size
  · have H := Lib.hid (ident_f2 h32)
    go_enter Tryz.func26, Tryz.ntmps26
    go_wp2
    go_ret
    exact ⟨ret_bool H.out.symm, Below.refl _ _⟩
  have hp : 0 < s.size := by omega
  cases hl : letterI s[0].toNat
  · have H := Lib.hid (ident_f3 hp hl)
    go_enter Tryz.func26, Tryz.ntmps26
    go_wp2_with (go_at_call 45; refine (letter45 _ _).mono ?_; rintro e w' ⟨rfl, rfl⟩)
    go_ret
    exact ⟨ret_bool H.out.symm, Below.refl _ _⟩
  have HL := Lib.hid hl
  cases hkw : kwB s
  case true =>
    go_enter Tryz.func26, Tryz.ntmps26
    go_wp2_with (first | (go_at_call 45; refine (letter45 _ _).mono ?_; rintro e w' ⟨rfl, rfl⟩))
    refine (keyword46 _ _).mono ?_
    rintro e w' ⟨rfl, hb⟩
    have HB := Lib.hid hb; clear hb
    go_wp2
    go_ret
    exact ⟨ret_bool (ident_f5 hkw).symm, HB.out⟩
  case false =>
    go_enter Tryz.func26, Tryz.ntmps26
    go_wp2_with (first | (go_at_call 45; refine (letter45 _ _).mono ?_; rintro e w' ⟨rfl, rfl⟩))
    refine (keyword46 _ _).mono ?_
    rintro e w' ⟨rfl, hb⟩
    have HB := Lib.hid hb; clear hb
    go_wp2
    go_loop [3] (fun i => ∃ k : Nat, k ≤ s.size ∧ i = .int .i64 k ∧ Hid (partTo s k)) (fun i => s.size - (intOf i).toNat)
    case atStart => exact ⟨0, Nat.zero_le _, rfl, fun j h hj => absurd hj (by omega)⟩
    case round =>
      obtain ⟨k, hk, rfl, HI⟩ := hrel
      by_cases hlt : k < s.size
      · cases hp1 : partI s[k].toNat
        · go_wp2_with (go_at_call 47; refine (part47 _ _).mono ?_; rintro e w' ⟨rfl, rfl⟩)
          go_ret
          exact ⟨ret_bool (ident_f4 hlt hp1).symm, HB.out⟩
        · go_wp2_with (go_at_call 47; refine (part47 _ _).mono ?_; rintro e w' ⟨rfl, rfl⟩)
          go_round
          case rel =>
            refine ⟨k+1, by omega, by go_num, fun j h hj => ?_⟩
            by_cases e : j = k
            · subst e; exact hp1
            · exact HI.out j h (by omega)
          case measure => simp [intOf]; omega
      · go_wp2
        go_ret
        obtain rfl : k = s.size := by omega
        exact ⟨ret_bool (ident_t hp (by omega) HL.out HI.out hkw).symm, HB.out⟩
end Go.Proofs.YthlnhinjcffllaaGreatDoor
