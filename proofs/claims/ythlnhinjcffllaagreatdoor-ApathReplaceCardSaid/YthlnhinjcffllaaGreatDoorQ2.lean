import Derived.Test.YthlnhinjcffllaaGreatDoorQ1
namespace Go.Proofs.YthlnhinjcffllaaGreatDoor
open Go.RowKit

/-- the keywords -/
def kws : List ByteArray := [⟨#[99, 108, 97, 115, 115]⟩, ⟨#[101, 120, 116, 101, 110, 100, 115]⟩, ⟨#[118, 97, 114]⟩, ⟨#[100, 101, 102]⟩, ⟨#[115, 116, 97, 116, 105, 99]⟩, ⟨#[105, 102]⟩, ⟨#[101, 108, 115, 101]⟩, ⟨#[119, 104, 105, 108, 101]⟩, ⟨#[116, 114, 121]⟩, ⟨#[99, 97, 116, 99, 104]⟩, ⟨#[116, 104, 114, 111, 119]⟩, ⟨#[114, 101, 116, 117, 114, 110]⟩, ⟨#[110, 101, 119]⟩, ⟨#[110, 117, 108, 108]⟩, ⟨#[116, 104, 105, 115]⟩, ⟨#[105, 110, 112, 117, 116]⟩, ⟨#[105, 110, 116]⟩]
/-- as the variable's cells -/
def kwArr : Array Value := (kws.map Value.string).toArray
/-- the variable lex.keywords holds the keywords -/
def KW (w : World) : Prop := ∃ t fr, w.heap[0]? = some (.cells kwArr t fr)
theorem KW.below {w w' : World} (h : KW w) (hb : Below w.heap.size w w') : KW w' := by
  obtain ⟨t, fr, h⟩ := h
  refine ⟨t, fr, ?_⟩
  rw [hb.block 0 (Array.getElem?_eq_some_iff.1 h).1, h]
theorem idx142 : ∀ k, k < 17 → ∀ w, (Instr.index 142 (.agg kwArr) (.int .i64 (k : Nat))).run Tryz.prog w = .ok (.string (kws.getD k ByteArray.empty)) w
  | 0, _, _ => by kernel_rfl
  | 1, _, _ => by kernel_rfl
  | 2, _, _ => by kernel_rfl
  | 3, _, _ => by kernel_rfl
  | 4, _, _ => by kernel_rfl
  | 5, _, _ => by kernel_rfl
  | 6, _, _ => by kernel_rfl
  | 7, _, _ => by kernel_rfl
  | 8, _, _ => by kernel_rfl
  | 9, _, _ => by kernel_rfl
  | 10, _, _ => by kernel_rfl
  | 11, _, _ => by kernel_rfl
  | 12, _, _ => by kernel_rfl
  | 13, _, _ => by kernel_rfl
  | 14, _, _ => by kernel_rfl
  | 15, _, _ => by kernel_rfl
  | 16, _, _ => by kernel_rfl
  | n + 17, h, _ => absurd h (by omega)

/-- is s a keyword? -/
def kwB (s : ByteArray) : Bool := kws.any fun k => k.toList == s.toList
def kwTo (s : ByteArray) (k : Nat) : Bool := (kws.take k).any fun x => x.toList == s.toList
theorem kwTo_succ (s : ByteArray) (k : Nat) (h : k < 17) : kwTo s (k + 1) = (kwTo s k || (kws.getD k ByteArray.empty).toList == s.toList) := by
  have h' : k < kws.length := h
  unfold kwTo
  rw [List.take_succ_eq_append_getElem h', List.any_append]
  simp [h']
theorem kwB_of {s : ByteArray} {k : Nat} (h : k < 17) (e : (kws.getD k ByteArray.empty).toList = s.toList) : kwB s = true := by
  have h' : k < kws.length := h
  unfold kwB
  rw [List.any_eq_true]
  refine ⟨kws[k], List.getElem_mem h', ?_⟩
  simp [h'] at e
  simp [e]
set_option maxHeartbeats 400000 in
theorem keyword44 (s : ByteArray) (w : World) (hk : KW w) : Calls Tryz.prog 44 #[.string s] w (Same w (.bool (kwB s))) := by
  obtain ⟨t, fr, hg⟩ := hk
  have HG := Lib.hid hg; clear hg
  go_enter Tryz.func44, Tryz.ntmps44
  go_wp2_with (refine wpList_load_row rfl 142 _ rfl 0 rfl t _ fr _ HG.out Tryz.underlying142 rfl (by kernel_rfl) ?_)
  go_loop [6] (fun i => ∃ k : Nat, k ≤ 17 ∧ i = .int .i64 k ∧ Hid (kwTo s k = false)) (fun i => 17 - (intOf i).toNat)
  case atStart => exact ⟨0, Nat.zero_le _, rfl, rfl⟩
  case round =>
    obtain ⟨k, hk, rfl, HI⟩ := hrel
    by_cases hlt : k < 17
    · have hix := idx142 k hlt
      have HS := Lib.hid (kwTo_succ s k hlt)
      have HB := Lib.hid (@kwB_of s k hlt)
      generalize kws.getD k ByteArray.empty = x at *
      by_cases hq : x.toList = s.toList
      · have hq1 : (s.toList == x.toList) = true := by simp [hq]
        go_wp2
        go_ret
        exact ⟨ret_bool (HB.out hq).symm, rfl⟩
      · have hq1 : (s.toList == x.toList) = false := by simp; exact fun e => hq e.symm
        go_wp2
        go_round
        case rel =>
          refine ⟨k+1, by omega, by go_num, ?_⟩
          have h1 := HS.out
          rw [HI.out] at h1
          show kwTo s (k + 1) = false
          rw [h1]; simpa using hq
        case measure => simp [intOf]; omega
    · go_wp2
      go_ret
      refine ⟨ret_bool ?_, rfl⟩
      obtain rfl : k = 17 := by omega
      exact HI.out.symm
end Go.Proofs.YthlnhinjcffllaaGreatDoor
