/-
  Beginnings, covering and equality of paths, program and reference.
-/
import Derived.Test.YthlnhinjcffllaaGreatDoorQ9
namespace Go.Proofs.YthlnhinjcffllaaGreatDoor
open Go.RowKit

theorem pre_len {l m : List ByteArray} (h : m.length < l.length) : preB l m = false := by
  rw [Bool.eq_false_iff]; intro e
  have := (preB_iff.1 e).length_le
  omega
theorem pre_t {l m : List ByteArray} (h2 : l.take l.length = m.take l.length) : preB l m = true := by
  rw [preB_iff, List.prefix_iff_eq_take, ← h2, List.take_length]
theorem pre_f {l m : List ByteArray} {k : Nat} (h1 : k < l.length) (h2 : k < m.length) (h : l[k].toList ≠ m[k].toList) : preB l m = false := by
  rw [Bool.eq_false_iff]; intro e
  obtain ⟨t, rfl⟩ := preB_iff.1 e
  exact h (by rw [List.getElem_append_left h1])
theorem take_eq_succ {l m : List ByteArray} {k : Nat} (h : l.take k = m.take k) (h1 : k < l.length) (h2 : k < m.length) (e : l[k].toList = m[k].toList) : l.take (k + 1) = m.take (k + 1) := by
  rw [List.take_succ_eq_append_getElem h1, List.take_succ_eq_append_getElem h2, h, toList_inj e]

set_option maxRecDepth 100000 in
set_option maxHeartbeats 1000000 in
theorem first27 (l m : List ByteArray) (a b : Option Addr) (c d : Nat) (w : World) (ha : StrsAt w a l) (hb : StrsAt w b m) (hl : l.length ≤ 1000000) : Calls Tryz.prog 27 #[.slice a l.length c, .slice b m.length d] w (Ret w (.bool (preB l m))) := by
  have HA := Lib.hid ha; clear ha
  have HB := Lib.hid hb; clear hb
  by_cases hlen : m.length < l.length
  · have HF := Lib.hid (pre_len hlen)
    have d1 : decide (m.length < l.length) = true := decide_eq_true hlen
    have d2 : decide ((m.length : Int) < (l.length : Int)) = true := by simp; omega
    clear hlen
    go_enter Tryz.func27, Tryz.ntmps27
    go_wp2
    go_ret
    exact ⟨ret_bool HF.out.symm, Below.refl _ _⟩
  have d1 : decide (m.length < l.length) = false := decide_eq_false hlen
  have d2 : decide ((m.length : Int) < (l.length : Int)) = false := by simp; omega
  have hlen' : l.length ≤ m.length := by omega
  clear hlen
  go_enter Tryz.func27, Tryz.ntmps27
  go_wp2
  clear d1 d2
  go_loopw [5] (fun i wr => ∃ k : Nat, k ≤ l.length ∧ i = .int .i64 k ∧ Hid (l.take k = m.take k) ∧ Below w.heap.size w wr) (fun i _ => l.length - (intOf i).toNat)
  case atStart => exact ⟨0, Nat.zero_le _, rfl, by show _ = _; simp, Below.refl _ _⟩
  case round =>
    obtain ⟨k, hk, rfl, HI, hbb⟩ := hrel
    have HBB := Lib.hid hbb; clear hbb
    by_cases hlt : k < l.length
    · obtain ⟨b1, o1, rfl, c1⟩ := HA.out.below HBB.out k hlt
      obtain ⟨b2, o2, rfl, c2⟩ := HB.out.below HBB.out k (by omega)
      have HT := Lib.hid (@take_eq_succ l m k HI.out hlt (by omega))
      have HN := Lib.hid (@pre_f l m k hlt (by omega))
      have hkm : k < m.length := by omega
      generalize l[k] = x at *
      generalize m[k] = y at *
      by_cases he : x.toList = y.toList
      · have e1 : (x.toList == y.toList) = true := by simp [he]
        go_wp2
        go_quiet (fail)
        go_wp2
        go_roundw
        case rel => exact ⟨k + 1, by omega, by go_num, HT.out he, below_drewN' HBB.out _⟩
        case measure => simp [intOf]; omega
      · have e1 : (x.toList == y.toList) = false := by simpa using he
        go_wp2
        go_quiet (fail)
        go_wp2
        go_ret
        exact ⟨ret_bool (HN.out he).symm, below_drewN' HBB.out _⟩
    · obtain rfl : k = l.length := by omega
      go_wp2
      go_ret
      exact ⟨ret_bool (pre_t HI.out).symm, HBB.out⟩

/-- what is told of a path in memory -/
def FsAt (w : World) (a : Option Addr) (p : Pth) : Prop := StrsAt w a p.fs

set_option maxRecDepth 100000 in
set_option maxHeartbeats 2000000 in
theorem same14 (p q : Pth) (a b : Option Addr) (c d : Nat) (w : World) (ha : StrsAt w a p.fs) (hb : StrsAt w b q.fs) (hl : p.fs.length ≤ 1000000) : Calls Tryz.prog 14 #[pV p a c, pV q b d] w (Ret w (.bool (sameP p q))) := by
  unfold pV
  have HB0 := Lib.hid (two_below w (.cells #[.int .i64 p.root, .int .i64 p.n, .slice a p.fs.length c, .bool p.star] 24) (.cells #[.int .i64 q.root, .int .i64 q.n, .slice b q.fs.length d, .bool q.star] 24))
  have HA := Lib.hid (ha.below HB0.out); clear ha
  have HB := Lib.hid (hb.below HB0.out); clear hb
  have HF : Hid (sameP p q = ((p.root == q.root) && (p.n == q.n) && (p.star == q.star) && (p.fs.length == q.fs.length) && preB p.fs q.fs)) := rfl
  cases h1 : (p.root == q.root)
  case false =>
    rw [h1] at HF
    go_enter Tryz.func14, Tryz.ntmps14
    go_wp2
    go_ret
    exact ⟨ret_bool (by rw [HF.out]; rfl), HB0.out⟩
  cases h2 : (p.n == q.n)
  case false =>
    rw [h1, h2] at HF
    go_enter Tryz.func14, Tryz.ntmps14
    go_wp2
    go_ret
    exact ⟨ret_bool (by rw [HF.out]; rfl), HB0.out⟩
  cases h3 : (p.star == q.star)
  case false =>
    rw [h1, h2, h3] at HF
    go_enter Tryz.func14, Tryz.ntmps14
    go_wp2
    go_ret
    exact ⟨ret_bool (by rw [HF.out]; rfl), HB0.out⟩
  cases h4 : (p.fs.length == q.fs.length)
  case false =>
    rw [h1, h2, h3, h4] at HF
    have h5 : ((p.fs.length : Int) == (q.fs.length : Int)) = false := by rw [beq_eq_false_iff_ne] at h4 ⊢; omega
    go_enter Tryz.func14, Tryz.ntmps14
    go_wp2
    go_ret
    exact ⟨ret_bool (by rw [HF.out]; rfl), HB0.out⟩
  rw [h1, h2, h3, h4] at HF
  have h5 : ((p.fs.length : Int) == (q.fs.length : Int)) = true := by rw [beq_iff_eq] at h4 ⊢; omega
  go_enter Tryz.func14, Tryz.ntmps14
  go_wp2_with (go_at_call 27; refine (first27 _ _ _ _ _ _ _ HA.out HB.out hl).mono ?_; rintro e w' ⟨rfl, hb⟩; have HBN := Lib.hid (HB0.out.trans (hb.mono HB0.out.size)); clear hb)
  go_ret
  exact ⟨ret_bool (by rw [HF.out]; simp), HBN.out⟩
end Go.Proofs.YthlnhinjcffllaaGreatDoor
