import Derived.Test.YtlkafolgbkobpaaDoorA22
namespace Go.Proofs.YtlkafolgbkobpaaDoor
open Go.RowKit Go.Sort

theorem Box.drewN {W : World} {b : Nat} {p : Pr} {a1 : Option Addr} {c1 : Nat} {a2 : Option Addr} {c2 : Nat} (h : Box W b p a1 c1 a2 c2) (n : Nat) : Box (W.drewN n) b p a1 c1 a2 c2 := h.below (below_drewN' (Below.refl _ _) n)
theorem box_two1 (w : World) (p : Pr) (a1 : Option Addr) (c1 : Nat) (a2 : Option Addr) (c2 : Nat) (o : Obj) : Box ((w.alloc (.cells #[.string p.cls, .slice a1 p.sts.length c1, .int .i64 p.start, .int .i64 p.err, .slice a2 p.mvs.length c2] 25)).alloc o) w.heap.size p a1 c1 a2 c2 :=
  (Box.new w p a1 c1 a2 c2 25).below ((Below.refl _ _).alloc (Nat.le_refl _) _)
theorem box_two2 (w : World) (p : Pr) (a1 : Option Addr) (c1 : Nat) (a2 : Option Addr) (c2 : Nat) (o : Obj) : Box ((w.alloc o).alloc (.cells #[.string p.cls, .slice a1 p.sts.length c1, .int .i64 p.start, .int .i64 p.err, .slice a2 p.mvs.length c2] 25)) (w.heap.size + 1) p a1 c1 a2 c2 := by
  have := Box.new (w.alloc o) p a1 c1 a2 c2 25
  simpa using this

set_option maxRecDepth 100000 in
set_option maxHeartbeats 1000000 in
theorem same20 (p : Pr) (a1 : Option Addr) (c1 : Nat) (a2 : Option Addr) (c2 : Nat) (e1 : Option Addr) (d1 : Nat) (e2 : Option Addr) (d2 : Nat) (w : World)
    (h1 : StrsAt w a1 p.sts) (h2 : StrsAt w e1 p.sts) (h3 : MvsAt w a2 p.mvs) (h4 : MvsAt w e2 p.mvs) (hl : p.sts.length ≤ 1000000) (hm : p.mvs.length ≤ 1000000) :
    Calls Tryd.prog 20 #[PrV p a1 c1 a2 c2, PrV p e1 d1 e2 d2] w (Ret w (.bool true)) := by
  unfold PrV
  have H1 := Lib.hid (h1.below (two_below w (.cells #[.string p.cls, .slice a1 p.sts.length c1, .int .i64 p.start, .int .i64 p.err, .slice a2 p.mvs.length c2] 25) (.cells #[.string p.cls, .slice e1 p.sts.length d1, .int .i64 p.start, .int .i64 p.err, .slice e2 p.mvs.length d2] 25))); clear h1
  have H2 := Lib.hid (h2.below (two_below w (.cells #[.string p.cls, .slice a1 p.sts.length c1, .int .i64 p.start, .int .i64 p.err, .slice a2 p.mvs.length c2] 25) (.cells #[.string p.cls, .slice e1 p.sts.length d1, .int .i64 p.start, .int .i64 p.err, .slice e2 p.mvs.length d2] 25))); clear h2
  have H3 := Lib.hid (h3.below (two_below w (.cells #[.string p.cls, .slice a1 p.sts.length c1, .int .i64 p.start, .int .i64 p.err, .slice a2 p.mvs.length c2] 25) (.cells #[.string p.cls, .slice e1 p.sts.length d1, .int .i64 p.start, .int .i64 p.err, .slice e2 p.mvs.length d2] 25))); clear h3
  have H4 := Lib.hid (h4.below (two_below w (.cells #[.string p.cls, .slice a1 p.sts.length c1, .int .i64 p.start, .int .i64 p.err, .slice a2 p.mvs.length c2] 25) (.cells #[.string p.cls, .slice e1 p.sts.length d1, .int .i64 p.start, .int .i64 p.err, .slice e2 p.mvs.length d2] 25))); clear h4
  have BX := box_two1 w p a1 c1 a2 c2 (.cells #[.string p.cls, .slice e1 p.sts.length d1, .int .i64 p.start, .int .i64 p.err, .slice e2 p.mvs.length d2] 25)
  have BY := box_two2 w p e1 d1 e2 d2 (.cells #[.string p.cls, .slice a1 p.sts.length c1, .int .i64 p.start, .int .i64 p.err, .slice a2 p.mvs.length c2] 25)
  have HB := Lib.hid (two_below w (.cells #[.string p.cls, .slice a1 p.sts.length c1, .int .i64 p.start, .int .i64 p.err, .slice a2 p.mvs.length c2] 25) (.cells #[.string p.cls, .slice e1 p.sts.length d1, .int .i64 p.start, .int .i64 p.err, .slice e2 p.mvs.length d2] 25))
  go_enter Tryd.func20, Tryd.ntmps20
  go_wp2
  generalize (w.alloc (.cells #[.string p.cls, .slice a1 p.sts.length c1, .int .i64 p.start, .int .i64 p.err, .slice a2 p.mvs.length c2] 25)).alloc (.cells #[.string p.cls, .slice e1 p.sts.length d1, .int .i64 p.start, .int .i64 p.err, .slice e2 p.mvs.length d2] 25) = W at *
  obtain ⟨q0, q1, q2, q3, q4⟩ := BX
  obtain ⟨r0, r1, r2, r3, r4⟩ := BY
  go_loopw [5] (fun i wr => ∃ k n : Nat, k ≤ p.sts.length ∧ i = .int .i64 k ∧ wr = W.drewN n) (fun i _ => p.sts.length - (intOf i).toNat)
  case atStart => exact ⟨0, 0, Nat.zero_le _, rfl, rfl⟩
  case round =>
    obtain ⟨k, n, hk, rfl, rfl⟩ := hrel
    by_cases hlt : k < p.sts.length
    · obtain ⟨b, off, rfl, m1⟩ := H1.out k hlt
      obtain ⟨b', off', rfl, m2⟩ := H2.out k hlt
      generalize p.sts[k] = x at *
      go_wp2
      go_quiet (fail)
      go_wp2
      go_roundw
      case rel => exact ⟨k + 1, n + nq, by omega, by go_num, by simp⟩
      case measure => simp [intOf]; omega
    · obtain rfl : k = p.sts.length := by omega
      go_wp2
      go_loopw [6] (fun i wr => ∃ k n : Nat, k ≤ p.mvs.length ∧ i = .int .i64 k ∧ wr = W.drewN n) (fun i _ => p.mvs.length - (intOf i).toNat)
      case atStart => exact ⟨0, n, Nat.zero_le _, rfl, rfl⟩
      case round =>
        obtain ⟨k, n', hk, rfl, rfl⟩ := hrel
        by_cases hlt : k < p.mvs.length
        · obtain ⟨b, off, rfl, m1, m2, m3⟩ := H3.out k hlt
          obtain ⟨b', off', rfl, n1, n2, n3⟩ := H4.out k hlt
          generalize p.mvs[k] = x at *
          go_wp2
          go_quiet (fail)
          go_wp2
          go_roundw
          case rel => exact ⟨k + 1, n' + nq, by omega, by go_num, by simp⟩
          case measure => simp [intOf]; omega
        · obtain rfl : k = p.mvs.length := by omega
          go_wp2
          go_ret
          exact ⟨rfl, below_drewN' HB.out _⟩
end Go.Proofs.YtlkafolgbkobpaaDoor
