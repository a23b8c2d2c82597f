import Derived.Test.YtlkafolgbkobpaaDoorA12
namespace Go.Proofs.YtlkafolgbkobpaaDoor
open Go.RowKit Go.Sort

set_option maxRecDepth 100000 in
set_option maxHeartbeats 1000000 in
theorem steps3 (p : Pr) (a1 : Option Addr) (c1 : Nat) (a2 : Option Addr) (c2 : Nat) (q : Int) (am : Option Addr) (cm : Nat) (ms : List ByteArray) (w : World) (hk : KW w) (hs : StrsAt w a1 p.sts) (hm : MvsAt w a2 p.mvs) (hc : p.sts.length ≤ c1) (hms : StrsAt w am ms) :
    Calls Tryd.prog 3 #[PrV p a1 c1 a2 c2, .int .i64 q, .slice am ms.length cm] w (Ret w (.bool true)) := by
  unfold PrV
  have HK := Lib.hid hk; clear hk
  have HS := Lib.hid hs; clear hs
  have HM := Lib.hid hm; clear hm
  have HMS := Lib.hid hms; clear hms
  have HBX := Lib.hid (Box.new w p a1 c1 a2 c2 25)
  have HB0 : Hid (Below w.heap.size w (w.alloc (.cells #[.string p.cls, .slice a1 p.sts.length c1, .int .i64 p.start, .int .i64 p.err, .slice a2 p.mvs.length c2] 25))) := (Below.refl _ _).alloc (Nat.le_refl _) _
  by_cases h1 : 100 < p.sts.length
  · go_enter Tryd.func3, Tryd.ntmps3
    go_wp2_with fail
    refine (awake8 _ (HK.out.below HB0.out)).mono ?_
    rintro e w1 ⟨rfl, hb1⟩
    have hb := HB0.out.trans (hb1.mono HB0.out.size)
    clear hb1
    go_wp2
    go_ret
    exact ⟨rfl, hb⟩
  by_cases h2 : 400 < p.mvs.length
  · go_enter Tryd.func3, Tryd.ntmps3
    go_wp2_with fail
    refine (awake8 _ (HK.out.below HB0.out)).mono ?_
    rintro e w1 ⟨rfl, hb1⟩
    have hb := HB0.out.trans (hb1.mono HB0.out.size)
    clear hb1
    go_wp2
    go_ret
    exact ⟨rfl, hb⟩
  by_cases h3 : 50 < ms.length
  · go_enter Tryd.func3, Tryd.ntmps3
    go_wp2_with fail
    refine (awake8 _ (HK.out.below HB0.out)).mono ?_
    rintro e w1 ⟨rfl, hb1⟩
    have hb := HB0.out.trans (hb1.mono HB0.out.size)
    clear hb1
    go_wp2
    go_ret
    exact ⟨rfl, hb⟩
  have d1 : decide (100 < (p.sts.length : Int)) = false := by simp; omega
  have d2 : decide (400 < (p.mvs.length : Int)) = false := by simp; omega
  have d3 : decide (50 < (ms.length : Int)) = false := by simp; omega
  have HI : Hid (PIn w p a1 c1 a2) := ⟨HS.out, HM.out, hc, by omega, by omega⟩
  go_enter Tryd.func3, Tryd.ntmps3
  go_wp2
  go_loopw [7] (fun i wr => ∃ k : Nat, k ≤ ms.length ∧ i = .int .i64 k ∧ Below w.heap.size w wr ∧ Hid (Box wr w.heap.size p a1 c1 a2 c2)) (fun i _ => ms.length - (intOf i).toNat)
  case atStart => exact ⟨0, Nat.zero_le _, rfl, HB0.out, HBX.out⟩
  case round =>
    clear HBX HB0
    obtain ⟨k, hk, rfl, hb, BX⟩ := hrel
    obtain ⟨q0, q1, q2, q3, q4⟩ := BX.out
    have HP := Lib.hid (HI.out.below hb)
    have HKr := Lib.hid (HK.out.below hb)
    have z0 := cell_regrown q0
    have z1 := cell_regrown q1
    have z2 := cell_regrown q2
    have z3 := cell_regrown q3
    have z4 := cell_regrown q4
    by_cases hlt : k < ms.length
    · obtain ⟨b, off, rfl, m1⟩ := HMS.out.below hb k hlt
      generalize ms[k] = x at *
      have y0 := cell_regrown m1
      go_wp2
      refine wp_region_quiet_below (by kernel_rfl) (by kernel_rfl) ?_
      repeat (quiet_step (first | exact Calls.reg_ret (step9 p _ _ _ _ _ x _ (HKr.out.below (below_regrown _ _ _)) (HP.out.below (below_regrown _ _ _))) | exact Calls.reg_ret (step10 p _ _ _ _ _ x _ (HP.out.below (below_regrown _ _ _)))))
      refine wpQuiet_nil ?_
      rintro w' ⟨⟨d, os⟩, rfl⟩
      clear z0 z1 z2 z3 z4 y0
      have hb3 := hb.trans ((below_regrown wr d os).mono hb.size)
      have BX3 := Lib.hid (BX.out.below (below_regrown wr d os))
      generalize grow (redrawn wr d) os = w6 at *
      go_wp2
      go_roundw
      case rel => exact ⟨k + 1, by omega, by go_num, hb3, BX3.out⟩
      case measure => simp [intOf]; omega
    · go_wp2
      refine wp_region_quiet_below (by kernel_rfl) (by kernel_rfl) ?_
      repeat (quiet_step (first | exact Calls.reg_ret (run11 p _ _ _ _ _ _ ms _ (HKr.out.below (below_regrown _ _ _)) (HP.out.below (below_regrown _ _ _)) ((HMS.out.below hb).reg _ _) (by omega)) | exact Calls.reg_ret (run12 p _ _ _ _ _ _ ms _ (HP.out.below (below_regrown _ _ _)) ((HMS.out.below hb).reg _ _) (by omega)) | exact Calls.reg_ret (awake8 _ (HKr.out.below (below_regrown _ _ _)))))
      refine wpQuiet_nil ?_
      rintro w' ⟨⟨d, os⟩, rfl⟩
      clear z0 z1 z2 z3 z4
      have hb3 := hb.trans ((below_regrown wr d os).mono hb.size)
      generalize grow (redrawn wr d) os = w6 at *
      go_wp2
      go_ret
      exact ⟨rfl, hb3⟩
end Go.Proofs.YtlkafolgbkobpaaDoor
