import Derived.Test.YtlkafolgbkobpaaDoorA15
import Derived.Test.YtlkafolgbkobpaaDoorRegc
namespace Go.Proofs.YtlkafolgbkobpaaDoor
open Go.RowKit Go.Sort

set_option maxRecDepth 100000 in
set_option maxHeartbeats 1000000 in
theorem checks4 (p : Pr) (a1 : Option Addr) (c1 : Nat) (a2 : Option Addr) (c2 : Nat) (w : World) (hk : KW w) (hs : StrsAt w a1 p.sts) (hm : MvsAt w a2 p.mvs) (hc : p.sts.length ≤ c1) :
    Calls Tryd.prog 4 #[PrV p a1 c1 a2 c2] w (Ret w (.bool true)) := by
  unfold PrV
  have HK := Lib.hid hk; clear hk
  have HS := Lib.hid hs; clear hs
  have HM := Lib.hid hm; clear hm
  have HBX := Lib.hid (Box.new w p a1 c1 a2 c2 25)
  have HB0 : Hid (Below w.heap.size w (w.alloc (.cells #[.string p.cls, .slice a1 p.sts.length c1, .int .i64 p.start, .int .i64 p.err, .slice a2 p.mvs.length c2] 25))) := (Below.refl _ _).alloc (Nat.le_refl _) _
  by_cases h1 : 100 < p.sts.length
  · go_enter Tryd.func4, Tryd.ntmps4
    go_wp2_with fail
    refine (awake8 _ (HK.out.below HB0.out)).mono ?_
    rintro e w1 ⟨rfl, hb1⟩
    have hb := HB0.out.trans (hb1.mono HB0.out.size)
    clear hb1
    go_wp2
    go_ret
    exact ⟨rfl, hb⟩
  by_cases h2 : 400 < p.mvs.length
  · go_enter Tryd.func4, Tryd.ntmps4
    go_wp2_with fail
    refine (awake8 _ (HK.out.below HB0.out)).mono ?_
    rintro e w1 ⟨rfl, hb1⟩
    have hb := HB0.out.trans (hb1.mono HB0.out.size)
    clear hb1
    go_wp2
    go_ret
    exact ⟨rfl, hb⟩
  have d1 : decide (100 < (p.sts.length : Int)) = false := by simp; omega
  have d2 : decide (400 < (p.mvs.length : Int)) = false := by simp; omega
  have HI : Hid (PIn w p a1 c1 a2) := ⟨HS.out, HM.out, hc, by omega, by omega⟩
  go_enter Tryd.func4, Tryd.ntmps4
  go_wp2
  have hbox := HBX.out
  generalize w.alloc (.cells #[.string p.cls, .slice a1 p.sts.length c1, .int .i64 p.start, .int .i64 p.err, .slice a2 p.mvs.length c2] 25) = W at *
  obtain ⟨q0, q1, q2, q3, q4⟩ := hbox
  have z0 := cell_regrown q0
  have z1 := cell_regrown q1
  have z2 := cell_regrown q2
  have z3 := cell_regrown q3
  have z4 := cell_regrown q4
  refine wp_region_C (fun w' => ∃ p : Regrown, w' = grow (redrawn W p.d) p.os) (by kernel_rfl) ?_
  refine wpAnyC_take 0 rfl (by kernel_rfl) (fun _ _ _ _ h => h) (reg_start W) (fun K hK => ?_)
  go_simp
  refine hK _ ?_
  clear hK K
  refine wpAnyC_take 2 rfl (by kernel_rfl) (fun _ _ _ _ h => h) (reg_start W) (fun K hK => ?_)
  go_simp
  refine hK _ ?_
  clear hK K
  refine wpAnyC_one 1 rfl (by kernel_rfl) ?_
  go_wp2_with fail
  have hbW : Below w.heap.size w W.drew := HB0.out.drew
  have hWd : Below W.heap.size W W.drew := (Below.refl _ _).drew
  have HPW := Lib.hid (HI.out.below hbW)
  have HKW := Lib.hid (HK.out.below hbW)
  refine (doomed13 p _ _ _ _ _ HKW.out HPW.out).mono ?_
  rintro e w2 ⟨hb2, al, cl, rfl, hil⟩
  have hW2 : Below W.heap.size W w2 := hWd.trans hb2
  have HP2 := Lib.hid (HPW.out.below hb2)
  have HIL := Lib.hid hil; clear hil
  go_wp2
  refine ⟨regrown_of_below hW2, ?_⟩
  refine wpAnyC_one 3 rfl (by kernel_rfl) ?_
  go_wp2_with fail
  refine (doomed14 p _ _ _ _ _ HP2.out).mono ?_
  rintro e w3 ⟨hb3, ar, cr, rfl, hir⟩
  have hW3 : Below W.heap.size W w3 := hW2.trans (hb3.mono hW2.size)
  have HIL := Lib.hid (HIL.out.below hb3)
  have HIR := Lib.hid hir; clear hir
  go_wp2
  refine ⟨regrown_of_below hW3, ?_⟩
  refine wpAnyC_one 4 rfl (by kernel_rfl) ?_
  go_wp2
  refine ⟨regrown_of_below hW3, ?_⟩
  refine wpAnyC_one 5 rfl (by kernel_rfl) ?_
  go_wp2
  refine ⟨regrown_of_below hW3, ?_⟩
  refine wpAnyC_done (by kernel_rfl) ?_ _
  have hb4 : Below w.heap.size w w3 := HB0.out.trans (hW3.mono HB0.out.size)
  have BX3 := Lib.hid (HBX.out.below hW3)
  have hlen : (doomedP p).length ≤ 100 := by
    unfold doomedP truesTo
    split
    · rw [List.length_map]; exact Nat.le_trans (List.length_filter_le _ _) (by simp; omega)
    · simp
  clear z0 z1 z2 z3 z4 q0 q1 q2 q3 q4 hW2 hW3 hbW hWd hb2 hb3 HBX HB0 HPW HKW HP2
  generalize doomedP p = L at *
  go_wp2
  go_loopw [5] (fun i wr => ∃ k : Nat, k ≤ L.length ∧ i = .int .i64 k ∧ Below w3.heap.size w3 wr) (fun i _ => L.length - (intOf i).toNat)
  case atStart => exact ⟨0, Nat.zero_le _, rfl, Below.refl _ _⟩
  case round =>
    obtain ⟨k, hk, rfl, hb⟩ := hrel
    have hb5 : Below w.heap.size w wr := hb4.trans (hb.mono hb4.size)
    have BX := Lib.hid (BX3.out.below hb)
    by_cases hlt : k < L.length
    · obtain ⟨b, off, rfl, m1⟩ := HIL.out.below hb k hlt
      obtain ⟨b', off', rfl, m2⟩ := HIR.out.below hb k hlt
      generalize L[k] = x at *
      go_wp2
      go_quiet (fail)
      go_wp2
      go_roundw
      case rel => exact ⟨k + 1, by omega, by go_num, below_drewN' hb _⟩
      case measure => simp [intOf]; omega
    · obtain ⟨q0, q1, q2, q3, q4⟩ := BX.out
      have HPr := Lib.hid (HI.out.below hb5)
      have HKr := Lib.hid (HK.out.below hb5)
      have z0 := cell_regrown q0
      have z1 := cell_regrown q1
      have z2 := cell_regrown q2
      have z3 := cell_regrown q3
      have z4 := cell_regrown q4
      go_wp2
      refine wp_region_quiet_below (by kernel_rfl) (by kernel_rfl) ?_
      repeat (quiet_step (first | exact Calls.reg_ret (check15 p _ _ _ _ _ (HKr.out.below (below_regrown _ _ _)) (HPr.out.below (below_regrown _ _ _)).hs (HPr.out.below (below_regrown _ _ _)).hm HPr.out.hc) | exact Calls.reg_ret (check16 p _ _ _ _ _ (HPr.out.below (below_regrown _ _ _)).hs (HPr.out.below (below_regrown _ _ _)).hm HPr.out.hc) | exact Calls.reg_ret (awake8 _ (HKr.out.below (below_regrown _ _ _)))))
      refine wpQuiet_nil ?_
      rintro w' ⟨⟨d, os⟩, rfl⟩
      clear z0 z1 z2 z3 z4
      have hb6 := hb5.trans ((below_regrown wr d os).mono hb5.size)
      generalize grow (redrawn wr d) os = w6 at *
      go_wp2
      go_ret
      exact ⟨rfl, hb6⟩
end Go.Proofs.YtlkafolgbkobpaaDoor
