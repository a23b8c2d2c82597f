import Derived.Test.YtlkafolgbkobpaaDoorA9
namespace Go.Proofs.YtlkafolgbkobpaaDoor
open Go.RowKit Go.Sort

def runTo (p : Pr) (ms : List ByteArray) : Int := ms.foldl (fun q m => stepTo p q m p.mvs) p.start
def runP (p : Pr) (ms : List ByteArray) : Int := if checkP p ≠ 0 then -1 else runTo p ms
theorem runP_bad {p : Pr} {ms : List ByteArray} (h : ¬ checkP p = 0) : runP p ms = -1 := by unfold runP; rw [if_pos h]
theorem runP_ok {p : Pr} {ms : List ByteArray} (h : checkP p = 0) : runP p ms = runTo p ms := by unfold runP; rw [if_neg (by simp [h])]
theorem runTo_succ {p : Pr} {ms : List ByteArray} {k : Nat} (h : k < ms.length) : runTo p (ms.take (k + 1)) = stepTo p (runTo p (ms.take k)) ms[k] p.mvs := by
  unfold runTo; rw [List.take_succ_eq_append_getElem h, List.foldl_append]; rfl
theorem runTo_st {p : Pr} (h : checkP p = 0) (ms : List ByteArray) : stB p (runTo p ms) = true := by
  suffices h2 : ∀ (l : List ByteArray) (q : Int), stB p q = true → stB p (l.foldl (fun q m => stepTo p q m p.mvs) q) = true from h2 ms _ (ok_parts h).1
  intro l
  induction l with
  | nil => intro q hq; exact hq
  | cons m l ih => intro q hq; exact ih _ (step_st h hq)

set_option maxHeartbeats 400000 in
theorem run11 (p : Pr) (a1 : Option Addr) (c1 : Nat) (a2 : Option Addr) (c2 : Nat) (am : Option Addr) (cm : Nat) (ms : List ByteArray) (w : World) (hk : KW w) (hi : PIn w p a1 c1 a2) (hms : StrsAt w am ms) (hl : ms.length ≤ 1000000) :
    Calls Tryd.prog 11 #[PrV p a1 c1 a2 c2, .slice am ms.length cm] w (Ret w (.int .i64 (runP p ms))) := by
  unfold PrV
  have HI := Lib.hid hi; clear hi
  have HK := Lib.hid hk; clear hk
  have HMS := Lib.hid hms; clear hms
  have HBX := Lib.hid (Box.new w p a1 c1 a2 c2 25)
  have HB0 : Hid (Below w.heap.size w (w.alloc (.cells #[.string p.cls, .slice a1 p.sts.length c1, .int .i64 p.start, .int .i64 p.err, .slice a2 p.mvs.length c2] 25))) := (Below.refl _ _).alloc (Nat.le_refl _) _
  go_enter Tryd.func11, Tryd.ntmps11
  go_wp2_with fail
  have hi := HI.out.below HB0.out
  refine (check15 p _ _ _ _ _ (HK.out.below HB0.out) hi.hs hi.hm hi.hc).mono ?_
  rintro e w1 ⟨rfl, hb1⟩
  have hb := HB0.out.trans (hb1.mono HB0.out.size)
  have BX := Lib.hid (HBX.out.below hb1)
  clear hi hb1 HBX HB0
  obtain ⟨q0, q1, q2, q3, q4⟩ := BX.out
  by_cases h0 : checkP p = 0
  · have h0' : (checkP p != 0) = false := by simp [h0]
    have H0 := Lib.hid h0; clear h0
    go_wp2
    go_loopw [5, 15] (fun s i wr => ∃ k : Nat, k ≤ ms.length ∧ i = .int .i64 k ∧ s = .int .i64 (runTo p (ms.take k)) ∧ Below w.heap.size w wr ∧ Hid (Box wr w.heap.size p a1 c1 a2 c2)) (fun _ i _ => ms.length - (intOf i).toNat)
    case atStart => exact ⟨0, Nat.zero_le _, rfl, rfl, hb, BX.out⟩
    case round =>
      clear q0 q1 q2 q3 q4 hb BX
      obtain ⟨k, hk, rfl, rfl, hb, BX⟩ := hrel
      obtain ⟨q0, q1, q2, q3, q4⟩ := BX.out
      by_cases hlt : k < ms.length
      · obtain ⟨b, off, rfl, m1⟩ := HMS.out.below hb k hlt
        have HR := Lib.hid (runTo_succ (p := p) hlt)
        generalize ms[k] = x at *
        go_wp2_with fail
        refine (step24 p _ _ _ _ _ _ _ HI.out.h2 (HI.out.hm.below hb)).mono ?_
        rintro e w3 ⟨rfl, hb1⟩
        have hb3 := hb.trans (hb1.mono hb.size)
        have BX3 := Lib.hid (BX.out.below hb1)
        clear hb1
        go_wp2
        go_roundw
        case rel => exact ⟨k + 1, by omega, by go_num, by rw [HR.out], hb3, BX3.out⟩
        case measure => simp [intOf]; omega
      · go_wp2
        go_ret
        refine ⟨ret_int ?_, hb⟩
        rw [runP_ok H0.out, List.take_of_length_le (by omega)]
  · have h0' : (checkP p != 0) = true := by simpa using h0
    have H0 := Lib.hid h0; clear h0
    go_wp2
    go_ret
    exact ⟨ret_int (runP_bad H0.out).symm, hb⟩

set_option maxHeartbeats 400000 in
theorem run12 (p : Pr) (a1 : Option Addr) (c1 : Nat) (a2 : Option Addr) (c2 : Nat) (am : Option Addr) (cm : Nat) (ms : List ByteArray) (w : World) (hi : PIn w p a1 c1 a2) (hms : StrsAt w am ms) (hl : ms.length ≤ 1000000) :
    Calls Tryd.prog 12 #[PrV p a1 c1 a2 c2, .slice am ms.length cm] w (Ret w (.int .i64 (runP p ms))) := by
  unfold PrV
  have HI := Lib.hid hi; clear hi
  have HMS := Lib.hid hms; clear hms
  have HBX := Lib.hid (Box.new w p a1 c1 a2 c2 25)
  have HB0 : Hid (Below w.heap.size w (w.alloc (.cells #[.string p.cls, .slice a1 p.sts.length c1, .int .i64 p.start, .int .i64 p.err, .slice a2 p.mvs.length c2] 25))) := (Below.refl _ _).alloc (Nat.le_refl _) _
  go_enter Tryd.func12, Tryd.ntmps12
  go_wp2_with fail
  have hi := HI.out.below HB0.out
  refine (check16 p _ _ _ _ _ hi.hs hi.hm hi.hc).mono ?_
  rintro e w1 ⟨rfl, hb1⟩
  have hb := HB0.out.trans (hb1.mono HB0.out.size)
  have BX := Lib.hid (HBX.out.below hb1)
  clear hi hb1 HBX HB0
  obtain ⟨q0, q1, q2, q3, q4⟩ := BX.out
  by_cases h0 : checkP p = 0
  · have h0' : (checkP p != 0) = false := by simp [h0]
    have H0 := Lib.hid h0; clear h0
    go_wp2
    go_loopw [5, 6] (fun s i wr => ∃ k : Nat, k ≤ ms.length ∧ i = .int .i64 k ∧ s = .int .i64 (runTo p (ms.take k)) ∧ Below w.heap.size w wr ∧ Hid (Box wr w.heap.size p a1 c1 a2 c2)) (fun _ i _ => ms.length - (intOf i).toNat)
    case atStart => exact ⟨0, Nat.zero_le _, rfl, rfl, hb, BX.out⟩
    case round =>
      clear q0 q1 q2 q3 q4 hb BX
      obtain ⟨k, hk, rfl, rfl, hb, BX⟩ := hrel
      obtain ⟨q0, q1, q2, q3, q4⟩ := BX.out
      by_cases hlt : k < ms.length
      · obtain ⟨b, off, rfl, m1⟩ := HMS.out.below hb k hlt
        have HR := Lib.hid (runTo_succ (p := p) hlt)
        generalize ms[k] = x at *
        have HP := Lib.hid (HI.out.below hb)
        have z0 := cell_regrown q0
        have z1 := cell_regrown q1
        have z2 := cell_regrown q2
        have z3 := cell_regrown q3
        have z4 := cell_regrown q4
        have y0 := cell_regrown m1
        go_wp2
        refine wp_region_quiet_below (by kernel_rfl) (by kernel_rfl) ?_
        repeat (quiet_step (exact Calls.reg_ret (step10 p _ _ _ _ _ x _ (HP.out.below (below_regrown _ _ _)))))
        refine wpQuiet_nil ?_
        rintro w' ⟨⟨d, os⟩, rfl⟩
        clear z0 z1 z2 z3 z4 y0
        have hb3 := hb.trans ((below_regrown wr d os).mono hb.size)
        have BX3 := Lib.hid (BX.out.below (below_regrown wr d os))
        generalize grow (redrawn wr d) os = w6 at *
        go_wp2
        go_roundw
        case rel =>
          refine ⟨k + 1, by omega, by go_num, ?_, hb3, BX3.out⟩
          rw [HR.out, stepP_ok H0.out (runTo_st H0.out _)]
        case measure => simp [intOf]; omega
      · go_wp2
        go_ret
        refine ⟨ret_int ?_, hb⟩
        rw [runP_ok H0.out, List.take_of_length_le (by omega)]
  · have h0' : (checkP p != 0) = true := by simpa using h0
    have H0 := Lib.hid h0; clear h0
    go_wp2
    go_ret
    exact ⟨ret_int (runP_bad H0.out).symm, hb⟩
end Go.Proofs.YtlkafolgbkobpaaDoor
