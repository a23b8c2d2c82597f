import Derived.Test.YtlkafolgbkobpaaDoorA7
namespace Go.Proofs.YtlkafolgbkobpaaDoor
open Go.RowKit Go.Sort

theorem isState23s (p : Pr) (a1 : Option Addr) (c1 : Nat) (a2 : Option Addr) (c2 : Nat) (q : Int) (w : World) :
    Calls Tryd.prog 23 #[PrV p a1 c1 a2 c2, .int .i64 q] w (Ret w (.bool (stB p q))) := isState23 p a1 c1 a2 c2 q w
theorem StrsAt.reg {w : World} {a : Option Addr} {l : List ByteArray} (h : StrsAt w a l) (d : Nat) (os : Array Obj) : StrsAt (grow (redrawn w d) os) a l := h.below (below_regrown w d os)

set_option maxRecDepth 100000 in
set_option maxHeartbeats 1000000 in
theorem check15 (p : Pr) (a1 : Option Addr) (c1 : Nat) (a2 : Option Addr) (c2 : Nat) (w : World) (hk : KW w) (hs : StrsAt w a1 p.sts) (hm : MvsAt w a2 p.mvs) (hc : p.sts.length ≤ c1) :
    Calls Tryd.prog 15 #[PrV p a1 c1 a2 c2] w (Ret w (.int .i64 (checkP p))) := by
  unfold PrV
  have hbox := Box.new w p a1 c1 a2 c2 25
  have hb0 : Below w.heap.size w (w.alloc (.cells #[.string p.cls, .slice a1 p.sts.length c1, .int .i64 p.start, .int .i64 p.err, .slice a2 p.mvs.length c2] 25)) := (Below.refl _ _).alloc (Nat.le_refl _) _
  have HS := Lib.hid hs; clear hs
  have HM := Lib.hid hm; clear hm
  have HBX := Lib.hid hbox; clear hbox
  have HB0 := Lib.hid hb0; clear hb0
  have HK := Lib.hid hk; clear hk
  go_enter Tryd.func15, Tryd.ntmps15
  cases hid : identB p.cls
  · go_wp2_with fail
    refine (ident25 _ _ (HK.out.below HB0.out)).mono ?_
    rintro e w1 ⟨rfl, rfl⟩
    rw [hid]
    go_wp2
    go_ret
    exact ⟨ret_int (check_a hid).symm, HB0.out⟩
  go_wp2_with fail
  refine (ident25 _ _ (HK.out.below HB0.out)).mono ?_
  rintro e w1 ⟨rfl, rfl⟩
  rw [hid]
  have BX := Lib.hid HBX.out
  have HB := Lib.hid HB0.out
  clear HBX HB0
  generalize w.alloc (.cells #[.string p.cls, .slice a1 p.sts.length c1, .int .i64 p.start, .int .i64 p.err, .slice a2 p.mvs.length c2] 25) = w1 at *
  have hb := HB.out; clear HB
  obtain ⟨q0, q1, q2, q3, q4⟩ := BX.out
  by_cases h16 : 16 < p.sts.length
  · go_wp2
    go_ret
    exact ⟨ret_int (check_b hid (.inl h16)).symm, hb⟩
  by_cases h256 : 256 < p.mvs.length
  · go_wp2
    go_ret
    exact ⟨ret_int (check_b hid (.inr h256)).symm, hb⟩
  have H2 : Hid (¬ (16 < p.sts.length ∨ 256 < p.mvs.length)) := by show ¬ _; omega
  by_cases h0 : p.sts.length = 0
  · have h0' : ((p.sts.length : Int) == 0) = true := by simp [h0]
    have H0 := Lib.hid h0; clear h0
    go_wp2
    go_ret
    exact ⟨ret_int (check_c hid H2.out H0.out).symm, hb⟩
  have h0' : ((p.sts.length : Int) == 0) = false := by simpa using h0
  have H0 := Lib.hid h0; clear h0
  have d16 : decide (16 < (p.sts.length : Int)) = false := by simp; omega
  have d256 : decide (256 < (p.mvs.length : Int)) = false := by simp; omega
  go_wp2
  go_loopw [28] (fun i wr => ∃ k : Nat, k ≤ p.sts.length ∧ i = .int .i64 k ∧ Hid (stsErr p.sts k = stsErr p.sts 0) ∧ Below w.heap.size w wr ∧ Hid (Box wr w.heap.size p a1 c1 a2 c2)) (fun i _ => p.sts.length - (intOf i).toNat)
  case atStart => exact ⟨0, Nat.zero_le _, rfl, rfl, hb, BX.out⟩
  case round =>
    clear q0 q1 q2 q3 q4 hb BX
    obtain ⟨k, hk, rfl, HI, hb, BX⟩ := hrel
    obtain ⟨q0, q1, q2, q3, q4⟩ := BX.out
    by_cases hlt : k < p.sts.length
    · have HS1 := Lib.hid (HS.out.below hb)
      obtain ⟨b, off, rfl, m1⟩ := HS1.out k hlt
      obtain ⟨x, hx⟩ : ∃ x, x = p.sts[k] := ⟨_, rfl⟩
      rw [← hx] at m1
      have HX := Lib.hid hx; clear hx
      cases hix : identB x
      · have FIN : Hid (checkP p = 5) := by
          show _ = _
          have h5 : stsErr p.sts 0 = 5 := by rw [← HI.out]; exact stsErr_name hlt (by rw [← HX.out]; exact hix)
          rw [check_d hid H2.out H0.out (by rw [h5]; decide), h5]
        go_wp2_with (go_at_call 25; refine (ident25 _ _ (HK.out.below hb)).mono ?_; rintro e w' ⟨rfl, rfl⟩; rw [hix])
        go_ret
        exact ⟨ret_int FIN.out.symm, hb⟩
      go_wp2_with fail
      refine (ident25 _ _ (HK.out.below hb)).mono ?_
      rintro e w2 ⟨rfl, rfl⟩
      rw [hix]
      go_wp2_with fail
      refine (contains26n _ _ _ (p.sts.take k) x _ (by simp; omega) (by omega) (HS1.out.take k)).mono ?_
      rintro e w2 ⟨rfl, rfl⟩
      by_cases hin : 0 ≤ idx (p.sts.take k) x
      · have FIN : Hid (checkP p = 7) := by
          show _ = _
          have h5 : stsErr p.sts 0 = 7 := by rw [← HI.out]; exact stsErr_ex hlt (by rw [← HX.out]; exact hix) (by rw [← HX.out]; exact hin)
          rw [check_d hid H2.out H0.out (by rw [h5]; decide), h5]
        go_wp2
        go_ret
        exact ⟨ret_int FIN.out.symm, hb⟩
      · go_wp2
        go_roundw
        case rel =>
          refine ⟨k + 1, by omega, by go_num, ?_, hb, BX.out⟩
          show _ = _
          rw [← HI.out]
          exact (stsErr_ok hlt (by rw [← HX.out]; exact hix) (by rw [← HX.out]; omega)).symm
        case measure => simp [intOf]; omega
    have hE : stsErr p.sts 0 = 0 := by rw [← HI.out]; exact stsErr_end hlt
    have HE := Lib.hid hE; clear hE
    cases s1 : stB p p.start
    · go_wp2_with fail
      refine (isState23s p _ _ _ _ _ _).mono ?_
      rintro e w2 ⟨rfl, hb1⟩
      rw [s1]
      have hb2 := hb.trans (hb1.mono hb.size)
      clear hb1
      go_wp2
      go_ret
      exact ⟨ret_int (check_e hid H2.out H0.out HE.out (.inl s1)).symm, hb2⟩
    go_wp2_with fail
    refine (isState23s p _ _ _ _ _ _).mono ?_
    rintro e w2 ⟨rfl, hb1⟩
    rw [s1]
    have hb2 := hb.trans (hb1.mono hb.size)
    have BX2 := Lib.hid (BX.out.below hb1)
    clear q0 q1 q2 q3 q4 hb hb1 BX
    obtain ⟨q0, q1, q2, q3, q4⟩ := BX2.out
    cases s2 : stB p p.err
    · go_wp2_with fail
      refine (isState23s p _ _ _ _ _ _).mono ?_
      rintro e w3 ⟨rfl, hb1⟩
      rw [s2]
      have hb3 := hb2.trans (hb1.mono hb2.size)
      clear hb1
      go_wp2
      go_ret
      exact ⟨ret_int (check_e hid H2.out H0.out HE.out (.inr s2)).symm, hb3⟩
    go_wp2_with fail
    refine (isState23s p _ _ _ _ _ _).mono ?_
    rintro e w3 ⟨rfl, hb1⟩
    rw [s2]
    have hb := hb2.trans (hb1.mono hb2.size)
    have BX := Lib.hid (BX2.out.below hb1)
    clear q0 q1 q2 q3 q4 hb2 hb1 BX2
    obtain ⟨q0, q1, q2, q3, q4⟩ := BX.out
    by_cases e1 : p.start = p.err
    · have e1' : (p.start == p.err) = true := by simp [e1]
      have E1 := Lib.hid e1; clear e1
      go_wp2
      go_ret
      exact ⟨ret_int (check_f hid H2.out H0.out HE.out s1 s2 E1.out).symm, hb⟩
    have e1' : (p.start == p.err) = false := by simpa using e1
    have E1 := Lib.hid e1; clear e1
    have FG := Lib.hid (check_g hid H2.out H0.out HE.out s1 s2 E1.out)
    go_wp2
    clear HI
    go_loopw [63] (fun i wr => ∃ k : Nat, k ≤ p.mvs.length ∧ i = .int .i64 k ∧ Hid (mvsErr p k = checkP p) ∧ Below w.heap.size w wr ∧ Hid (Box wr w.heap.size p a1 c1 a2 c2)) (fun i _ => p.mvs.length - (intOf i).toNat)
    case atStart => exact ⟨0, Nat.zero_le _, rfl, FG.out.symm, hb, BX.out⟩
    case round =>
      clear q0 q1 q2 q3 q4 hb BX
      obtain ⟨k, hk, rfl, HI, hb, BX⟩ := hrel
      obtain ⟨q0, q1, q2, q3, q4⟩ := BX.out
      have hlt0 : w.heap.size < wr.heap.size := BX.out.lt
      by_cases hlt : k < p.mvs.length
      · have HM1 := Lib.hid (HM.out.below hb)
        obtain ⟨b, off, rfl, m1, m2, m3⟩ := HM1.out k hlt
        obtain ⟨x, hx⟩ : ∃ x, x = p.mvs[k] := ⟨_, rfl⟩
        rw [← hx] at m1 m2 m3
        have HX := Lib.hid hx; clear hx
        have fin : ∀ (e : Int), mvErr p (if 0 < k then p.mvs[k - 1]? else none) x = e → e ≠ 0 → checkP p = e := fun e he h0 => by
          rw [← HI.out]; rw [HX.out] at he; exact mvsErr_bad hlt he h0
        have FIN := Lib.hid fin; clear fin
        have bx := Lib.hid (box_cells wr x 46)
        have hbA : Below wr.heap.size wr (wr.alloc (.cells #[.int .i64 x.frm, .string x.meth, .int .i64 x.to] 46)) := (Below.refl _ _).alloc (Nat.le_refl _) _
        have HBA := Lib.hid hbA; clear hbA
        cases f1 : stB p x.frm
        · go_wp2_with fail
          refine (isState23s p _ _ _ _ _ _).mono ?_
          rintro e w4 ⟨rfl, hb1⟩
          rw [f1]
          have hb2 := hb.trans ((HBA.out.mono hb.size).trans (hb1.mono (Nat.le_trans hb.size HBA.out.size)))
          clear hb1
          go_wp2
          go_ret
          exact ⟨ret_int (FIN.out 4 (mvErr_range (.inl f1)) (by decide)).symm, hb2⟩
        go_wp2_with fail
        refine (isState23s p _ _ _ _ _ _).mono ?_
        rintro e w4 ⟨rfl, hb1⟩
        rw [f1]
        have hb2 := hb.trans ((HBA.out.mono hb.size).trans (hb1.mono (Nat.le_trans hb.size HBA.out.size)))
        have BX2 := Lib.hid ((BX.out.below HBA.out).below hb1)
        have HM2 := Lib.hid ((HM1.out.below HBA.out).below hb1)
        obtain ⟨x0, x1, x2⟩ := bx.out
        have x0 := cell_below hb1 x0
        have x1 := cell_below hb1 x1
        have x2 := cell_below hb1 x2
        have hlt1 : wr.heap.size < w4.heap.size := World.block_lt_of_cell? _ _ x0
        clear q0 q1 q2 q3 q4 hb1 hb BX HBA bx m1 m2 m3 HM1
        obtain ⟨q0, q1, q2, q3, q4⟩ := BX2.out
        cases f2 : stB p x.to
        · go_wp2_with fail
          refine (isState23s p _ _ _ _ _ _).mono ?_
          rintro e w5 ⟨rfl, hb1⟩
          rw [f2]
          have hb3 := hb2.trans (hb1.mono hb2.size)
          clear hb1
          go_wp2
          go_ret
          exact ⟨ret_int (FIN.out 4 (mvErr_range (.inr f2)) (by decide)).symm, hb3⟩
        go_wp2_with fail
        refine (isState23s p _ _ _ _ _ _).mono ?_
        rintro e w5 ⟨rfl, hb1⟩
        rw [f2]
        have hb := hb2.trans (hb1.mono hb2.size)
        have BX := Lib.hid (BX2.out.below hb1)
        have HM3 := Lib.hid (HM2.out.below hb1)
        have x0 := cell_below hb1 x0
        have x1 := cell_below hb1 x1
        have x2 := cell_below hb1 x2
        clear q0 q1 q2 q3 q4 hb1 hb2 BX2 HM2
        obtain ⟨q0, q1, q2, q3, q4⟩ := BX.out
        cases f3 : identB x.meth
        · go_wp2_with (go_at_call 25; refine (ident25 _ _ (HK.out.below hb)).mono ?_; rintro e w' ⟨rfl, rfl⟩; rw [f3])
          go_ret
          exact ⟨ret_int (FIN.out 5 (mvErr_name f1 f2 f3) (by decide)).symm, hb⟩
        go_wp2_with fail
        refine (ident25 _ _ (HK.out.below hb)).mono ?_
        rintro e w6 ⟨rfl, rfl⟩
        rw [f3]
        by_cases e1 : x.frm = p.err
        · have e1' : (x.frm == p.err) = true := by simp [e1]
          have E2 := Lib.hid e1; clear e1
          go_wp2
          go_ret
          exact ⟨ret_int (FIN.out 22 (mvErr_state f1 f2 f3 E2.out) (by decide)).symm, hb⟩
        have e1' : (x.frm == p.err) = false := by simpa using e1
        have E2 := Lib.hid e1; clear e1
        by_cases k0 : k = 0
        · subst k0
          go_wp2
          go_quiet (fail)
          go_wp2
          go_roundw
          case rel =>
            refine ⟨1, by omega, by go_num, ?_, below_drewN' hb _, BX.out.below (below_drewN' (Below.refl _ _) _)⟩
            show _ = _
            rw [← HI.out]
            exact (mvsErr_ok hlt (by rw [← HX.out]; simp only [Nat.lt_irrefl, if_false]; exact mvErr_none f1 f2 f3 E2.out)).symm
          case measure => simp [intOf]; omega
        obtain ⟨j, rfl⟩ : ∃ j, k = j + 1 := ⟨k - 1, by omega⟩
        obtain ⟨b', off', hbo, m1, m2, m3⟩ := HM3.out j (by omega)
        obtain ⟨rfl, rfl⟩ : b = b' ∧ off = off' := by simpa using hbo
        obtain ⟨y, hy⟩ : ∃ y, y = p.mvs[j] := ⟨_, rfl⟩
        rw [← hy] at m1 m2 m3
        have HY : Hid (mvErr p (if 0 < j + 1 then p.mvs[j + 1 - 1]? else none) p.mvs[j + 1] = if 0 ≤ cmpM y x then 13 else 0) := by
          show _ = _
          rw [if_pos (by omega), ← HX.out, show p.mvs[j + 1 - 1]? = some y from by simp [hy, show j < p.mvs.length by omega]]
          exact mvErr_some f1 f2 f3 E2.out
        clear hy
        have ok : cmpM y x < 0 → Hid (mvsErr p (j + 1 + 1) = checkP p) := fun h => by
          show _ = _
          rw [← HI.out]
          exact (mvsErr_ok hlt (by rw [HY.out, if_neg (by omega)])).symm
        have bad : 0 ≤ cmpM y x → checkP p = 13 := fun h => FIN.out 13 (by have := HY.out; rw [if_pos h, ← HX.out] at this; exact this) (by decide)
        have OK := Lib.hid ok; clear ok
        have BAD := Lib.hid bad; clear bad
        go_wp2
        have g1 : decide ((0 : Int) < (j : Int) + 1) = true := by simp only [decide_eq_true_eq]; omega
        have g3 : (j : Int) < (p.mvs.length : Int) := by omega
        have g4 : j < p.mvs.length := by omega
        have g2 : IntKind.i64.wrap (j : Int) = (j : Int) := IntWalk.i64_in _ (by omega)
        have z0 := cell_regrown x0
        have z1 := cell_regrown x1
        have z2 := cell_regrown x2
        have z4 := cell_regrown q4
        have y0 := cell_regrown m1
        have y1 := cell_regrown m2
        have y2 := cell_regrown m3
        refine wp_region_quiet_below (by kernel_rfl) (by kernel_rfl) ?_
        repeat (quiet_step (exact Calls.reg_ret (compare27 y x _)))
        refine wpQuiet_nil ?_
        rintro w' ⟨⟨d, os⟩, rfl⟩
        clear z0 z1 z2 z4 y0 y1 y2 g2 g1 g3 g4
        have hb3 := hb.trans ((below_regrown w5 d os).mono hb.size)
        have BX3 := Lib.hid (BX.out.below (below_regrown w5 d os))
        generalize grow (redrawn w5 d) os = w6 at *
        by_cases hc : 0 ≤ cmpM y x
        · go_wp2
          go_ret
          exact ⟨ret_int (BAD.out hc).symm, hb3⟩
        · go_wp2
          go_roundw
          case rel => exact ⟨j + 1 + 1, by omega, by go_num, OK.out (by omega), hb3, BX3.out⟩
          case measure => simp [intOf]; omega
      · go_wp2
        go_ret
        refine ⟨ret_int ?_, hb⟩
        rw [← HI.out, mvsErr_end hlt]
end Go.Proofs.YtlkafolgbkobpaaDoor
