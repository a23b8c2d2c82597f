import Derived.Test.YtlkafolgbkobpaaDoorA27
namespace Go.Proofs.YtlkafolgbkobpaaDoor
open Go.RowKit Go.Sort

theorem index44r (a : Option Addr) (cap : Nat) (ss : List ByteArray) (s : ByteArray) (w : World) (hm : ss.length ≤ 1000000) (hc : StrsAt w a ss) : Calls Tryd.prog 44 #[.slice a ss.length cap, .string s] w (Ret w (.int .i64 (idx ss s))) :=
  (index44 a cap ss s w hm hc).mono fun _ _ ⟨he, hw⟩ => ⟨he, hw ▸ Below.refl _ _⟩

set_option maxRecDepth 100000 in
set_option maxHeartbeats 1000000 in
theorem start64 (G : Nat) (p : Pr) (a1 : Option Addr) (c1 : Nat) (a2 : Option Addr) (c2 : Nat) (a : Option Addr) (cap : Nat) (ws : List ByteArray) (w : World) (B : Nat) (h : RInv G B ⟨p, 2⟩ a1 c1 a2 c2 w) (h0 : 0 < ws.length) (hw : StrsAt w a ws) :
    Calls Tryd.prog 64 #[.pointer (some ⟨G, 0, none⟩), .slice a ws.length cap] w (ReadPost G ⟨p, 2⟩ ws w) := by
  obtain ⟨b, off, rfl, m0⟩ := wd_cell hw 0 h0
  rw [Nat.add_zero] at m0
  have HW := Lib.hid hw; clear hw
  have HR := Lib.hid h; clear h
  have HE : Hid (stepK ⟨p, 2⟩ ws = (if (wd ws 0).toList = [115, 116, 97, 114, 116] ∧ ws.length = 2 then (if idx p.sts (wd ws 1) < 0 then (6, ⟨p, 2⟩) else (0, ⟨{ p with start := idx p.sts (wd ws 1) }, 3⟩)) else (2, ⟨p, 2⟩))) := rfl
  obtain ⟨x0, hx0⟩ : ∃ x, x = wd ws 0 := ⟨_, rfl⟩
  rw [← hx0] at m0 HE
  clear hx0
  by_cases h1 : x0.toList = [115, 116, 97, 114, 116]
  · have t1 : (x0.toList == [115, 116, 97, 114, 116]) = true := by simp [h1]
    by_cases h2 : ws.length = 2
    · rw [if_pos ⟨h1, h2⟩] at HE
      obtain ⟨b', off', hbo, m1⟩ := wd_cell HW.out 1 (by omega)
      obtain ⟨rfl, rfl⟩ : b = b' ∧ off = off' := by simpa using hbo
      clear hbo h1
      have hl1 : 1 < ws.length := by omega
      have hl2 : (1 : Int) < (ws.length : Int) := by omega
      have t2 : ((ws.length : Int) != 2) = false := by simp [h2]
      clear h2
      obtain ⟨x1, hx1⟩ : ∃ x, x = wd ws 1 := ⟨_, rfl⟩
      rw [← hx1] at m1 HE
      clear hx1
      have q1 : w.cell? ⟨G, 1, none⟩ = some (.slice a1 p.sts.length c1) := HR.out.blk.cell 1 (by simp [rdC])
      have hG := HR.out.blk.lt
      have k1 := cell_regrown q1
      have k2 := cell_regrown m1
      have l1 := HR.out.l1
      simp only at l1
      go_enter Tryd.func64, Tryd.ntmps64
      go_wp2
      refine wp_region_quiet_tail (fun w' => ∃ p : Regrown, w' = grow (redrawn w p.d) p.os) 13 (by kernel_rfl) (by kernel_rfl) (reg_start w) ?_
      simp only [List.take_succ_cons, List.take_zero, List.drop_succ_cons, List.drop_zero]
      repeat (quiet_step (exact Calls.reg_ret (index44r _ _ p.sts _ _ (by omega) (HR.out.hs.reg _ _))))
      refine wpQuiet_nil ?_
      rintro w' ⟨⟨d, os⟩, rfl⟩
      have hbG := below_regrown w d os
      have HR1 := Lib.hid (HR.out.below hbG)
      have HBG := Lib.hid (hbG.mono (Nat.le_of_lt hG))
      clear k1 k2 q1 m0 m1 hbG
      generalize grow (redrawn w d) os = W at *
      have qi : W.cell? ⟨G, 2, none⟩ = some (.int .i64 p.start) := HR1.out.blk.cell 2 (by simp [rdC])
      have q6 : W.cell? ⟨G, 6, none⟩ = some (.func (.func 64) #[.pointer (some ⟨G, 0, none⟩)] #[]) := HR1.out.blk.cell 6 (by simp [rdC])
      have fi := HR1.out.blk.free 2
      have f6 := HR1.out.blk.free 6
      obtain ⟨x, hx⟩ : ∃ x, x = idx p.sts x1 := ⟨_, rfl⟩
      rw [← hx] at HE ⊢
      clear hx
      by_cases hx : x < 0
      · rw [if_pos hx] at HE
        have dx : decide (x < 0) = true := by simp [hx]
        go_wp2
        go_ret
        exact ⟨by rw [HE.out]; rfl, below_set HBG.out _ _, fun h => by rw [HE.out] at h; simp at h⟩
      · rw [if_neg hx] at HE
        have dx : decide (x < 0) = false := by simp; omega
        go_wp2
        go_ret
        refine ⟨by rw [HE.out]; rfl, below_set (below_set HBG.out _ _) _ _, fun _ => ?_⟩
        rw [HE.out]
        exact ⟨B, a1, c1, a2, c2, ⟨(HR1.out.blk.set 2 (.int .i64 x)).set 6 (.func (.func 71) #[.pointer (some ⟨G, 0, none⟩)] #[]), (HR1.out.hs.setCell (HR1.out.n1.nb (Nat.le_refl _))).setCell (HR1.out.n1.nb (Nat.le_refl _)), HR1.out.hc1, l1, RInv.ownSet HR1.out.gB (RInv.ownSet HR1.out.gB HR1.out.own _ _) _ _, HR1.out.n1, HR1.out.n2, by simp, fun h => by simp at h, HR1.out.gB, by rw [set_size, set_size]; exact HR1.out.bB⟩⟩
    · rw [if_neg (fun hc => h2 hc.2)] at HE
      have t2 : ((ws.length : Int) != 2) = true := by simp; omega
      clear h1 h2
      go_enter Tryd.func64, Tryd.ntmps64
      go_wp2
      go_ret
      exact ⟨by rw [HE.out]; rfl, Below.refl _ _, fun h => by rw [HE.out] at h; simp at h⟩
  · rw [if_neg (fun hc => h1 hc.1)] at HE
    have t1 : (x0.toList == [115, 116, 97, 114, 116]) = false := by simpa using h1
    clear h1
    go_enter Tryd.func64, Tryd.ntmps64
    go_wp2
    go_ret
    exact ⟨by rw [HE.out]; rfl, Below.refl _ _, fun h => by rw [HE.out] at h; simp at h⟩

set_option maxRecDepth 100000 in
set_option maxHeartbeats 1000000 in
theorem failure71 (G : Nat) (p : Pr) (a1 : Option Addr) (c1 : Nat) (a2 : Option Addr) (c2 : Nat) (a : Option Addr) (cap : Nat) (ws : List ByteArray) (w : World) (B : Nat) (h : RInv G B ⟨p, 3⟩ a1 c1 a2 c2 w) (h0 : 0 < ws.length) (hw : StrsAt w a ws) :
    Calls Tryd.prog 71 #[.pointer (some ⟨G, 0, none⟩), .slice a ws.length cap] w (ReadPost G ⟨p, 3⟩ ws w) := by
  obtain ⟨b, off, rfl, m0⟩ := wd_cell hw 0 h0
  rw [Nat.add_zero] at m0
  have HW := Lib.hid hw; clear hw
  have HR := Lib.hid h; clear h
  have HE : Hid (stepK ⟨p, 3⟩ ws = (if (wd ws 0).toList = [101, 114, 114, 111, 114] ∧ ws.length = 2 then (if idx p.sts (wd ws 1) < 0 then (6, ⟨p, 3⟩) else (0, ⟨{ p with err := idx p.sts (wd ws 1) }, 4⟩)) else (2, ⟨p, 3⟩))) := rfl
  obtain ⟨x0, hx0⟩ : ∃ x, x = wd ws 0 := ⟨_, rfl⟩
  rw [← hx0] at m0 HE
  clear hx0
  by_cases h1 : x0.toList = [101, 114, 114, 111, 114]
  · have t1 : (x0.toList == [101, 114, 114, 111, 114]) = true := by simp [h1]
    by_cases h2 : ws.length = 2
    · rw [if_pos ⟨h1, h2⟩] at HE
      obtain ⟨b', off', hbo, m1⟩ := wd_cell HW.out 1 (by omega)
      obtain ⟨rfl, rfl⟩ : b = b' ∧ off = off' := by simpa using hbo
      clear hbo h1
      have hl1 : 1 < ws.length := by omega
      have hl2 : (1 : Int) < (ws.length : Int) := by omega
      have t2 : ((ws.length : Int) != 2) = false := by simp [h2]
      clear h2
      obtain ⟨x1, hx1⟩ : ∃ x, x = wd ws 1 := ⟨_, rfl⟩
      rw [← hx1] at m1 HE
      clear hx1
      have q1 : w.cell? ⟨G, 1, none⟩ = some (.slice a1 p.sts.length c1) := HR.out.blk.cell 1 (by simp [rdC])
      have hG := HR.out.blk.lt
      have k1 := cell_regrown q1
      have k2 := cell_regrown m1
      have l1 := HR.out.l1
      simp only at l1
      go_enter Tryd.func71, Tryd.ntmps71
      go_wp2
      refine wp_region_quiet_tail (fun w' => ∃ p : Regrown, w' = grow (redrawn w p.d) p.os) 13 (by kernel_rfl) (by kernel_rfl) (reg_start w) ?_
      simp only [List.take_succ_cons, List.take_zero, List.drop_succ_cons, List.drop_zero]
      repeat (quiet_step (exact Calls.reg_ret (index44r _ _ p.sts _ _ (by omega) (HR.out.hs.reg _ _))))
      refine wpQuiet_nil ?_
      rintro w' ⟨⟨d, os⟩, rfl⟩
      have hbG := below_regrown w d os
      have HR1 := Lib.hid (HR.out.below hbG)
      have HBG := Lib.hid (hbG.mono (Nat.le_of_lt hG))
      clear k1 k2 q1 m0 m1 hbG
      generalize grow (redrawn w d) os = W at *
      have qi : W.cell? ⟨G, 3, none⟩ = some (.int .i64 p.err) := HR1.out.blk.cell 3 (by simp [rdC])
      have q6 : W.cell? ⟨G, 6, none⟩ = some (.func (.func 71) #[.pointer (some ⟨G, 0, none⟩)] #[]) := HR1.out.blk.cell 6 (by simp [rdC])
      have fi := HR1.out.blk.free 3
      have f6 := HR1.out.blk.free 6
      obtain ⟨x, hx⟩ : ∃ x, x = idx p.sts x1 := ⟨_, rfl⟩
      rw [← hx] at HE ⊢
      clear hx
      by_cases hx : x < 0
      · rw [if_pos hx] at HE
        have dx : decide (x < 0) = true := by simp [hx]
        go_wp2
        go_ret
        exact ⟨by rw [HE.out]; rfl, below_set HBG.out _ _, fun h => by rw [HE.out] at h; simp at h⟩
      · rw [if_neg hx] at HE
        have dx : decide (x < 0) = false := by simp; omega
        go_wp2
        go_ret
        refine ⟨by rw [HE.out]; rfl, below_set (below_set HBG.out _ _) _ _, fun _ => ?_⟩
        rw [HE.out]
        exact ⟨B, a1, c1, a2, c2, ⟨(HR1.out.blk.set 3 (.int .i64 x)).set 6 (.func (.func 79) #[.pointer (some ⟨G, 0, none⟩)] #[]), (HR1.out.hs.setCell (HR1.out.n1.nb (Nat.le_refl _))).setCell (HR1.out.n1.nb (Nat.le_refl _)), HR1.out.hc1, l1, RInv.ownSet HR1.out.gB (RInv.ownSet HR1.out.gB HR1.out.own _ _) _ _, HR1.out.n1, HR1.out.n2, by simp, fun h => by simp at h, HR1.out.gB, by rw [set_size, set_size]; exact HR1.out.bB⟩⟩
    · rw [if_neg (fun hc => h2 hc.2)] at HE
      have t2 : ((ws.length : Int) != 2) = true := by simp; omega
      clear h1 h2
      go_enter Tryd.func71, Tryd.ntmps71
      go_wp2
      go_ret
      exact ⟨by rw [HE.out]; rfl, Below.refl _ _, fun h => by rw [HE.out] at h; simp at h⟩
  · rw [if_neg (fun hc => h1 hc.1)] at HE
    have t1 : (x0.toList == [101, 114, 114, 111, 114]) = false := by simpa using h1
    clear h1
    go_enter Tryd.func71, Tryd.ntmps71
    go_wp2
    go_ret
    exact ⟨by rw [HE.out]; rfl, Below.refl _ _, fun h => by rw [HE.out] at h; simp at h⟩
end Go.Proofs.YtlkafolgbkobpaaDoor
