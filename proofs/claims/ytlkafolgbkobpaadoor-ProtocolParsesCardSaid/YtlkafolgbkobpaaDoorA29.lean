import Derived.Test.YtlkafolgbkobpaaDoorA28
namespace Go.Proofs.YtlkafolgbkobpaaDoor
open Go.RowKit Go.Sort

/-- a world with two cells -/
structure WC (A B : Addr) (x y : Value) where
  u : World
  h1 : u.cell? A = some x
  h2 : u.cell? B = some y

set_option maxRecDepth 100000 in
set_option maxHeartbeats 2000000 in
theorem move79 (G : Nat) (p : Pr) (a1 : Option Addr) (c1 : Nat) (a2 : Option Addr) (c2 : Nat) (a : Option Addr) (cap : Nat) (ws : List ByteArray) (w : World) (B : Nat) (h : RInv G B ⟨p, 4⟩ a1 c1 a2 c2 w) (h0 : 0 < ws.length) (hw : StrsAt w a ws) (hml : p.mvs.length ≤ 100000) (hbm : ∀ b off, a = some ⟨b, off, none⟩ → some b ≠ (Value.slice a2 p.mvs.length c2).ownBlock) :
    Calls Tryd.prog 79 #[.pointer (some ⟨G, 0, none⟩), .slice a ws.length cap] w (ReadPost G ⟨p, 4⟩ ws w) := by
  obtain ⟨b, off, rfl, m0⟩ := wd_cell hw 0 h0
  rw [Nat.add_zero] at m0
  have HW := Lib.hid hw; clear hw
  have HR := Lib.hid h; clear h
  have HE : Hid (stepK ⟨p, 4⟩ ws = (if (wd ws 0).toList = [101, 110, 100] ∧ ws.length = 1 then (0, ⟨p, 5⟩)
    else if (wd ws 0).toList = [109, 111, 118, 101] ∧ ws.length = 4 then (if idx p.sts (wd ws 1) < 0 ∨ idx p.sts (wd ws 3) < 0 then (6, ⟨p, 4⟩) else (0, ⟨{ p with mvs := p.mvs ++ [⟨idx p.sts (wd ws 1), wd ws 2, idx p.sts (wd ws 3)⟩] }, 4⟩)) else (2, ⟨p, 4⟩))) := rfl
  obtain ⟨x0, hx0⟩ : ∃ x, x = wd ws 0 := ⟨_, rfl⟩
  rw [← hx0] at m0 HE
  clear hx0
  have hG := HR.out.blk.lt
  by_cases hend : x0.toList = [101, 110, 100] ∧ ws.length = 1
  · rw [if_pos hend] at HE
    obtain ⟨h1, h2⟩ := hend
    have t1 : (x0.toList == [101, 110, 100]) = true := by simp [h1]
    have t2 : ((ws.length : Int) == 1) = true := by simp [h2]
    clear h1 h2
    have q5 : w.cell? ⟨G, 5, none⟩ = some (.bool false) := HR.out.blk.cell 5 (by simp [rdC])
    have q6 : w.cell? ⟨G, 6, none⟩ = some (.func (.func 79) #[.pointer (some ⟨G, 0, none⟩)] #[]) := HR.out.blk.cell 6 (by simp [rdC])
    have f5 := HR.out.blk.free 5
    have f6 := HR.out.blk.free 6
    go_enter Tryd.func79, Tryd.ntmps79
    go_wp2
    go_ret
    refine ⟨by rw [HE.out]; rfl, below_set (below_set (Below.refl _ _) _ _) _ _, fun _ => ?_⟩
    rw [HE.out]
    exact ⟨B, a1, c1, a2, c2, ⟨(HR.out.blk.set 5 (.bool true)).set 6 (.func (.func 83) #[.pointer (some ⟨G, 0, none⟩)] #[]), (HR.out.hs.setCell (HR.out.n1.nb (Nat.le_refl _))).setCell (HR.out.n1.nb (Nat.le_refl _)), HR.out.hc1, HR.out.l1, RInv.ownSet HR.out.gB (RInv.ownSet HR.out.gB HR.out.own _ _) _ _, HR.out.n1, HR.out.n2, by simp, fun h => by simp at h, HR.out.gB, by rw [set_size, set_size]; exact HR.out.bB⟩⟩
  rw [if_neg hend] at HE
  have hfirst : (x0.toList == [101, 110, 100]) = false ∨ ((x0.toList == [101, 110, 100]) = true ∧ ((ws.length : Int) == 1) = false) := by
    by_cases h1 : x0.toList = [101, 110, 100]
    · exact .inr ⟨by simp [h1], by simp; intro h2; exact hend ⟨h1, by omega⟩⟩
    · exact .inl (by simpa using h1)
  clear hend
  by_cases hmv : x0.toList = [109, 111, 118, 101] ∧ ws.length = 4
  · rw [if_pos hmv] at HE
    obtain ⟨h1, h2⟩ := hmv
    have t1 : (x0.toList == [101, 110, 100]) = false := by rw [h1]; rfl
    have t3 : (x0.toList == [109, 111, 118, 101]) = true := by simp [h1]
    have t4 : ((ws.length : Int) != 4) = false := by simp [h2]
    have g1 : (1 : Int) < (ws.length : Int) := by omega
    have g2 : (2 : Int) < (ws.length : Int) := by omega
    have g3 : (3 : Int) < (ws.length : Int) := by omega
    obtain ⟨b', off', hbo, m1⟩ := wd_cell HW.out 1 (by omega)
    obtain ⟨rfl, rfl⟩ : b = b' ∧ off = off' := by simpa using hbo
    clear hbo
    obtain ⟨b', off', hbo, m2⟩ := wd_cell HW.out 2 (by omega)
    obtain ⟨rfl, rfl⟩ : b = b' ∧ off = off' := by simpa using hbo
    clear hbo
    obtain ⟨b', off', hbo, m3⟩ := wd_cell HW.out 3 (by omega)
    obtain ⟨rfl, rfl⟩ : b = b' ∧ off = off' := by simpa using hbo
    clear hbo h1 h2 hfirst
    obtain ⟨x1, hx1⟩ : ∃ x, x = wd ws 1 := ⟨_, rfl⟩
    obtain ⟨x2, hx2⟩ : ∃ x, x = wd ws 2 := ⟨_, rfl⟩
    obtain ⟨x3, hx3⟩ : ∃ x, x = wd ws 3 := ⟨_, rfl⟩
    rw [← hx1] at m1 HE
    rw [← hx2] at m2 HE
    rw [← hx3] at m3 HE
    clear hx1 hx2 hx3
    have q1 : w.cell? ⟨G, 1, none⟩ = some (.slice a1 p.sts.length c1) := HR.out.blk.cell 1 (by simp [rdC])
    have k1 := cell_regrown q1
    have k2 := cell_regrown m1
    have k3 := cell_regrown m3
    have l1 := HR.out.l1
    simp only at l1
    go_enter Tryd.func79, Tryd.ntmps79
    go_wp2
    refine wp_region_quiet_below (by kernel_rfl) (by kernel_rfl) ?_
    repeat (quiet_step (exact Calls.reg_ret (index44r _ _ p.sts _ _ (by omega) (HR.out.hs.reg _ _))))
    refine wpQuiet_nil ?_
    rintro w' ⟨⟨d, os⟩, rfl⟩
    have hbG := below_regrown w d os
    have HR1 := Lib.hid (HR.out.below hbG)
    have HBG := Lib.hid (hbG.mono (Nat.le_of_lt hG))
    have n2 := cell_below hbG m2
    have hG1 := HR1.out.blk.lt
    clear k1 k2 k3 q1 m0 m1 m2 m3 hbG
    generalize grow (redrawn w d) os = W at *
    obtain ⟨x, hx⟩ : ∃ x, x = idx p.sts x1 := ⟨_, rfl⟩
    obtain ⟨y, hy⟩ : ∃ y, y = idx p.sts x3 := ⟨_, rfl⟩
    rw [← hx, ← hy] at HE ⊢
    clear hx hy
    by_cases hx : x < 0
    · rw [if_pos (.inl hx)] at HE
      have dx : decide (x < 0) = true := by simp [hx]
      go_wp2
      go_ret
      exact ⟨by rw [HE.out]; rfl, HBG.out, fun h => by rw [HE.out] at h; simp at h⟩
    have dx : decide (x < 0) = false := by simp; omega
    by_cases hy : y < 0
    · rw [if_pos (.inr hy)] at HE
      have dy : decide (y < 0) = true := by simp [hy]
      go_wp2
      go_ret
      exact ⟨by rw [HE.out]; rfl, HBG.out, fun h => by rw [HE.out] at h; simp at h⟩
    have dy : decide (y < 0) = false := by simp; omega
    rw [if_neg (by omega)] at HE
    go_wp2
    have q4 : W.cell? ⟨G, 4, none⟩ = some (.slice a2 p.mvs.length c2) := HR1.out.blk.cell 4 (by simp [rdC])
    have f4 := HR1.out.blk.free 4
    have k4 : ∀ q : WC ⟨G, 4, none⟩ ⟨b, off + 2, none⟩ (.slice a2 p.mvs.length c2) (.string x2), q.u.cell? ⟨G, 4, none⟩ = some (.slice a2 p.mvs.length c2) := fun q => q.h1
    have k5 : ∀ q : WC ⟨G, 4, none⟩ ⟨b, off + 2, none⟩ (.slice a2 p.mvs.length c2) (.string x2), q.u.cell? ⟨b, off + 2, none⟩ = some (.string x2) := fun q => q.h2
    have hne : Nonempty (WC ⟨G, 4, none⟩ ⟨b, off + 2, none⟩ (.slice a2 p.mvs.length c2) (.string x2)) := ⟨⟨W, q4, n2⟩⟩
    have q4d : ({ W with drawn := W.drawn + 1 } : World).cell? ⟨G, 4, none⟩ = some (.slice a2 p.mvs.length c2) := q4
    have n2d : ({ W with drawn := W.drawn + 1 } : World).cell? ⟨b, off + 2, none⟩ = some (.string x2) := n2
    refine wp_region_Z (fun w' => ∃ q : WC ⟨G, 4, none⟩ ⟨b, off + 2, none⟩ (.slice a2 p.mvs.length c2) (.string x2), w' = q.u) 17 (by kernel_rfl) ?_
    refine wpAnyZ_take 0 rfl (by kernel_rfl) (by kernel_rfl) (fun _ _ _ _ h => h) ⟨⟨_, q4d, n2d⟩, rfl⟩ (fun K hK => ?_)
    go_simp
    refine hK _ ?_
    clear hK K
    refine wpAnyZ_take 1 rfl (by kernel_rfl) (by kernel_rfl) (fun _ _ _ _ h => h) ⟨⟨_, q4d, n2d⟩, rfl⟩ (fun K hK => ?_)
    go_simp
    refine hK _ ?_
    clear hK K
    refine wpAnyZ_take 2 rfl (by kernel_rfl) (by kernel_rfl) (fun _ _ _ _ h => h) ⟨⟨_, q4d, n2d⟩, rfl⟩ (fun K hK => ?_)
    go_simp
    refine hK _ ?_
    clear hK K
    refine wpAnyZ_take 3 rfl (by kernel_rfl) (by kernel_rfl) (fun _ _ _ _ h => h) ⟨⟨_, q4d, n2d⟩, rfl⟩ (fun K hK => ?_)
    go_simp
    refine hK _ ?_
    clear hK K
    refine wpAnyZ_take 4 rfl (by kernel_rfl) (by kernel_rfl) (fun _ _ _ _ h => h) ⟨⟨_, q4d, n2d⟩, rfl⟩ (fun K hK => ?_)
    go_simp
    refine hK _ ?_
    clear hK K
    refine wpAnyZ_take 5 rfl (by kernel_rfl) (by kernel_rfl) (fun _ _ _ _ h => h) ⟨⟨_, q4d, n2d⟩, rfl⟩ (fun K hK => ?_)
    go_simp
    refine hK _ ?_
    clear hK K
    refine wpAnyZ_take 6 rfl (by kernel_rfl) (by kernel_rfl) (fun _ _ _ _ h => h) ⟨⟨_, q4d, n2d⟩, rfl⟩ (fun K hK => ?_)
    go_simp
    refine hK _ ?_
    clear hK K
    refine wpAnyZ_take 7 rfl (by kernel_rfl) (by kernel_rfl) (fun _ _ _ _ h => h) ⟨⟨_, q4d, n2d⟩, rfl⟩ (fun K hK => ?_)
    go_simp
    refine hK _ ?_
    clear hK K
    refine wpAnyZ_take 8 rfl (by kernel_rfl) (by kernel_rfl) (fun _ _ _ _ h => h) ⟨⟨_, q4d, n2d⟩, rfl⟩ (fun K hK => ?_)
    go_simp
    refine hK _ ?_
    clear hK K
    refine wpAnyZ_take 9 rfl (by kernel_rfl) (by kernel_rfl) (fun _ _ _ _ h => h) ⟨⟨_, q4d, n2d⟩, rfl⟩ (fun K hK => ?_)
    go_simp
    refine hK _ ?_
    clear hK K
    refine wpAnyZ_take 10 rfl (by kernel_rfl) (by kernel_rfl) (fun _ _ _ _ h => h) ⟨⟨_, q4d, n2d⟩, rfl⟩ (fun K hK => ?_)
    go_simp
    refine hK _ ?_
    clear hK K
    refine wpAnyZ_take 11 rfl (by kernel_rfl) (by kernel_rfl) (fun _ _ _ _ h => h) ⟨⟨_, q4d, n2d⟩, rfl⟩ (fun K hK => ?_)
    go_simp
    refine hK _ ?_
    clear hK K
    refine wpAnyZ_one 12 rfl (by kernel_rfl) ?_
    go_wp2
    obtain ⟨U1, hU1⟩ : ∃ U : World, U = (W.alloc (.cells #[.int .i64 x, .string x2, .int .i64 y] 46)).drew := ⟨_, rfl⟩
    have hb_U1 : Below W.heap.size W U1 := by rw [hU1]; exact ((Below.refl _ _).alloc (Nat.le_refl _) _).drew
    have HX : Hid (MvsAt U1 (some ⟨W.heap.size, 0, none⟩) [⟨x, x2, y⟩]) := by rw [hU1]; exact mv_new W ⟨x, x2, y⟩
    rw [← hU1]
    clear hU1 q4d n2d
    refine ⟨⟨⟨_, cell_below hb_U1 q4, cell_below hb_U1 n2⟩, rfl⟩, ?_⟩
    refine wpAnyZ_one 13 rfl (by kernel_rfl) ?_
    simp only [List.getElem_toArray, List.getElem_cons_succ, List.getElem_cons_zero]
    refine app_mvs rfl _ _ rfl B _ p.mvs.length (mvCells p.mvs) rfl (owns_below HR1.out.own hb_U1) _ 1 1 [⟨x, x2, y⟩] rfl rfl HX.out (fun h => by cases h) (by omega) (by omega) (Nat.le_trans HR1.out.bB hb_U1.size) ?_
    intro v2 U2 hown hgrow
    rw [← mvCells_append] at hown
    have HRU := Lib.hid (HR1.out.below hb_U1)
    have hgB := HR1.out.gB
    have hneG : some G ≠ (Value.slice a2 p.mvs.length c2).ownBlock := fun e => by have := (HR1.out.own.lt G e.symm).1; omega
    have BU := Lib.hid (HRU.out.blk.grown hgrow hneG)
    have q4U : U2.cell? ⟨G, 4, none⟩ = some (.slice a2 p.mvs.length c2) := hgrow.cell (cell_below hb_U1 q4) hneG
    have n2U : U2.cell? ⟨b, off + 2, none⟩ = some (.string x2) := hgrow.cell (cell_below hb_U1 n2) (hbm b off rfl)
    have HSU : Hid (StrsAt U2 a1 p.sts) := by
      intro k hk
      obtain ⟨bb, oo, rfl, hc⟩ := HRU.out.hs k hk
      exact ⟨bb, oo, rfl, hgrow.cell hc (fun e => by have h1 := HRU.out.n2 bb oo rfl; have h2 := (HRU.out.own.lt bb e.symm).1; omega)⟩
    have HBU : Hid (Below G w U2) := (HBG.out.trans (hb_U1.mono (Nat.le_of_lt hG1))).grown hgrow (by have := hb_U1.size; omega) (fun k hk => by have := (HR1.out.own.lt k hk).1; omega)
    obtain ⟨hn, av, cv, rfl, hmv⟩ := owns_mvs hown
    have HOWN := Lib.hid hown
    have HBB : Hid (B ≤ U2.heap.size) := Nat.le_trans (Nat.le_trans HR1.out.bB hb_U1.size) hgrow.size
    have fU := BU.out.free 4
    clear hown hgrow hmv HX hn HR1 HRU hb_U1 q4 n2 f4
    refine wpList_hide (fun K hK => ?_)
    go_simp
    refine hK _ _ ?_
    clear hK K
    refine ⟨⟨⟨_, q4U, n2U⟩, rfl⟩, ?_⟩
    refine wpAnyZ_one 14 rfl (by kernel_rfl) ?_
    go_wp2
    refine ⟨⟨⟨_, q4U, n2U⟩, rfl⟩, ?_⟩
    refine wpAnyZ_one 15 rfl (by kernel_rfl) ?_
    go_wp2
    refine ⟨⟨⟨_, q4U, n2U⟩, rfl⟩, ?_⟩
    refine wpAnyZ_one 16 rfl (by kernel_rfl) ?_
    go_wp2
    refine ⟨⟨⟨_, q4U, n2U⟩, rfl⟩, ?_⟩
    refine wpAnyZ_last rfl (by kernel_rfl) ?_
    go_wp2
    refine wpAnyZ_done (by kernel_rfl) ?_ _
    go_wp2
    go_ret
    refine ⟨by rw [HE.out]; rfl, below_set HBU.out _ _, fun _ => ?_⟩
    rw [HE.out]
    refine ⟨B, a1, c1, av, cv, ⟨?_, HSU.out.setCell (HR.out.n1.nb (Nat.le_refl _)), HR.out.hc1, l1, ?_, HR.out.n1, HR.out.n2, by simp, fun h => by simp at h, hgB, by rw [set_size]; exact HBB.out⟩⟩
    · have := BU.out.set 4 (.slice av (p.mvs.length + 1) cv)
      simp only [rdC, List.length_append, List.length_singleton]
      exact this
    · have := RInv.ownSet hgB HOWN.out 4 (.slice av (p.mvs.length + 1) cv)
      simp only [List.length_append, List.length_singleton]
      exact this
  · rw [if_neg hmv] at HE
    have hsecond : (x0.toList == [109, 111, 118, 101]) = false ∨ ((x0.toList == [109, 111, 118, 101]) = true ∧ ((ws.length : Int) != 4) = true) := by
      by_cases h1 : x0.toList = [109, 111, 118, 101]
      · exact .inr ⟨by simp [h1], by simp; intro h2; exact hmv ⟨h1, by omega⟩⟩
      · exact .inl (by simpa using h1)
    clear hmv
    rcases hfirst with t1 | ⟨t1, t2⟩ <;> rcases hsecond with t3 | ⟨t3, t4⟩
    all_goals
      go_enter Tryd.func79, Tryd.ntmps79
      go_wp2
      go_ret
      exact ⟨by rw [HE.out]; rfl, Below.refl _ _, fun h => by rw [HE.out] at h; simp at h⟩
end Go.Proofs.YtlkafolgbkobpaaDoor
