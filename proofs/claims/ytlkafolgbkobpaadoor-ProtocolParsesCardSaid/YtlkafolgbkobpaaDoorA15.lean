import Derived.Test.YtlkafolgbkobpaaDoorA14
namespace Go.Proofs.YtlkafolgbkobpaaDoor
open Go.RowKit Go.Sort

set_option maxRecDepth 100000 in
set_option maxHeartbeats 1000000 in
theorem doomed14 (p : Pr) (a1 : Option Addr) (c1 : Nat) (a2 : Option Addr) (c2 : Nat) (w : World) (hi : PIn w p a1 c1 a2) :
    Calls Tryd.prog 14 #[PrV p a1 c1 a2 c2] w (IntsPost w (doomedP p)) := by
  unfold PrV
  have HI := Lib.hid hi; clear hi
  have HBX := Lib.hid (Box.new w p a1 c1 a2 c2 25)
  have HB0 : Hid (Below w.heap.size w (w.alloc (.cells #[.string p.cls, .slice a1 p.sts.length c1, .int .i64 p.start, .int .i64 p.err, .slice a2 p.mvs.length c2] 25))) := (Below.refl _ _).alloc (Nat.le_refl _) _
  go_enter Tryd.func14, Tryd.ntmps14
  go_wp2_with fail
  have hi := HI.out.below HB0.out
  refine (check16 p _ _ _ _ _ hi.hs hi.hm hi.hc).mono ?_
  rintro e w1 ⟨rfl, hb1⟩
  have hb := HB0.out.trans (hb1.mono HB0.out.size)
  have BX := Lib.hid (HBX.out.below hb1)
  clear hi hb1 HBX HB0
  obtain ⟨q0, q1, q2, q3, q4⟩ := BX.out
  have hlt0 : w.heap.size < w1.heap.size := BX.out.lt
  by_cases h0 : ¬ checkP p = 0
  · have h0' : (checkP p != 0) = true := by simpa using h0
    have H0 := Lib.hid h0; clear h0
    go_wp2
    go_ret
    refine ⟨hb, none, 0, ?_, fun k hk => ?_⟩
    · unfold doomedP; rw [if_neg H0.out]; rfl
    · unfold doomedP at hk; rw [if_neg H0.out] at hk; simp at hk
  have h0 : checkP p = 0 := Classical.not_not.1 h0
  have h0' : (checkP p != 0) = false := by simp [h0]
  have hn16 : p.sts.length ≤ 16 := (ok_parts h0).2.2.2.2.1
  have hm256 : p.mvs.length ≤ 256 := (ok_parts h0).2.2.2.2.2
  have S2 := (ok_parts h0).2.1
  simp only [stB, Bool.and_eq_true, decide_eq_true_eq] at S2
  obtain ⟨s1, s2⟩ := S2
  have H0 := Lib.hid h0; clear h0
  have hmk := make47 p.sts.length (by omega)
  have t1 : p.err.toNat < p.sts.length := by omega
  have BK0 : Hid (BlkB (w1.alloc (.cells (bl (List.replicate p.sts.length false)) 4)) w1.heap.size (List.replicate p.sts.length false)) := heap_alloc_new w1 _
  have g1 := BK0.out.cell p.err.toNat (by simp; omega)
  have g2 := BK0.out.free p.err.toNat
  have hbA : Below w1.heap.size w1 (w1.alloc (.cells (bl (doom0 p)) 4)) := (Below.refl _ _).alloc (Nat.le_refl _) _
  have BX2 := Lib.hid (BX.out.below hbA)
  have HB2 := Lib.hid (hb.trans (hbA.mono hb.size))
  have BK2 : Hid (BlkB (w1.alloc (.cells (bl (doom0 p)) 4)) w1.heap.size (doom0 p)) := heap_alloc_new w1 _
  clear hbA
  go_wp2
  rw [show (bl (List.replicate p.sts.length false)).setIfInBounds p.err.toNat (Value.bool true) = bl (doom0 p) from by apply Array.ext'; simp [bl, doom0, List.map_set]]
  clear g1 g2 BK0 hb BX q0 q1 q2 q3 q4 hmk
  generalize w1.alloc (.cells (bl (doom0 p)) 4) = W2 at *
  obtain ⟨gB, hgB⟩ : ∃ gB, gB = w1.heap.size := ⟨_, rfl⟩
  rw [← hgB] at BK2 hlt0 ⊢
  clear hgB
  go_loopw [5] (fun i wr => ∃ j : Nat, j ≤ p.sts.length ∧ i = .int .i64 j ∧ Hid (BlkB wr gB (passN p.mvs j (doom0 p))) ∧ Below w.heap.size w wr ∧ Hid (Box wr w.heap.size p a1 c1 a2 c2)) (fun i _ => p.sts.length - (intOf i).toNat)
  case atStart => exact ⟨0, Nat.zero_le _, rfl, BK2.out, HB2.out, BX2.out⟩
  case round =>
    clear BK2 HB2 BX2
    obtain ⟨j, hj, rfl, BK, hb, BX⟩ := hrel
    obtain ⟨q0, q1, q2, q3, q4⟩ := BX.out
    by_cases hjl : j < p.sts.length
    · go_wp2
      obtain ⟨d, hd⟩ : ∃ d, d = passN p.mvs j (doom0 p) := ⟨_, rfl⟩
      rw [← hd] at BK
      have HD := Lib.hid hd; clear hd
      have hdl : d.length = p.sts.length := by rw [HD.out, passN_len, doom0_len]
      have HDL := Lib.hid hdl; clear hdl
      obtain ⟨wo, rfl⟩ : ∃ wo : World, wo = wr := ⟨_, rfl⟩
      go_loopw [6] (fun i wr => ∃ k : Nat, k ≤ p.mvs.length ∧ i = .int .i64 k ∧ Hid (BlkB wr gB (passL d (p.mvs.take k))) ∧ Below w.heap.size w wr ∧ Hid (Box wr w.heap.size p a1 c1 a2 c2)) (fun i _ => p.mvs.length - (intOf i).toNat)
      case atStart => exact ⟨0, Nat.zero_le _, rfl, BK.out, hb, BX.out⟩
      case round =>
        clear q0 q1 q2 q3 q4 hb BX BK
        obtain ⟨k, hk, rfl, BK, hb, BX⟩ := hrel
        obtain ⟨q0, q1, q2, q3, q4⟩ := BX.out
        have hltr : w.heap.size < wr.heap.size := BX.out.lt
        have hltg : gB < wr.heap.size := BK.out.lt
        by_cases hlt : k < p.mvs.length
        · obtain ⟨bm, om, rfl, m1, m2, m3⟩ := HI.out.hm.below hb k hlt
          have hv := mv_of_ok (ok_parts H0.out).2.2.2.1 k hlt (by omega)
          have HT := Lib.hid (passL_take hlt d)
          obtain ⟨x, hx⟩ : ∃ x, x = p.mvs[k] := ⟨_, rfl⟩
          rw [← hx] at m1 m2 m3 hv HT
          clear hx
          obtain ⟨D, hD⟩ : ∃ D, D = passL d (p.mvs.take k) := ⟨_, rfl⟩
          rw [← hD] at BK HT
          have hDl : D.length = p.sts.length := by rw [hD, passL_len]; exact HDL.out
          clear hD
          simp only [stB, Bool.and_eq_true, decide_eq_true_eq] at hv
          obtain ⟨⟨f1, f2⟩, ⟨f3, f4⟩, _⟩ := hv
          have u1 : x.to.toNat < p.sts.length := by omega
          have u2 : x.frm.toNat < p.sts.length := by omega
          have k1 := BK.out.cell x.to.toNat (by omega)
          have k2 := BK.out.cell x.frm.toNat (by omega)
          have k3 := BK.out.free x.frm.toNat
          have HDl := Lib.hid hDl; clear hDl
          cases e1 : D.getD x.to.toNat false
          · rw [e1] at k1
            have HT2 : Hid (passL d (p.mvs.take (k + 1)) = D) := by show _ = _; rw [HT.out]; unfold pass1; rw [e1]; rfl
            go_wp2
            go_roundw
            case rel => exact ⟨k + 1, by omega, by go_num, by rw [HT2.out]; exact BK.out, hb, BX.out⟩
            case measure => simp [intOf]; omega
          · rw [e1] at k1
            have HT2 : Hid (passL d (p.mvs.take (k + 1)) = D.set x.frm.toNat true) := by show _ = _; rw [HT.out]; unfold pass1; rw [e1]; rfl
            go_wp2
            go_roundw
            case rel => exact ⟨k + 1, by omega, by go_num, by rw [HT2.out]; exact BK.out.set _, hb.setCell (p := ⟨gB, x.frm.toNat, none⟩) (Nat.le_of_lt hlt0) (.bool true), BX.out.setCell (Nat.ne_of_lt hlt0) _⟩
            case measure => simp [intOf]; omega
        · have BK3 := BK.out
          rw [List.take_of_length_le (by omega), HD.out, ← passN_succ] at BK3
          have BKK := Lib.hid BK3; clear BK3
          go_wp2
          go_roundw
          case rel => exact ⟨j + 1, by omega, by go_num, BKK.out, hb, BX.out⟩
          case measure => simp [intOf]; omega
    · obtain rfl : j = p.sts.length := by omega
      have BK' : Hid (BlkB wr gB (doomL p)) := BK.out
      clear BK
      have BK := BK'; clear BK'
      have hdl := doomL_len p
      have HDL := Lib.hid hdl; clear hdl
      have hltg : gB < wr.heap.size := BK.out.lt
      go_wp2
      obtain ⟨wo, rfl⟩ : ∃ wo : World, wo = wr := ⟨_, rfl⟩
      have OWN0 : Hid (wo.ownsRow (gB + 1) 3 1 (.slice none 0 0) 0 ((truesTo (doomL p) 0).map (Value.int .i64))) := World.ownsRow_nil wo (gB + 1) 3 1
      go_loopw [3, 7] (fun v i wr => ∃ k : Nat, k ≤ p.sts.length ∧ i = .int .i64 k ∧ Hid (wr.ownsRow (gB + 1) 3 1 v (truesTo (doomL p) k).length ((truesTo (doomL p) k).map (Value.int .i64))) ∧ Hid (BlkB wr gB (doomL p)) ∧ Below w.heap.size w wr) (fun _ i _ => p.sts.length - (intOf i).toNat)
      case atStart => exact ⟨0, Nat.zero_le _, rfl, OWN0.out, BK.out, hb⟩
      case round =>
        clear q0 q1 q2 q3 q4 hb BX BK OWN0 hltg
        obtain ⟨k, hk, rfl, OWN, BK, hb⟩ := hrel
        have hltg : gB < wr.heap.size := BK.out.lt
        by_cases hlt : k < p.sts.length
        · have k1 := BK.out.cell k (by rw [HDL.out]; exact hlt)
          have HT := Lib.hid (truesTo_succ (doomL p) k)
          have hlen : (truesTo (doomL p) k).length ≤ k := by
            unfold truesTo
            rw [List.length_map]
            exact Nat.le_trans (List.length_filter_le _ _) (by simp)
          cases e1 : (doomL p).getD k false
          · rw [e1] at k1
            have HT2 : Hid (truesTo (doomL p) (k + 1) = truesTo (doomL p) k) := by show _ = _; rw [HT.out, e1]; simp
            go_wp2
            go_roundw
            case rel => exact ⟨k + 1, by omega, by go_num, by rw [HT2.out]; exact OWN.out, BK.out, hb⟩
            case measure => simp [intOf]; omega
          · rw [e1] at k1
            have HT2 : Hid (truesTo (doomL p) (k + 1) = truesTo (doomL p) k ++ [(k : Int)]) := by show _ = _; rw [HT.out, e1]; rfl
            have OWN3 := OWN.out
            generalize truesTo (doomL p) k = T at *
            obtain ⟨i0, hi, hz0, hz1, hz2⟩ := info_parts Tryd_info3
            go_wp2_with (at_builtin; refine wpList_append_own _ rfl _ _ 31 rfl (gB + 1) 3 i0 (.int .i64 0) 1 8 Tryd.underlying31 hi hz0 hz1 hz2 rfl (by decide) _ _ _ rfl (OWN3.alloc _) ⟨wr.heap.size, 0, none⟩ 1 1 [.int .i64 (k : Int)] rfl rfl ?c1 ?c2 ?c3 ?c4 ?c5 ?_)
            case c1 => exact (cell_one_new _ _ _)
            case c2 => intro u hu; simp only [List.mem_singleton] at hu; subst hu; rfl
            case c3 => unfold maxLen; omega
            case c4 => omega
            case c5 => simp; omega
            intro v' w5 hown' hgrow _
            have hb5 : Below w.heap.size w w5 := (hb.alloc hb.size _).grown hgrow (by have := hb.size; simp; omega) (fun k hk => by have := (OWN3.lt k hk).1; omega)
            have BK5 := Lib.hid ((BK.out.below ((Below.refl _ _).alloc (Nat.le_refl _) _)).grown hgrow (owns_ne OWN3 (by omega)))
            have OWN5 : Hid (w5.ownsRow (gB + 1) 3 1 v' (truesTo (doomL p) (k + 1)).length ((truesTo (doomL p) (k + 1)).map (Value.int .i64))) := by
              show World.ownsRow ..
              rw [HT2.out, List.map_append, List.length_append]
              exact hown'
            clear hown' hgrow OWN3 hi hz0 hz1 hz2
            go_wp2
            go_roundw
            case rel => exact ⟨k + 1, by omega, by go_num, OWN5.out, BK5.out, hb5⟩
            case measure => simp [intOf]; omega
        · obtain rfl : k = p.sts.length := by omega
          have HP : Hid (doomedP p = truesTo (doomL p) p.sts.length) := by show _ = _; unfold doomedP; rw [if_pos H0.out]
          have OWN3 := OWN.out
          rw [← HP.out] at OWN3
          obtain ⟨_, av, cv, hv, hst⟩ := owns_ints OWN3
          clear OWN3 OWN
          rw [hv]
          have HST := Lib.hid hst; clear hst
          go_wp2
          go_ret
          exact ⟨hb, av, cv, rfl, HST.out⟩
end Go.Proofs.YtlkafolgbkobpaaDoor
