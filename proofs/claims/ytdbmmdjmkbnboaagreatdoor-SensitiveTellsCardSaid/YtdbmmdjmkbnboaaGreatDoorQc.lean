/-
  The reference's Few of an analysis in contexts: a yes bounds its lists. (Printed by qc.py.)
-/
import Derived.Test.YtdbmmdjmkbnboaaGreatDoorQb
namespace Go.Proofs.YtdbmmdjmkbnboaaGreatDoor
open Go.RowKit Go.Unit0

set_option maxRecDepth 100000 in
set_option maxHeartbeats 16000000 in
theorem few23 (r : Ctr) (p : CP) (w : World) (h : CtrAt w p r) :
    Calls Tryz.prog 8 #[ctV r p] w (BPost (fun b => b = true → FewC r) w) := by
  have S0 := Lib.hid (CB8.start h)
  have HK : Hid (r.insts.length ≤ 150 → r.vars.length ≤ 800 → (∀ x ∈ r.insts, x.ctx.length ≤ 8000) → sumR r.vars ≤ 8000 → FewC r) := fun h1 h2 h3 h4 => ⟨h1, h2, h3, h4⟩
  clear h
  unfold ctV
  generalize FewC r = R at *
  go_enter Tryz.func8, Tryz.ntmps8
  go_upto_region 1 with (fail)
  generalize w.alloc _ = W at *
  obtain ⟨z0, z1, z2⟩ := S0.out.cells
  by_cases h1 : 150 < r.insts.length
  · have t1 : decide ((150 : Int) < (r.insts.length : Int)) = true := by simp; omega
    clear h1
    go_wp2
    go_ret
    exact ⟨S0.out.hb, _, rfl, fun e => by cases e⟩
  have t1 : decide ((150 : Int) < (r.insts.length : Int)) = false := by simp; omega
  by_cases h2 : 400 < r.calls.length
  · have t2 : decide ((400 : Int) < (r.calls.length : Int)) = true := by simp; omega
    clear h1 h2
    go_wp2
    go_ret
    exact ⟨S0.out.hb, _, rfl, fun e => by cases e⟩
  have t2 : decide ((400 : Int) < (r.calls.length : Int)) = false := by simp; omega
  by_cases h3 : 800 < r.vars.length
  · have t3 : decide ((800 : Int) < (r.vars.length : Int)) = true := by simp; omega
    clear h1 h2 h3
    go_wp2
    go_ret
    exact ⟨S0.out.hb, _, rfl, fun e => by cases e⟩
  have t3 : decide ((800 : Int) < (r.vars.length : Int)) = false := by simp; omega
  have hi : r.insts.length ≤ 150 := by omega
  have hc : r.calls.length ≤ 400 := by omega
  have hv : r.vars.length ≤ 800 := by omega
  clear h1 h2 h3
  replace HK := Lib.hid (HK.out hi hv)
  go_wp2
  clear t1 t2 t3
  go_loop [3, 4] (fun s i => ∃ n k : Nat, k ≤ r.insts.length ∧ n ≤ k * 9000 ∧ s = .int .i64 n ∧ i = .int .i64 k ∧ Hid (n ≤ 8000 → ∀ j (h : j < r.insts.length), j < k → r.insts[j].ctx.length ≤ 8000)) (fun _ i => r.insts.length - (intOf i).toNat)
  case atStart => exact ⟨0, 0, Nat.zero_le _, Nat.zero_le _, rfl, rfl, fun _ j h hj => absurd hj (by omega)⟩
  case round =>
    obtain ⟨n, k, hk, hn, rfl, rfl, HI⟩ := hrel
    by_cases hlt : k < r.insts.length
    case pos =>
      obtain ⟨b, off, ca, cc, he, c0, c1, -⟩ := S0.out.m.i k hlt
      have HN : Hid (n + min r.insts[k].ctx.length 9000 ≤ 8000 → ∀ j (h : j < r.insts.length), j < k + 1 → r.insts[j].ctx.length ≤ 8000) := fun e j h hj => by
        by_cases e2 : j < k
        · exact HI.out (by omega) j h e2
        · obtain rfl : j = k := by omega
          omega
      generalize r.insts[k].ctx.length = m at *
      rw [he] at z0
      clear he HI c0
      by_cases hm : m ≤ 9000
      · rw [Nat.min_eq_left hm] at HN
        have t1 : decide ((m : Int) ≤ 9000) = true := by simp; omega
        have t2 : decide ((9000 : Int) < m) = false := by simp; omega
        go_wp2
        go_round
        case rel => exact ⟨n + m, k + 1, by omega, by omega, by go_num, by go_num, HN.out⟩
        case measure => simp [intOf]; omega
      · rw [Nat.min_eq_right (by omega)] at HN
        have t1 : decide ((m : Int) ≤ 9000) = false := by simp; omega
        have t2 : decide ((9000 : Int) < m) = true := by simp; omega
        go_wp2
        go_round
        case rel => exact ⟨n + 9000, k + 1, by omega, by omega, by go_num, by go_num, HN.out⟩
        case measure => simp [intOf]; omega
    case neg =>
      have HV : Hid (n ≤ 8000 → ∀ x ∈ r.insts, x.ctx.length ≤ 8000) := fun e l hl => by
        obtain ⟨j, hj, rfl⟩ := List.getElem_of_mem hl
        exact HI.out e j hj (by omega)
      clear HI
      go_wp2
      clear z0 z1 z2
      generalize (∀ x ∈ r.insts, x.ctx.length ≤ 8000) = A at *
      go_loopw [3, 5] (fun s i wr => ∃ n k : Nat, k ≤ r.calls.length ∧ n ≤ 1350000 + k * 18000 ∧ s = .int .i64 n ∧ i = .int .i64 k ∧ Hid (CB8 r p w wr) ∧ Hid (n ≤ 8000 → A)) (fun _ i _ => r.calls.length - (intOf i).toNat)
      case atStart => exact ⟨n, 0, Nat.zero_le _, by omega, rfl, rfl, S0.out, HV.out⟩
      case round =>
        clear S0 HV
        clear hn hk hlt
        obtain ⟨n, k, hk, hn, rfl, rfl, S, HV⟩ := hrel
        obtain ⟨z0, z1, z2⟩ := S.out.cells
        by_cases hlt : k < r.calls.length
        case pos =>
          obtain ⟨b, off, ca, cc, da, dc, he, -, c1, -, -, c4⟩ := S.out.m.c k hlt
          generalize r.calls[k].fr.ctx.length = m at *
          generalize r.calls[k].tt.ctx.length = m2 at *
          rw [he] at z1
          clear he
          have hne : Nonempty (WB wr) := ⟨⟨wr, Below.refl _ _⟩⟩
          have k0 : ∀ o : WB wr, o.u.cell? ⟨w.heap.size, 1, none⟩ = some (.slice (some ⟨b, off, none⟩) r.calls.length p.cc) := fun o => cell_below o.h z1
          have k1 : ∀ o : WB wr, o.u.cell? ⟨b, off + k * 5 + 1, none⟩ = some (.slice ca m cc) := fun o => cell_below o.h c1
          have k2 : ∀ o : WB wr, o.u.cell? ⟨b, off + k * 5 + 3 + 1, none⟩ = some (.slice da m2 dc) := fun o => cell_below o.h c4
          clear c1 c4
          go_upto_region 11 with (fail)
          clear z0 z1 z2
          by_cases hm : m ≤ 9000
          · have t1 : decide ((m : Int) ≤ 9000) = true := by simp; omega
            have t2 : decide ((9000 : Int) < m) = false := by simp; omega
            by_cases hm2 : m2 ≤ 9000
            · have t3 : decide ((m2 : Int) ≤ 9000) = true := by simp; omega
              have t4 : decide ((9000 : Int) < m2) = false := by simp; omega
              refine wp_region_WB wr (by kernel_rfl) ?_
              repeat (go_big_quiet_step (fail))
              refine wpQuiet_nil ?_
              intro _ hw'
              obtain ⟨o, rfl⟩ := hw'
              clear k0 k1 k2
              have S2 := Lib.hid (S.out.below o.h)
              clear S
              go_wp2
              go_roundw
              case rel => exact ⟨n + m + m2, k + 1, by omega, by omega, by go_num, by go_num, S2.out, fun e => HV.out (by omega)⟩
              case measure => simp [intOf]; omega
            · have t3 : decide ((m2 : Int) ≤ 9000) = false := by simp; omega
              have t4 : decide ((9000 : Int) < m2) = true := by simp; omega
              refine wp_region_WB wr (by kernel_rfl) ?_
              repeat (go_big_quiet_step (fail))
              refine wpQuiet_nil ?_
              intro _ hw'
              obtain ⟨o, rfl⟩ := hw'
              clear k0 k1 k2
              have S2 := Lib.hid (S.out.below o.h)
              clear S
              go_wp2
              go_roundw
              case rel => exact ⟨n + m + 9000, k + 1, by omega, by omega, by go_num, by go_num, S2.out, fun e => HV.out (by omega)⟩
              case measure => simp [intOf]; omega
          · have t1 : decide ((m : Int) ≤ 9000) = false := by simp; omega
            have t2 : decide ((9000 : Int) < m) = true := by simp; omega
            by_cases hm2 : m2 ≤ 9000
            · have t3 : decide ((m2 : Int) ≤ 9000) = true := by simp; omega
              have t4 : decide ((9000 : Int) < m2) = false := by simp; omega
              refine wp_region_WB wr (by kernel_rfl) ?_
              repeat (go_big_quiet_step (fail))
              refine wpQuiet_nil ?_
              intro _ hw'
              obtain ⟨o, rfl⟩ := hw'
              clear k0 k1 k2
              have S2 := Lib.hid (S.out.below o.h)
              clear S
              go_wp2
              go_roundw
              case rel => exact ⟨n + 9000 + m2, k + 1, by omega, by omega, by go_num, by go_num, S2.out, fun e => HV.out (by omega)⟩
              case measure => simp [intOf]; omega
            · have t3 : decide ((m2 : Int) ≤ 9000) = false := by simp; omega
              have t4 : decide ((9000 : Int) < m2) = true := by simp; omega
              refine wp_region_WB wr (by kernel_rfl) ?_
              repeat (go_big_quiet_step (fail))
              refine wpQuiet_nil ?_
              intro _ hw'
              obtain ⟨o, rfl⟩ := hw'
              clear k0 k1 k2
              have S2 := Lib.hid (S.out.below o.h)
              clear S
              go_wp2
              go_roundw
              case rel => exact ⟨n + 9000 + 9000, k + 1, by omega, by omega, by go_num, by go_num, S2.out, fun e => HV.out (by omega)⟩
              case measure => simp [intOf]; omega
        case neg =>
          go_wp2
          clear z0 z1 z2
          obtain ⟨w2, hw2⟩ : ∃ w2, w2 = wr := ⟨_, rfl⟩
          subst hw2
          go_loopw [3, 6] (fun s i wr => ∃ n k : Nat, k ≤ r.vars.length ∧ n ≤ 10000000 ∧ s = .int .i64 n ∧ i = .int .i64 k ∧ Hid (CB8 r p w wr) ∧ Hid (n ≤ 8000 → A ∧ sumR (r.vars.take k) ≤ n)) (fun _ i _ => r.vars.length - (intOf i).toNat)
          case atStart => exact ⟨n, 0, Nat.zero_le _, by omega, rfl, rfl, S.out, fun e => ⟨HV.out e, by simp [sumR]⟩⟩
          case round =>
            clear S HV hn hk hlt
            obtain ⟨n, k, hk, hn, rfl, rfl, S, HV⟩ := hrel
            obtain ⟨z0, z1, z2⟩ := S.out.cells
            by_cases hlt : k < r.vars.length
            case neg =>
              have HR : Hid (n ≤ 8000 → R) := fun e => HK.out (HV.out e).1 (by
                have h := (HV.out e).2
                rw [List.take_of_length_le (by omega)] at h
                omega)
              clear HV HK
              by_cases hn8 : n ≤ 8000
              · have t1 : decide ((n : Int) ≤ 8000) = true := by simp; omega
                go_wp2
                go_ret
                exact ⟨S.out.hb, _, rfl, fun _ => HR.out hn8⟩
              · have t1 : decide ((n : Int) ≤ 8000) = false := by simp; omega
                go_wp2
                go_ret
                exact ⟨S.out.hb, _, rfl, fun e => by cases e⟩
            case pos =>
              by_cases hn8 : n ≤ 8000
              case neg =>
                have t1 : decide ((n : Int) ≤ 8000) = false := by simp; omega
                clear HV HK
                go_wp2
                go_ret
                exact ⟨S.out.hb, _, rfl, fun e => by cases e⟩
              have t8 : decide ((n : Int) ≤ 8000) = true := by simp; omega
              obtain ⟨b, off, ca, cc, ra, rc, he, -, c1, -, c3, hrf⟩ := S.out.m.v k hlt
              have HSN : Hid (sumR (r.vars.take (k + 1)) = sumR (r.vars.take k) + r.vars[k].refs.length) := sumR_snoc hlt
              have HA := Lib.hid (HV.out hn8)
              rw [he] at z2
              generalize r.vars[k].inn.ctx.length = m at *
              generalize r.vars[k].refs = L at *
              have HRF := Lib.hid hrf
              clear he hrf HV
              obtain ⟨wv, hwv⟩ : ∃ wv, wv = wr := ⟨_, rfl⟩
              subst hwv
              have hne : Nonempty (WB wv) := ⟨⟨wv, Below.refl _ _⟩⟩
              have k0 : ∀ o : WB wv, o.u.cell? ⟨w.heap.size, 2, none⟩ = some (.slice (some ⟨b, off, none⟩) r.vars.length p.vc) := fun o => cell_below o.h z2
              have k1 : ∀ o : WB wv, o.u.cell? ⟨b, off + k * 4 + 1, none⟩ = some (.slice ca m cc) := fun o => cell_below o.h c1
              have k2 : ∀ o : WB wv, o.u.cell? ⟨b, off + k * 4 + 3, none⟩ = some (.slice ra L.length rc) := fun o => cell_below o.h c3
              go_upto_region 15 with (fail)
              clear z0 z1
              go_cut [3] (fun v wx => ∃ n2 : Nat, v = .int .i64 n2 ∧ n2 ≤ 26000 ∧ Hid (n2 ≤ 8000 → sumR (r.vars.take (k + 1)) ≤ n2) ∧ Hid (Below wv.heap.size wv wx))
              case first =>
                by_cases hm : m ≤ 9000
                · have t1 : decide ((m : Int) ≤ 9000) = true := by simp; omega
                  have t2 : decide ((9000 : Int) < m) = false := by simp; omega
                  by_cases hm2 : L.length ≤ 9000
                  · have t3 : decide ((L.length : Int) ≤ 9000) = true := by simp; omega
                    have t4 : decide ((9000 : Int) < L.length) = false := by simp; omega
                    refine wp_region_WB wv (by kernel_rfl) ?_
                    repeat (go_big_quiet_step (fail))
                    refine wpQuiet_nil ?_
                    intro _ hw'
                    obtain ⟨o, rfl⟩ := hw'
                    clear k0 k1 k2
                    go_wp2
                    go_meet
                    exact ⟨n + m + L.length, by go_num, by omega, fun e => by have := HSN.out; have := HA.out.2; omega, o.h⟩
                  · have t3 : decide ((L.length : Int) ≤ 9000) = false := by simp; omega
                    have t4 : decide ((9000 : Int) < L.length) = true := by simp; omega
                    refine wp_region_WB wv (by kernel_rfl) ?_
                    repeat (go_big_quiet_step (fail))
                    refine wpQuiet_nil ?_
                    intro _ hw'
                    obtain ⟨o, rfl⟩ := hw'
                    clear k0 k1 k2
                    go_wp2
                    go_meet
                    exact ⟨n + m + 9000, by go_num, by omega, fun e => by have := HSN.out; have := HA.out.2; omega, o.h⟩
                · have t1 : decide ((m : Int) ≤ 9000) = false := by simp; omega
                  have t2 : decide ((9000 : Int) < m) = true := by simp; omega
                  by_cases hm2 : L.length ≤ 9000
                  · have t3 : decide ((L.length : Int) ≤ 9000) = true := by simp; omega
                    have t4 : decide ((9000 : Int) < L.length) = false := by simp; omega
                    refine wp_region_WB wv (by kernel_rfl) ?_
                    repeat (go_big_quiet_step (fail))
                    refine wpQuiet_nil ?_
                    intro _ hw'
                    obtain ⟨o, rfl⟩ := hw'
                    clear k0 k1 k2
                    go_wp2
                    go_meet
                    exact ⟨n + 9000 + L.length, by go_num, by omega, fun e => by have := HSN.out; have := HA.out.2; omega, o.h⟩
                  · have t3 : decide ((L.length : Int) ≤ 9000) = false := by simp; omega
                    have t4 : decide ((9000 : Int) < L.length) = true := by simp; omega
                    refine wp_region_WB wv (by kernel_rfl) ?_
                    repeat (go_big_quiet_step (fail))
                    refine wpQuiet_nil ?_
                    intro _ hw'
                    obtain ⟨o, rfl⟩ := hw'
                    clear k0 k1 k2
                    go_wp2
                    go_meet
                    exact ⟨n + 9000 + 9000, by go_num, by omega, fun e => by have := HSN.out; have := HA.out.2; omega, o.h⟩
              case rest =>
                obtain ⟨n2, rfl, hn2, HS2, HB⟩ := hcut
                clear k0 k1 k2 hne t8
                have Z2 := Lib.hid z2
                have C3 := Lib.hid c3
                replace z2 := cell_below HB.out z2
                replace c3 := cell_below HB.out c3
                go_wp2
                clear z2 c3
                go_loopw [3, 7] (fun s j wx => ∃ n2 j2 : Nat, j2 ≤ L.length ∧ n2 ≤ 26000 ∧ s = .int .i64 n2 ∧ j = .int .i64 j2 ∧ Hid (Below wv.heap.size wv wx) ∧ Hid (n2 ≤ 8000 → sumR (r.vars.take (k + 1)) ≤ n2)) (fun _ j _ => L.length - (intOf j).toNat)
                case atStart => exact ⟨n2, 0, Nat.zero_le _, hn2, rfl, rfl, HB.out, HS2.out⟩
                case round =>
                  clear HS2 HB hn2
                  obtain ⟨n2, j2, hj, hn2, rfl, rfl, HB, HS2⟩ := hrel
                  have z2 := cell_below HB.out Z2.out
                  have c3 := cell_below HB.out C3.out
                  by_cases hjl : j2 < L.length
                  case neg =>
                    have S3 := Lib.hid (S.out.below HB.out)
                    clear S
                    go_wp2
                    go_roundw
                    case rel => exact ⟨n2, k + 1, by omega, by omega, by go_num, by go_num, S3.out, fun e => ⟨HA.out.1, HS2.out e⟩⟩
                    case measure => simp [intOf]; omega
                  case pos =>
                    by_cases h28 : n2 ≤ 8000
                    case neg =>
                      have t1 : decide ((n2 : Int) ≤ 8000) = false := by simp; omega
                      have S3 := Lib.hid (S.out.below HB.out)
                      clear S
                      go_wp2
                      go_roundw
                      case rel => exact ⟨n2, k + 1, by omega, by omega, by go_num, by go_num, S3.out, fun e => absurd e h28⟩
                      case measure => simp [intOf]; omega
                    case pos =>
                      have t1 : decide ((n2 : Int) ≤ 8000) = true := by simp; omega
                      have hL8 : L.length ≤ 8000 := by have h1 := HS2.out h28; have h2 := HSN.out; omega
                      obtain ⟨b3, off3, ca3, cc3, he3, -, d1, -⟩ := HRF.out.below HB.out j2 hjl
                      rw [he3] at c3
                      generalize L[j2].ctx.length = q at *
                      by_cases hq : q ≤ 9000
                      · have t2 : decide ((q : Int) ≤ 9000) = true := by simp; omega
                        have t3 : decide ((9000 : Int) < q) = false := by simp; omega
                        go_wp2
                        go_roundw
                        case rel => exact ⟨n2 + q, j2 + 1, by omega, by omega, by go_num, by go_num, HB.out, fun e => by have := HS2.out (by omega); omega⟩
                        case measure => simp [intOf]; omega
                      · have t2 : decide ((q : Int) ≤ 9000) = false := by simp; omega
                        have t3 : decide ((9000 : Int) < q) = true := by simp; omega
                        go_wp2
                        go_roundw
                        case rel => exact ⟨n2 + 9000, j2 + 1, by omega, by omega, by go_num, by go_num, HB.out, fun e => by omega⟩
                        case measure => simp [intOf]; omega
end Go.Proofs.YtdbmmdjmkbnboaaGreatDoor
