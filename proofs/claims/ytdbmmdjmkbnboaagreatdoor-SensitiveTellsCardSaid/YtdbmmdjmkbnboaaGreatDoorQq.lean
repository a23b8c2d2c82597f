/-
  The law SensitiveTells returns true. (Expanded by pre.py.)
-/
import Derived.Test.YtdbmmdjmkbnboaaGreatDoorQm
import Derived.Test.YtdbmmdjmkbnboaaGreatDoorQj
import Derived.Test.YtdbmmdjmkbnboaaGreatDoorQc
import Derived.Test.YtdbmmdjmkbnboaaGreatDoorQr
namespace Go.Proofs.YtdbmmdjmkbnboaaGreatDoor
open Go.RowKit Go.Unit0

set_option maxRecDepth 100000 in
set_option maxHeartbeats 4000000 in
theorem sameIntsL (a b : List Int) (pa : Option Addr) (ca : Nat) (pb : Option Addr) (cb : Nat) (w : World) (ha : IntsAt w pa a) (hb : IntsAt w pb b) (la : a.length ≤ 1000000) (lb : b.length ≤ 1000000) :
    Calls Tryz.prog 12 #[.slice pa a.length ca, .slice pb b.length cb] w (Ret w (.bool (decide (a = b)))) := by
  have HA := Lib.hid ha
  have HB := Lib.hid hb
  clear ha hb
  by_cases hl : a.length = b.length
  case neg =>
    have e : decide (a = b) = false := decide_eq_false fun e => hl (by rw [e])
    rw [e]
    have t1 : ((a.length : Int) == (b.length : Int)) = false := beq_eq_false_iff_ne.2 (by omega)
    clear e HA HB
    go_enter Tryz.func12, Tryz.ntmps12
    go_wp2
    go_ret
    exact ⟨rfl, Go.RowKit.Below.refl _ _⟩
  have HEN : Hid (∀ k, k = a.length → a.take k = b.take k → true = decide (a = b)) := fun k hk e => by
    subst hk
    rw [List.take_length] at e
    rw [hl, List.take_length] at e
    exact (decide_eq_true e).symm
  have HNE : Hid (∀ k (h1 : k < a.length) (h2 : k < b.length), a[k] ≠ b[k] → false = decide (a = b)) := fun k h1 h2 e => (decide_eq_false fun e2 => e (by subst e2; rfl)).symm
  have t1 : ((a.length : Int) == (b.length : Int)) = true := beq_iff_eq.2 (by omega)
  generalize decide (a = b) = R at *
  go_enter Tryz.func12, Tryz.ntmps12
  go_wp2
  clear t1
  go_loopw [13] (fun i wr => ∃ k : Nat, k ≤ a.length ∧ i = .int .i64 k ∧ Hid (a.take k = b.take k) ∧ Hid (Go.RowKit.Below w.heap.size w wr)) (fun i _ => a.length - (intOf i).toNat)
  case atStart => exact ⟨0, Nat.zero_le _, rfl, rfl, Go.RowKit.Below.refl _ _⟩
  case round =>
    obtain ⟨k, hk, rfl, HT, HW⟩ := hrel
    by_cases h1 : k < a.length
    case neg =>
      have HV := Lib.hid (HEN.out k (by omega) HT.out)
      clear HEN HNE HT HA HB
      go_wp2
      go_ret
      exact ⟨ret_bool HV.out, HW.out⟩
    have h2 : k < b.length := by omega
    obtain ⟨b1, o1, he1, p1⟩ := HA.out.below HW.out k h1
    subst he1
    obtain ⟨b2, o2, he2, p2⟩ := HB.out.below HW.out k h2
    subst he2
    have HN : Hid (a[k] = b[k] → a.take (k + 1) = b.take (k + 1)) := fun e => by
      rw [List.take_succ_eq_append_getElem h1, List.take_succ_eq_append_getElem h2, HT.out, e]
    have HV := Lib.hid (HNE.out k h1 h2)
    clear HEN HNE HT
    generalize a[k] = x at *
    generalize b[k] = y at *
    have hne : Nonempty (WB wr) := ⟨⟨wr, Go.RowKit.Below.refl _ _⟩⟩
    have k0 : ∀ o : WB wr, o.u.cell? ⟨b1, o1 + k, none⟩ = some (.int .i64 x) := fun o => cell_below o.h p1
    have k1 : ∀ o : WB wr, o.u.cell? ⟨b2, o2 + k, none⟩ = some (.int .i64 y) := fun o => cell_below o.h p2
    clear p1 p2
    go_upto_region 6 with (fail)
    by_cases h3 : x = y
    · have HN2 := Lib.hid (HN.out h3)
      have t4 : (x == y) = true := beq_iff_eq.2 h3
      clear HV HN HA HB h3
      refine wp_region_WB wr (by kernel_rfl) ?_
      repeat (go_big_quiet_step (fail))
      refine wpQuiet_nil ?_
      intro _ hw'
      obtain ⟨o, rfl⟩ := hw'
      have HB3 := Lib.hid (HW.out.trans (o.h.mono HW.out.size))
      clear k0 k1
      go_wp2
      go_roundw
      case rel => exact ⟨k + 1, by omega, by go_num, HN2.out, HB3.out⟩
      case measure => simp [intOf]; omega
    · have HF := Lib.hid (HV.out h3)
      have t4 : (x == y) = false := beq_eq_false_iff_ne.2 h3
      clear HV HN HA HB h3
      refine wp_region_WB wr (by kernel_rfl) ?_
      repeat (go_big_quiet_step (fail))
      refine wpQuiet_nil ?_
      intro _ hw'
      obtain ⟨o, rfl⟩ := hw'
      have HB3 := Lib.hid (HW.out.trans (o.h.mono HW.out.size))
      clear k0 k1
      go_wp2
      go_ret
      exact ⟨ret_bool HF.out, HB3.out⟩
theorem ctxF_mem {r : Ctr} {f : Int} {n : Nat} {x : List Int} (h : x ∈ ctxF r f n) : ∃ y ∈ r.insts, y.ctx = x := by
  unfold ctxF at h
  rw [oPuts_mem] at h
  rcases h with h | h
  · cases h
  · unfold ctxQ at h
    obtain ⟨y, hy, rfl⟩ := List.mem_map.1 h
    exact ⟨y, List.mem_of_mem_take (List.mem_filter.1 hy).1, rfl⟩
set_option maxRecDepth 100000 in
set_option maxHeartbeats 16000000 in
theorem sens23 (AWK : World → Prop) (hbel : ∀ w w', AWK w → Go.RowKit.Below w.heap.size w w' → AWK w') (hawk : ∀ w, AWK w → Calls Tryz.prog 9 #[] w (Ret w (.bool true)))
    (r : Ctr) (p : CP) (f v : Int) (w : World) (hA : AWK w) (h : CtrAt w p r) :
    Calls Tryz.prog 4 #[ctV r p, .int .i64 f, .int .i64 v] w (Ret w (.bool true)) := by
  have S0 := Lib.hid (CB8.start h)
  have AW0 := Lib.hid hA
  have HAB := Lib.hid hbel
  have HAK := Lib.hid hawk
  have HFW : Hid (∀ w1, CtrAt w1 p r → Calls Tryz.prog 8 #[ctV r p] w1 (BPost (fun b => b = true → FewC r) w1)) := fun w1 h1 => few23 r p w1 h1
  have HC1 : Hid (FewC r → ∀ w1, CtrAt w1 p r → Calls Tryz.prog 10 #[ctV r p, .int .i64 f] w1 (RowsLie (ctxF r f r.insts.length) w1)) := fun k w1 h1 => contextsP23 r p f w1 h1 k
  have HC2 : Hid (FewC r → ∀ w1, CtrAt w1 p r → Calls Tryz.prog 11 #[ctV r p, .int .i64 f] w1 (RowsLie (ctxF r f r.insts.length) w1)) := fun k w1 h1 => contextsR23 r p f w1 h1 k
  have HO1 : Hid (FewC r → ∀ w1, CtrAt w1 p r → Calls Tryz.prog 13 #[ctV r p, .int .i64 f, .int .i64 v] w1 (IntsLie (iPuts [] (ofQ r f v r.vars.length)) w1)) := fun k w1 h1 => ofP23 r p f v w1 h1 k
  have HO2 : Hid (FewC r → ∀ w1, CtrAt w1 p r → Calls Tryz.prog 14 #[ctV r p, .int .i64 f, .int .i64 v] w1 (IntsLie (iPuts [] (ofQ r f v r.vars.length)) w1)) := fun k w1 h1 => ofR23 r p f v w1 h1 k
  have HLO : Hid (FewC r → (iPuts [] (ofQ r f v r.vars.length)).length ≤ 1000000) := fun k => by
    have h1 := oPuts_len (lt := fun a b : Int => a < b) (ofQ r f v r.vars.length) []
    have h2 := ofQ_len r f v r.vars.length
    have h3 := sumR_le r.vars r.vars.length
    have h4 := k.vr
    unfold iPuts
    simp at h1; omega
  have HLX : Hid (FewC r → ∀ x ∈ ctxF r f r.insts.length, x.length ≤ 1000000) := fun k x hx => by
    obtain ⟨y, hy, rfl⟩ := ctxF_mem hx
    have := k.ix y hy
    omega
  have HLC : Hid (FewC r → (ctxF r f r.insts.length).length ≤ 1000000) := fun k => by
    have h1 := ctxF_len r f r.insts.length
    have h2 := k.i
    omega
  have HSA : Hid (∀ (l : List Int) (pa : Option Addr) (ca : Nat) (pb : Option Addr) (cb : Nat) (w1 : World), IntsAt w1 pa l → IntsAt w1 pb l → l.length ≤ 1000000 → Calls Tryz.prog 12 #[.slice pa l.length ca, .slice pb l.length cb] w1 (Ret w1 (.bool true))) := fun l pa ca pb cb w1 h1 h2 h3 => by
    have := sameIntsL l l pa ca pb cb w1 h1 h2 h3 h3
    rwa [decide_eq_true rfl] at this
  clear hA h hbel hawk
  generalize ctxF r f r.insts.length = CL at *
  generalize iPuts [] (ofQ r f v r.vars.length) = OL at *
  unfold ctV at *
  go_enter Tryz.func4, Tryz.ntmps4
  go_upto_region 1 with (fail)
  generalize w.alloc _ = W at *
  obtain ⟨z0, z1, z2⟩ := S0.out.cells
  go_wp2_with fail
  refine (HFW.out _ S0.out.m).mono ?_
  rintro e w1 ⟨hb1, d, rfl, hr1⟩
  have S1 := Lib.hid (S0.out.below hb1)
  have HR1 := Lib.hid hr1
  clear S0 hb1 hr1 HFW z0 z1 z2
  cases d
  case false =>
    go_wp2_with fail
    refine (HAK.out _ (HAB.out _ _ AW0.out S1.out.hb)).mono ?_
    rintro e w2 ⟨rfl, hb2⟩
    have S2 := Lib.hid (S1.out.below hb2)
    clear S1 hb2
    go_wp2
    go_ret
    exact ⟨rfl, S2.out.hb⟩
  have HK := Lib.hid (HR1.out rfl)
  replace HC1 := Lib.hid (HC1.out HK.out)
  replace HC2 := Lib.hid (HC2.out HK.out)
  replace HO1 := Lib.hid (HO1.out HK.out)
  replace HO2 := Lib.hid (HO2.out HK.out)
  replace HLX := Lib.hid (HLX.out HK.out)
  have hlo := HLO.out HK.out
  have hlc := HLC.out HK.out
  clear HR1 HK HLO HLC
  go_upto_region 3 with (fail)
  go_cut [7, 8] (fun a b wx => ∃ (pa : Option Addr) (pc : Nat) (qa : Option Addr) (qc : Nat), a = .slice pa CL.length pc ∧ b = .slice qa CL.length qc ∧ Hid (Go.RowKit.Below w1.heap.size w1 wx) ∧ Hid (RowsAt wx pa CL) ∧ Hid (RowsAt wx qa CL))
  case first =>
    clear HO1 HO2 HSA AW0 HAB HAK HLX
    have k0 : ∀ o : WB w1, o.u.cell? ⟨w.heap.size, 0, none⟩ = some (.slice p.ia r.insts.length p.ic) := fun o => (S1.out.below o.h).cells.1
    have k1 : ∀ o : WB w1, o.u.cell? ⟨w.heap.size, 1, none⟩ = some (.slice p.ca r.calls.length p.cc) := fun o => (S1.out.below o.h).cells.2.1
    have k2 : ∀ o : WB w1, o.u.cell? ⟨w.heap.size, 2, none⟩ = some (.slice p.va r.vars.length p.vc) := fun o => (S1.out.below o.h).cells.2.2
    have hne : Nonempty (WB w1) := ⟨⟨w1, Go.RowKit.Below.refl _ _⟩⟩
    have h0 : Go.RowKit.Below w1.heap.size w1 w1.drew := (Go.RowKit.Below.refl _ _).drew
    refine wp_region_Y (fun w' => ∃ o : WB w1, w' = o.u) (by kernel_rfl) ?_
    change wpAnyY _ _ _ _ _ _ _ _ w1.drew
    generalize w1.drew = V0 at *
    refine wpAnyY_take 0 rfl (by kernel_rfl) (fun _ _ _ _ h => h) ⟨⟨_, h0⟩, rfl⟩ (fun K hK => ?_)
    go_simp
    refine hK _ ?_
    clear hK K
    refine wpAnyY_take 1 rfl (by kernel_rfl) (fun _ _ _ _ h => h) ⟨⟨_, h0⟩, rfl⟩ (fun K hK => ?_)
    go_simp
    refine hK _ ?_
    clear hK K
    refine wpAnyY_take 3 rfl (by kernel_rfl) (fun _ _ _ _ h => h) ⟨⟨_, h0⟩, rfl⟩ (fun K hK => ?_)
    go_simp
    refine hK _ ?_
    clear hK K
    refine wpAnyY_take 4 rfl (by kernel_rfl) (fun _ _ _ _ h => h) ⟨⟨_, h0⟩, rfl⟩ (fun K hK => ?_)
    go_simp
    refine hK _ ?_
    clear hK K
    clear k0 k1 k2
    refine wpAnyY_one 2 rfl (by kernel_rfl) ?_
    go_wp2_with fail
    refine (HC1.out _ (S1.out.below h0).m).mono ?_
    rintro e X1 ⟨hb, pa, pc, rfl, -, hr⟩
    have y1 : Go.RowKit.Below w1.heap.size w1 X1 := h0.trans (hb.mono h0.size)
    have RA := Lib.hid hr
    clear hb hr
    go_wp2
    refine ⟨⟨⟨_, y1⟩, rfl⟩, ?_⟩
    refine wpAnyY_one 5 rfl (by kernel_rfl) ?_
    go_wp2_with fail
    refine (HC2.out _ (S1.out.below y1).m).mono ?_
    rintro e X2 ⟨hb, qa, qc, rfl, -, hr⟩
    have y2 : Go.RowKit.Below w1.heap.size w1 X2 := y1.trans (hb.mono y1.size)
    replace RA := Lib.hid (RA.out.below hb)
    have RB := Lib.hid hr
    clear hb hr
    go_wp2
    refine ⟨⟨⟨_, y2⟩, rfl⟩, ?_⟩
    refine wpAnyY_one 6 rfl (by kernel_rfl) ?_
    go_wp2
    refine ⟨⟨⟨_, y2⟩, rfl⟩, ?_⟩
    refine wpAnyY_one 7 rfl (by kernel_rfl) ?_
    go_wp2
    refine ⟨⟨⟨_, y2⟩, rfl⟩, ?_⟩
    refine wpAnyY_done (by kernel_rfl) ?_ _
    go_wp2
    go_meet
    exact ⟨pa, pc, qa, qc, rfl, rfl, y2, RA.out, RB.out⟩
  case rest =>
    obtain ⟨pa, pc, qa, qc, rfl, rfl, HB, RA, RB⟩ := hcut
    clear HC1 HC2
    have S2 := Lib.hid (S1.out.below HB.out)
    clear S1 HB
    obtain ⟨w2, hw2⟩ : ∃ w2, w2 = wc := ⟨_, rfl⟩
    subst hw2
    go_upto_region 4 with (fail)
    go_cut [36] (fun a wx => a = .bool false ∧ Hid (Go.RowKit.Below w2.heap.size w2 wx))
    case first =>
      clear AW0 HAB HAK HLX RA RB
      have k0 : ∀ o : WB w2, o.u.cell? ⟨w.heap.size, 0, none⟩ = some (.slice p.ia r.insts.length p.ic) := fun o => (S2.out.below o.h).cells.1
      have k1 : ∀ o : WB w2, o.u.cell? ⟨w.heap.size, 1, none⟩ = some (.slice p.ca r.calls.length p.cc) := fun o => (S2.out.below o.h).cells.2.1
      have k2 : ∀ o : WB w2, o.u.cell? ⟨w.heap.size, 2, none⟩ = some (.slice p.va r.vars.length p.vc) := fun o => (S2.out.below o.h).cells.2.2
      have hne : Nonempty (WB w2) := ⟨⟨w2, Go.RowKit.Below.refl _ _⟩⟩
      have h0 : Go.RowKit.Below w2.heap.size w2 w2.drew := (Go.RowKit.Below.refl _ _).drew
      refine wp_region_Y (fun w' => ∃ o : WB w2, w' = o.u) (by kernel_rfl) ?_
      change wpAnyY _ _ _ _ _ _ _ _ w2.drew
      generalize w2.drew = V0 at *
      refine wpAnyY_take 0 rfl (by kernel_rfl) (fun _ _ _ _ h => h) ⟨⟨_, h0⟩, rfl⟩ (fun K hK => ?_)
      go_simp
      refine hK _ ?_
      clear hK K
      refine wpAnyY_take 1 rfl (by kernel_rfl) (fun _ _ _ _ h => h) ⟨⟨_, h0⟩, rfl⟩ (fun K hK => ?_)
      go_simp
      refine hK _ ?_
      clear hK K
      refine wpAnyY_take 2 rfl (by kernel_rfl) (fun _ _ _ _ h => h) ⟨⟨_, h0⟩, rfl⟩ (fun K hK => ?_)
      go_simp
      refine hK _ ?_
      clear hK K
      refine wpAnyY_take 3 rfl (by kernel_rfl) (fun _ _ _ _ h => h) ⟨⟨_, h0⟩, rfl⟩ (fun K hK => ?_)
      go_simp
      refine hK _ ?_
      clear hK K
      refine wpAnyY_take 4 rfl (by kernel_rfl) (fun _ _ _ _ h => h) ⟨⟨_, h0⟩, rfl⟩ (fun K hK => ?_)
      go_simp
      refine hK _ ?_
      clear hK K
      refine wpAnyY_take 5 rfl (by kernel_rfl) (fun _ _ _ _ h => h) ⟨⟨_, h0⟩, rfl⟩ (fun K hK => ?_)
      go_simp
      refine hK _ ?_
      clear hK K
      refine wpAnyY_take 6 rfl (by kernel_rfl) (fun _ _ _ _ h => h) ⟨⟨_, h0⟩, rfl⟩ (fun K hK => ?_)
      go_simp
      refine hK _ ?_
      clear hK K
      refine wpAnyY_take 7 rfl (by kernel_rfl) (fun _ _ _ _ h => h) ⟨⟨_, h0⟩, rfl⟩ (fun K hK => ?_)
      go_simp
      refine hK _ ?_
      clear hK K
      refine wpAnyY_take 8 rfl (by kernel_rfl) (fun _ _ _ _ h => h) ⟨⟨_, h0⟩, rfl⟩ (fun K hK => ?_)
      go_simp
      refine hK _ ?_
      clear hK K
      refine wpAnyY_take 10 rfl (by kernel_rfl) (fun _ _ _ _ h => h) ⟨⟨_, h0⟩, rfl⟩ (fun K hK => ?_)
      go_simp
      refine hK _ ?_
      clear hK K
      refine wpAnyY_take 11 rfl (by kernel_rfl) (fun _ _ _ _ h => h) ⟨⟨_, h0⟩, rfl⟩ (fun K hK => ?_)
      go_simp
      refine hK _ ?_
      clear hK K
      refine wpAnyY_take 12 rfl (by kernel_rfl) (fun _ _ _ _ h => h) ⟨⟨_, h0⟩, rfl⟩ (fun K hK => ?_)
      go_simp
      refine hK _ ?_
      clear hK K
      clear k0 k1 k2
      refine wpAnyY_one 9 rfl (by kernel_rfl) ?_
      go_wp2_with fail
      refine (HO1.out _ (S2.out.below h0).m).mono ?_
      rintro e X1 ⟨hb, oa, oc, rfl, -, hr⟩
      have y1 : Go.RowKit.Below w2.heap.size w2 X1 := h0.trans (hb.mono h0.size)
      have RA := Lib.hid hr
      clear hb hr
      go_wp2
      refine ⟨⟨⟨_, y1⟩, rfl⟩, ?_⟩
      refine wpAnyY_one 13 rfl (by kernel_rfl) ?_
      go_wp2_with fail
      refine (HO2.out _ (S2.out.below y1).m).mono ?_
      rintro e X2 ⟨hb, ob, od, rfl, -, hr⟩
      have y2 : Go.RowKit.Below w2.heap.size w2 X2 := y1.trans (hb.mono y1.size)
      replace RA := Lib.hid (RA.out.below hb)
      have RB := Lib.hid hr
      clear hb hr
      go_wp2
      refine ⟨⟨⟨_, y2⟩, rfl⟩, ?_⟩
      refine wpAnyY_one 14 rfl (by kernel_rfl) ?_
      go_wp2_with fail
      refine (HSA.out OL oa oc ob od _ RA.out RB.out hlo).mono ?_
      rintro e X3 ⟨rfl, hb⟩
      have y3 : Go.RowKit.Below w2.heap.size w2 X3 := y2.trans (hb.mono y2.size)
      clear hb RA RB
      go_wp2
      refine ⟨⟨⟨_, y3⟩, rfl⟩, ?_⟩
      refine wpAnyY_one 15 rfl (by kernel_rfl) ?_
      go_wp2
      refine ⟨⟨⟨_, y3⟩, rfl⟩, ?_⟩
      refine wpAnyY_one 16 rfl (by kernel_rfl) ?_
      go_wp2
      refine ⟨⟨⟨_, y3⟩, rfl⟩, ?_⟩
      refine wpAnyY_done (by kernel_rfl) ?_ _
      go_wp2
      go_meet
      exact ⟨rfl, y3⟩
    case rest =>
      obtain ⟨rfl, HB⟩ := hcut
      have S3 := Lib.hid (S2.out.below HB.out)
      replace RA := Lib.hid (RA.out.below HB.out)
      replace RB := Lib.hid (RB.out.below HB.out)
      clear S2 HB HO1 HO2
      obtain ⟨w3, hw3⟩ : ∃ w3, w3 = wc := ⟨_, rfl⟩
      subst hw3
      go_wp2
      go_loopw [39] (fun i wr => ∃ k : Nat, k ≤ CL.length ∧ i = .int .i64 k ∧ Hid (Go.RowKit.Below w3.heap.size w3 wr)) (fun i _ => CL.length - (intOf i).toNat)
      case atStart => exact ⟨0, Nat.zero_le _, rfl, Go.RowKit.Below.refl _ _⟩
      case round =>
        obtain ⟨k, hk, rfl, HB⟩ := hrel
        by_cases hlt : k < CL.length
        case neg =>
          have S4 := Lib.hid (S3.out.below HB.out)
          clear S3
          go_wp2_with fail
          refine (HAK.out _ (HAB.out _ _ AW0.out S4.out.hb)).mono ?_
          rintro e w5 ⟨rfl, hb5⟩
          have S5 := Lib.hid (S4.out.below hb5)
          clear S4 hb5
          go_wp2
          go_ret
          exact ⟨rfl, S5.out.hb⟩
        obtain ⟨b1, o1, a1, d1, he1, p1, i1⟩ := RA.out.below HB.out k hlt
        obtain ⟨b2, o2, a2, d2, he2, p2, i2⟩ := RB.out.below HB.out k hlt
        have hl := HLX.out _ (List.getElem_mem hlt)
        have HSX : Hid (∀ o : WB wr, Calls Tryz.prog 12 #[.slice a1 CL[k].length d1, .slice a2 CL[k].length d2] o.u (Ret o.u (.bool true))) := fun o => HSA.out CL[k] a1 d1 a2 d2 o.u (i1.below o.h) (i2.below o.h) hl
        clear i1 i2 hl AW0 HAB HAK
        rw [he1, he2]
        generalize CL[k].length = n at *
        have hne : Nonempty (WB wr) := ⟨⟨wr, Go.RowKit.Below.refl _ _⟩⟩
        have k0 : ∀ o : WB wr, o.u.cell? ⟨b1, o1 + k, none⟩ = some (.slice a1 n d1) := fun o => cell_below o.h p1
        have k1 : ∀ o : WB wr, o.u.cell? ⟨b2, o2 + k, none⟩ = some (.slice a2 n d2) := fun o => cell_below o.h p2
        clear p1 p2
        go_upto_region 9 with (fail)
        refine wp_region_WB wr (by kernel_rfl) ?_
        repeat (go_big_quiet_step ((rename_i o; exact (HSX.out o).mono (fun _ _ h => Ret.inB h))))
        refine wpQuiet_nil ?_
        intro _ hw'
        obtain ⟨o, rfl⟩ := hw'
        have HB3 := Lib.hid (HB.out.trans (o.h.mono HB.out.size))
        clear k0 k1
        go_wp2
        go_roundw
        case rel => exact ⟨k + 1, by omega, by go_num, HB3.out⟩
        case measure => simp [intOf]; omega
end Go.Proofs.YtdbmmdjmkbnboaaGreatDoor
