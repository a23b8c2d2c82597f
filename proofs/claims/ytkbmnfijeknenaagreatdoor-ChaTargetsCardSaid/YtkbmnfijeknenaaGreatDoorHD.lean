/-
  Equal lists are the same.
  The law ChaTargets returns true.
-/
import Derived.Test.YtkbmnfijeknenaaGreatDoorGA
import Derived.Test.YtkbmnfijeknenaaGreatDoorWF
import Derived.Test.YtkbmnfijeknenaaGreatDoorHC
import Derived.Test.YtkbmnfijeknenaaGreatDoorLiv20
namespace Go.Proofs.YtkbmnfijeknenaaGreatDoor
open Go.RowKit Go.Unit0 Go.AM

set_option maxHeartbeats 1000000 in
theorem sameIntsT (l : List Int) (pa : Option Addr) (ca : Nat) (pb : Option Addr) (cb : Nat) (w : World) (ha : IntsAt w pa l) (hb : IntsAt w pb l) (hll : l.length ≤ 1000000) :
    Calls Tryz.prog 13 #[.slice pa l.length ca, .slice pb l.length cb] w (Ret w (.bool true)) := by
  have HA := Lib.hid ha
  have HB := Lib.hid hb
  clear ha hb
  go_enter Tryz.func13, Tryz.ntmps13
  go_wp2
  go_loopw [13] (fun i wr => ∃ k : Nat, k ≤ l.length ∧ i = .int .i64 k ∧ Hid (Below w.heap.size w wr)) (fun i _ => l.length - (intOf i).toNat)
  case atStart => exact ⟨0, Nat.zero_le _, rfl, Below.refl _ _⟩
  case round =>
    obtain ⟨k, hk, rfl, HW⟩ := hrel
    by_cases hlt : k < l.length
    case neg =>
      go_wp2
      go_ret
      exact ⟨rfl, HW.out⟩
    obtain ⟨b1, o1, he1, p1⟩ := (HA.out.below HW.out) k hlt
    obtain ⟨b2, o2, he2, p2⟩ := (HB.out.below HW.out) k hlt
    subst he1
    subst he2
    generalize l[k] = x at *
    have hne : Nonempty (WB wr) := ⟨⟨wr, Below.refl _ _⟩⟩
    have k0 : ∀ o : WB wr, o.u.cell? ⟨b1, o1 + k, none⟩ = some (.int .i64 x) := fun o => cell_below o.h p1
    have k1 : ∀ o : WB wr, o.u.cell? ⟨b2, o2 + k, none⟩ = some (.int .i64 x) := fun o => cell_below o.h p2
    go_upto_region 6 with (fail)
    clear p1 p2
    refine wp_region_WB wr (by kernel_rfl) ?_
    repeat (go_big_quiet_step (fail))
    refine wpQuiet_nil ?_
    intro _ hw'
    obtain ⟨o, rfl⟩ := hw'
    have HW3 := Lib.hid (HW.out.trans (o.h.mono HW.out.size))
    clear k0 k1
    go_wp2
    go_roundw
    case rel => exact ⟨k + 1, by omega, by go_num, HW3.out⟩
    case measure => simp [intOf]; omega
theorem neqCal (i j k : Int) (w : World) : (binOp .neq 51 (.agg #[.int .i64 i, .int .i64 j, .int .i64 k]) (.agg #[.int .i64 i, .int .i64 j, .int .i64 k])).run Tryz.prog w = .ok (.bool false) w := by
  have u3 := Tryz.underlying3
  have a3 := Tryz.isAgg3
  have z3 := Tryz.sizeOf3
  have hS : Tryz.prog.underlying 51 = some (.struct (Tryz.prog.fieldsOf 51)) := by kernel_rfl
  have hp : Tryz.prog.stoodInHeld 51 = false := by kernel_rfl
  rw [run_neq_struct, show (10000 : Nat) = 9999 + 1 from rfl, run_equalIn_agg w 9999 51 _ _ hS hp]
  simp only [Program.fieldsOf, Tryz.underlying51]
  go_simp
set_option maxHeartbeats 2000000 in
theorem sameCallsT (l : List Cal) (pa : Option Addr) (ca : Nat) (pb : Option Addr) (cb : Nat) (w : World) (ha : CalsAt w pa l) (hb : CalsAt w pb l) (hll : l.length ≤ 1000000) :
    Calls Tryz.prog 16 #[.slice pa l.length ca, .slice pb l.length cb] w (Ret w (.bool true)) := by
  have HA := Lib.hid ha
  have HB := Lib.hid hb
  clear ha hb
  go_enter Tryz.func16, Tryz.ntmps16
  go_wp2
  go_loopw [13] (fun i wr => ∃ k : Nat, k ≤ l.length ∧ i = .int .i64 k ∧ Hid (Below w.heap.size w wr)) (fun i _ => l.length - (intOf i).toNat)
  case atStart => exact ⟨0, Nat.zero_le _, rfl, Below.refl _ _⟩
  case round =>
    obtain ⟨k, hk, rfl, HW⟩ := hrel
    by_cases hlt : k < l.length
    case neg =>
      go_wp2
      go_ret
      exact ⟨rfl, HW.out⟩
    obtain ⟨b1, o1, he1, p1, p2, p3⟩ := (HA.out.below HW.out) k hlt
    obtain ⟨b2, o2, he2, q1, q2, q3⟩ := (HB.out.below HW.out) k hlt
    subst he1
    subst he2
    generalize l[k].f = xf at *
    generalize l[k].i = xi at *
    generalize l[k].c = xc at *
    have hq := neqCal xf xi xc
    have hne : Nonempty (WB wr) := ⟨⟨wr, Below.refl _ _⟩⟩
    have k0 : ∀ o : WB wr, o.u.cell? ⟨b1, o1 + k * 3, none⟩ = some (.int .i64 xf) := fun o => cell_below o.h p1
    have k1 : ∀ o : WB wr, o.u.cell? ⟨b1, o1 + k * 3 + 1, none⟩ = some (.int .i64 xi) := fun o => cell_below o.h p2
    have k2 : ∀ o : WB wr, o.u.cell? ⟨b1, o1 + k * 3 + 2, none⟩ = some (.int .i64 xc) := fun o => cell_below o.h p3
    have k3 : ∀ o : WB wr, o.u.cell? ⟨b2, o2 + k * 3, none⟩ = some (.int .i64 xf) := fun o => cell_below o.h q1
    have k4 : ∀ o : WB wr, o.u.cell? ⟨b2, o2 + k * 3 + 1, none⟩ = some (.int .i64 xi) := fun o => cell_below o.h q2
    have k5 : ∀ o : WB wr, o.u.cell? ⟨b2, o2 + k * 3 + 2, none⟩ = some (.int .i64 xc) := fun o => cell_below o.h q3
    go_upto_region 6 with (fail)
    clear p1 p2 p3 q1 q2 q3
    refine wp_region_WB wr (by kernel_rfl) ?_
    repeat (go_big_quiet_step (fail))
    refine wpQuiet_nil ?_
    intro _ hw'
    obtain ⟨o, rfl⟩ := hw'
    have HW3 := Lib.hid (HW.out.trans (o.h.mono HW.out.size))
    clear k0 k1 k2 k3 k4 k5 hq
    go_wp2
    go_roundw
    case rel => exact ⟨k + 1, by omega, by go_num, HW3.out⟩
    case measure => simp [intOf]; omega
end Go.Proofs.YtkbmnfijeknenaaGreatDoor
namespace Go.Proofs.YtkbmnfijeknenaaGreatDoor
open Go.RowKit Go.Unit0 Go.AM

set_option maxRecDepth 100000 in
set_option maxHeartbeats 8000000 in
theorem targets20 (u : Unt) (ha : Option Addr) (hc : Nat) (fa : Option Addr) (fc : Nat) (f i : Int) (w : World) (hA : AW w) (h : ClssAt w ha u.h) (hf : FncsAt w fa u.fs) :
    Calls Tryz.prog 3 #[unV u ha hc fa fc, .int .i64 f, .int .i64 i] w (Ret w (.bool true)) := by
  have S0 := Lib.hid (UB.start (hc := hc) (fc := fc) h hf)
  have AW0 := Lib.hid hA
  have HSM : Hid (∀ w1, ClssAt w1 ha u.h → FncsAt w1 fa u.fs → Calls Tryz.prog 11 #[unV u ha hc fa fc, .int .i64 150] w1 (BPost (fun b => b = true → FitOk u 150 ∧ UnitOk u) w1)) := fun w1 h1 h2 => small11 u ha hc fa fc 150 w1 h1 h2 (by omega)
  have HT1 : Hid (FitOk u 150 → ∀ w1, ClssAt w1 ha u.h → FncsAt w1 fa u.fs → Calls Tryz.prog 14 #[unV u ha hc fa fc, .int .i64 f, .int .i64 i] w1 (SetPost (trgS u f i) w1)) := fun k w1 h1 h2 => chaTargets u ha hc fa fc f i w1 h1 h2 (fitOk_bnd k (by omega))
  have HT2 : Hid (FitOk u 150 → ∀ w1, ClssAt w1 ha u.h → FncsAt w1 fa u.fs → Calls Tryz.prog 15 #[unV u ha hc fa fc, .int .i64 f, .int .i64 i] w1 (SetPost (trgS u f i) w1)) := fun k w1 h1 h2 => refTargets u ha hc fa fc f i w1 h1 h2 (fitOk_bnd k (by omega)) (by have := k.nc; omega)
  have HC1 : Hid (FitOk u 150 → ∀ w1, ClssAt w1 ha u.h → FncsAt w1 fa u.fs → Calls Tryz.prog 17 #[unV u ha hc fa fc] w1 (CallsPost (edgU u u.fs.length) w1)) := fun k w1 h1 h2 => chaCalls u ha hc fa fc w1 h1 h2 k
  have HC2 : Hid (FitOk u 150 → ∀ w1, ClssAt w1 ha u.h → FncsAt w1 fa u.fs → Calls Tryz.prog 18 #[unV u ha hc fa fc] w1 (CallsPost (edgU u u.fs.length) w1)) := fun k w1 h1 h2 => refCalls u ha hc fa fc w1 h1 h2 k
  have HPL : Hid (FitOk u 150 → (∀ x, trgS u f i x → 0 ≤ x ∧ x < (u.fs.length : Int)) ∧ u.fs.length ≤ 20) := fun k => ⟨fun x => trgS_lt, k.nf⟩
  have HEL : Hid (FitOk u 150 → (edgU u u.fs.length).length ≤ 1000000) := fun k => by
    have h1 := edgU_len (u := u) (Nat.le_refl u.fs.length)
    rw [List.take_length] at h1
    have := Nat.mul_le_mul k.t k.nf
    omega
  clear hA h hf
  generalize trgS u f i = P at *
  generalize edgU u u.fs.length = E at *
  unfold unV at *
  go_enter Tryz.func3, Tryz.ntmps3
  go_upto_region 1 with (fail)
  generalize w.alloc _ = W at *
  obtain ⟨z0, z1, z2⟩ := S0.out.cells
  go_wp2_with fail
  refine (HSM.out _ S0.out.h S0.out.f).mono ?_
  rintro e w1 ⟨hb', d, rfl, hr⟩
  have S := Lib.hid (S0.out.below hb')
  have HR := Lib.hid hr
  clear S0 hb' z0 z1 z2 hr HSM
  generalize w1 = W at *
  cases d
  case false =>
    go_wp2_with fail
    refine (awake20 _ (AW0.out.below S.out.hb)).mono ?_
    rintro e w2 ⟨rfl, hb'⟩
    have S1 := Lib.hid (S.out.below hb')
    clear S hb'
    go_wp2
    go_ret
    exact ⟨rfl, S1.out.hb⟩
  replace HT1 := Lib.hid (HT1.out (HR.out rfl).1)
  replace HT2 := Lib.hid (HT2.out (HR.out rfl).1)
  replace HC1 := Lib.hid (HC1.out (HR.out rfl).1)
  replace HC2 := Lib.hid (HC2.out (HR.out rfl).1)
  replace HPL := Lib.hid (HPL.out (HR.out rfl).1)
  replace HEL := Lib.hid (HEL.out (HR.out rfl).1)
  clear HR
  go_upto_region 3 with (fail)
  have k0 : ∀ o : WB W, o.u.cell? ⟨w.heap.size, 0, none⟩ = some (.slice ha u.h.length hc) := fun o => (S.out.below o.h).cells.1
  have k1 : ∀ o : WB W, o.u.cell? ⟨w.heap.size, 1, none⟩ = some (.slice fa u.fs.length fc) := fun o => (S.out.below o.h).cells.2.1
  have k2 : ∀ o : WB W, o.u.cell? ⟨w.heap.size, 2, none⟩ = some (.int .i64 u.main) := fun o => (S.out.below o.h).cells.2.2
  have hne0 : Nonempty (WB W) := ⟨⟨W, Below.refl _ _⟩⟩
  have h0 : Below W.heap.size W W.drew := (Below.refl _ _).drew
  refine wp_region_Y (fun w' => ∃ o : WB W, w' = o.u) (by kernel_rfl) ?_
  change wpAnyY _ _ _ _ _ _ _ _ W.drew
  generalize W.drew = W0 at *
  refine wpAnyY_one 0 rfl (by kernel_rfl) ?_
  go_wp2_with fail
  refine (awake20 _ (AW0.out.below (S.out.below h0).hb)).mono ?_
  rintro e W1 ⟨rfl, hb1⟩
  have h1 : Below W.heap.size W W1 := h0.trans (hb1.mono h0.size)
  go_wp2
  refine ⟨⟨⟨_, h1⟩, rfl⟩, ?_⟩
  refine wpAnyY_one 1 rfl (by kernel_rfl) ?_
  go_wp2
  refine ⟨⟨⟨_, h1⟩, rfl⟩, ?_⟩
  refine wpAnyY_take 2 rfl (by kernel_rfl) (fun _ _ _ _ h => h) ⟨⟨_, h1⟩, rfl⟩ (fun K hK => ?_)
  go_simp
  refine hK _ ?_
  clear hK K
  refine wpAnyY_take 3 rfl (by kernel_rfl) (fun _ _ _ _ h => h) ⟨⟨_, h1⟩, rfl⟩ (fun K hK => ?_)
  go_simp
  refine hK _ ?_
  clear hK K
  refine wpAnyY_take 4 rfl (by kernel_rfl) (fun _ _ _ _ h => h) ⟨⟨_, h1⟩, rfl⟩ (fun K hK => ?_)
  go_simp
  refine hK _ ?_
  clear hK K
  refine wpAnyY_take 6 rfl (by kernel_rfl) (fun _ _ _ _ h => h) ⟨⟨_, h1⟩, rfl⟩ (fun K hK => ?_)
  go_simp
  refine hK _ ?_
  clear hK K
  refine wpAnyY_take 7 rfl (by kernel_rfl) (fun _ _ _ _ h => h) ⟨⟨_, h1⟩, rfl⟩ (fun K hK => ?_)
  go_simp
  refine hK _ ?_
  clear hK K
  refine wpAnyY_take 8 rfl (by kernel_rfl) (fun _ _ _ _ h => h) ⟨⟨_, h1⟩, rfl⟩ (fun K hK => ?_)
  go_simp
  refine hK _ ?_
  clear hK K
  refine wpAnyY_one 5 rfl (by kernel_rfl) ?_
  go_wp2_with fail
  refine (HT1.out _ (S.out.h.below h1) (S.out.f.below h1)).mono ?_
  rintro e W2 ⟨hb2, L1, a1, c1, rfl, hp1, hm1, ow1⟩
  have h2 : Below W.heap.size W W2 := h1.trans (hb2.mono h1.size)
  have I1 := Lib.hid (owns_ints' ow1).2
  have PM1 := Lib.hid (And.intro hp1 hm1)
  have hl1 : L1.length ≤ 1000000 := by
    have h1 := asc_len hp1 (fun x hx => HPL.out.1 x ((hm1 x).1 hx))
    have h2 := HPL.out.2
    omega
  clear hb2 hp1 hm1 ow1
  go_wp2
  refine ⟨⟨⟨_, h2⟩, rfl⟩, ?_⟩
  refine wpAnyY_one 9 rfl (by kernel_rfl) ?_
  go_wp2_with fail
  refine (HT2.out _ (S.out.h.below h2) (S.out.f.below h2)).mono ?_
  rintro e W3 ⟨hb3, L2, a2, c2, rfl, hp2, hm2, ow2⟩
  have h3 : Below W.heap.size W W3 := h2.trans (hb3.mono h2.size)
  have er := set_unique PM1.out.1 PM1.out.2 hp2 hm2
  subst er
  have I1' := Lib.hid (I1.out.below hb3)
  have I2 := Lib.hid (owns_ints' ow2).2
  clear hb3 hp2 hm2 ow2 I1 PM1
  go_wp2
  refine ⟨⟨⟨_, h3⟩, rfl⟩, ?_⟩
  refine wpAnyY_one 10 rfl (by kernel_rfl) ?_
  go_wp2_with fail
  refine (sameIntsT L1 a1 c1 a2 c2 _ I1'.out I2.out hl1).mono ?_
  rintro e W4 ⟨rfl, hb4⟩
  have h4 : Below W.heap.size W W4 := h3.trans (hb4.mono h3.size)
  clear I1' I2 hb4
  go_wp2
  refine ⟨⟨⟨_, h4⟩, rfl⟩, ?_⟩
  refine wpAnyY_one 11 rfl (by kernel_rfl) ?_
  go_wp2
  refine ⟨⟨⟨_, h4⟩, rfl⟩, ?_⟩
  refine wpAnyY_one 12 rfl (by kernel_rfl) ?_
  go_wp2
  refine ⟨⟨⟨_, h4⟩, rfl⟩, ?_⟩
  refine wpAnyY_take 13 rfl (by kernel_rfl) (fun _ _ _ _ h => h) ⟨⟨_, h4⟩, rfl⟩ (fun K hK => ?_)
  go_simp
  refine hK _ ?_
  clear hK K
  refine wpAnyY_take 15 rfl (by kernel_rfl) (fun _ _ _ _ h => h) ⟨⟨_, h4⟩, rfl⟩ (fun K hK => ?_)
  go_simp
  refine hK _ ?_
  clear hK K
  refine wpAnyY_one 14 rfl (by kernel_rfl) ?_
  go_wp2_with fail
  refine (HC1.out _ (S.out.h.below h4) (S.out.f.below h4)).mono ?_
  rintro e W5 ⟨hb5, a1, c1, rfl, ow1⟩
  have h5 : Below W.heap.size W W5 := h4.trans (hb5.mono h4.size)
  have I1 := Lib.hid (ownsC' ow1).2
  clear hb5 ow1
  go_wp2
  refine ⟨⟨⟨_, h5⟩, rfl⟩, ?_⟩
  refine wpAnyY_one 16 rfl (by kernel_rfl) ?_
  go_wp2_with fail
  refine (HC2.out _ (S.out.h.below h5) (S.out.f.below h5)).mono ?_
  rintro e W6 ⟨hb6, a2, c2, rfl, ow2⟩
  have h6 : Below W.heap.size W W6 := h5.trans (hb6.mono h5.size)
  have I1' := Lib.hid (I1.out.below hb6)
  have I2 := Lib.hid (ownsC' ow2).2
  clear hb6 ow2 I1
  go_wp2
  refine ⟨⟨⟨_, h6⟩, rfl⟩, ?_⟩
  refine wpAnyY_one 17 rfl (by kernel_rfl) ?_
  go_wp2_with fail
  refine (sameCallsT E a1 c1 a2 c2 _ I1'.out I2.out HEL.out).mono ?_
  rintro e W7 ⟨rfl, hb7⟩
  have h7 : Below W.heap.size W W7 := h6.trans (hb7.mono h6.size)
  go_wp2
  refine ⟨⟨⟨_, h7⟩, rfl⟩, ?_⟩
  refine wpAnyY_one 18 rfl (by kernel_rfl) ?_
  go_wp2
  refine ⟨⟨⟨_, h7⟩, rfl⟩, ?_⟩
  refine wpAnyY_one 19 rfl (by kernel_rfl) ?_
  go_wp2
  refine ⟨⟨⟨_, h7⟩, rfl⟩, ?_⟩
  refine wpAnyY_done (by kernel_rfl) ?_ _
  have S7 := Lib.hid (S.out.below h7)
  go_wp2
  go_ret
  exact ⟨rfl, S7.out.hb⟩
end Go.Proofs.YtkbmnfijeknenaaGreatDoor
