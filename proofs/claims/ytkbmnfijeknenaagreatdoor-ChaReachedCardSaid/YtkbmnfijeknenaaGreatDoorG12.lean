/-
  The law ChaReached returns true. (Printed by geng12.py.)
-/
import Derived.Test.YtkbmnfijeknenaaGreatDoorGC
import Derived.Test.YtkbmnfijeknenaaGreatDoorGD
import Derived.Test.YtkbmnfijeknenaaGreatDoorRegt
import Derived.Test.YtkbmnfijeknenaaGreatDoorWF
import Derived.Test.YtkbmnfijeknenaaGreatDoorTA
import Derived.Test.YtkbmnfijeknenaaGreatDoorLiv20
namespace Go.Proofs.YtkbmnfijeknenaaGreatDoor
open Go.RowKit Go.Unit0 Go.AM

theorem owns_edgs' {w : World} {base n d : Nat} {b : Option Addr} {l : List Edg} (h : w.ownsRow base 42 2 (.slice b n d) n (flatE l)) : n ≤ d ∧ EdgsAt w b l := by
  obtain ⟨_, a, cap, he, h1, h2, _⟩ := owns_edgs h
  cases he
  exact ⟨h1, h2⟩
theorem reach_len {n : Nat} {l : List Cal} {m : Int} {L : List Int} (k : ReachL n l m L) : L.length ≤ n := by
  refine nodup_len n L (k.1.imp fun h => Int.ne_of_lt h) (fun x hx => ?_)
  have := ((k.2 x).1 hx).range (fun _ h => by obtain ⟨rfl, h1, h2⟩ := h; exact ⟨h1, h2⟩)
  exact ⟨x.toNat, by omega, by omega⟩
set_option maxHeartbeats 1000000 in
theorem sameInts20 (l : List Int) (pa : Option Addr) (ca : Nat) (pb : Option Addr) (cb : Nat) (w : World) (ha : IntsAt w pa l) (hb : IntsAt w pb l) (hll : l.length ≤ 1000000) :
    Calls Tryz.prog 13 #[.slice pa l.length ca, .slice pb l.length cb] w (Ret w (.bool true)) := by
  have HA := Lib.hid ha
  have HB := Lib.hid hb
  clear ha hb
  go_enter Tryz.func13, Tryz.ntmps13
  go_wp2
  go_loopw [13] (fun i wr => ∃ k : Nat, k ≤ l.length ∧ i = .int .i64 k ∧ Hid (Below w.heap.size w wr)) (fun i _ => l.length - (intOf i).toNat)
  case atStart => exact ⟨0, Nat.zero_le _, rfl, Below.refl _ _⟩
  case round =>
    obtain ⟨k, hk, rfl, HW⟩ := hrel
    by_cases hlt : k < l.length
    case neg =>
      go_wp2
      go_ret
      exact ⟨rfl, HW.out⟩
    obtain ⟨b1, o1, he1, p1⟩ := (HA.out.below HW.out) k hlt
    obtain ⟨b2, o2, he2, p2⟩ := (HB.out.below HW.out) k hlt
    subst he1
    subst he2
    generalize l[k] = x at *
    have hne : Nonempty (WB wr) := ⟨⟨wr, Below.refl _ _⟩⟩
    have k0 : ∀ o : WB wr, o.u.cell? ⟨b1, o1 + k, none⟩ = some (.int .i64 x) := fun o => cell_below o.h p1
    have k1 : ∀ o : WB wr, o.u.cell? ⟨b2, o2 + k, none⟩ = some (.int .i64 x) := fun o => cell_below o.h p2
    go_upto_region 6 with (fail)
    clear p1 p2
    refine wp_region_WB wr (by kernel_rfl) ?_
    repeat (go_big_quiet_step (fail))
    refine wpQuiet_nil ?_
    intro _ hw'
    obtain ⟨o, rfl⟩ := hw'
    have HW3 := Lib.hid (HW.out.trans (o.h.mono HW.out.size))
    clear k0 k1
    go_wp2
    go_roundw
    case rel => exact ⟨k + 1, by omega, by go_num, HW3.out⟩
    case measure => simp [intOf]; omega
theorem neqEdge (i j : Int) (w : World) : (binOp .neq 42 (.agg #[.int .i64 i, .int .i64 j]) (.agg #[.int .i64 i, .int .i64 j])).run Tryz.prog w = .ok (.bool false) w := by
  have u3 := Tryz.underlying3
  have a3 := Tryz.isAgg3
  have z3 := Tryz.sizeOf3
  have hS : Tryz.prog.underlying 42 = some (.struct (Tryz.prog.fieldsOf 42)) := by kernel_rfl
  have hp : Tryz.prog.stoodInHeld 42 = false := by kernel_rfl
  rw [run_neq_struct, show (10000 : Nat) = 9999 + 1 from rfl, run_equalIn_agg w 9999 42 _ _ hS hp]
  simp only [Program.fieldsOf, Tryz.underlying42]
  go_simp
set_option maxRecDepth 100000 in
set_option maxHeartbeats 8000000 in
theorem reached20 (u : Unt) (ha : Option Addr) (hc : Nat) (fa : Option Addr) (fc : Nat) (l : List Cal) (la : Option Addr) (lc : Nat) (w : World) (hA : AW w) (h : ClssAt w ha u.h) (hf : FncsAt w fa u.fs) (hl : CalsAt w la l) :
    Calls Tryz.prog 4 #[unV u ha hc fa fc, .slice la l.length lc] w (Ret w (.bool true)) := by
  have S0 := Lib.hid (UB.start (hc := hc) (fc := fc) h hf)
  have HC0 := Lib.hid (hl.below (one_below w (unC u ha hc fa fc)))
  have HC1 := Lib.hid hl
  have AW0 := Lib.hid hA
  have HSM : Hid (∀ w1, ClssAt w1 ha u.h → FncsAt w1 fa u.fs → Calls Tryz.prog 11 #[unV u ha hc fa fc, .int .i64 150] w1 (BPost (fun b => b = true → FitOk u 150 ∧ UnitOk u) w1)) := fun w1 h1 h2 => small11 u ha hc fa fc 150 w1 h1 h2 (by omega)
  have HG1 : Hid (l.length ≤ 60 → ∀ w1, ClssAt w1 ha u.h → FncsAt w1 fa u.fs → CalsAt w1 la l → Calls Tryz.prog 19 #[unV u ha hc fa fc, .slice la l.length lc] w1 (GraphPost u.fs.length l w1)) := fun k w1 h1 h2 h3 => graphP u ha hc fa fc l la lc w1 h1 h2 h3 (by omega)
  have HG2 : Hid (l.length ≤ 60 → u.fs.length ≤ 1000 → ∀ w1, ClssAt w1 ha u.h → FncsAt w1 fa u.fs → CalsAt w1 la l → Calls Tryz.prog 20 #[unV u ha hc fa fc, .slice la l.length lc] w1 (GraphPost u.fs.length l w1)) := fun k k2 w1 h1 h2 h3 => graphR u ha hc fa fc l la lc w1 h1 h2 h3 k2 (by omega)
  have HR1 : Hid (l.length ≤ 60 → u.fs.length ≤ 1000 → ∀ w1, ClssAt w1 ha u.h → FncsAt w1 fa u.fs → CalsAt w1 la l → Calls Tryz.prog 21 #[unV u ha hc fa fc, .slice la l.length lc] w1 (ReachPost u.fs.length l u.main w1)) := fun k k2 w1 h1 h2 h3 => reachedP u ha hc fa fc l la lc w1 h1 h2 h3 k2 (by omega)
  have HR2 : Hid (l.length ≤ 60 → u.fs.length ≤ 1000 → ∀ w1, ClssAt w1 ha u.h → FncsAt w1 fa u.fs → CalsAt w1 la l → Calls Tryz.prog 22 #[unV u ha hc fa fc, .slice la l.length lc] w1 (ReachPost u.fs.length l u.main w1)) := fun k k2 w1 h1 h2 h3 => reachedR u ha hc fa fc l la lc w1 h1 h2 h3 k2 (by omega)
  clear hA h hf hl
  unfold unV at *
  go_enter Tryz.func4, Tryz.ntmps4
  go_upto_region 1 with (fail)
  generalize w.alloc _ = W at *
  obtain ⟨z0, z1, z2⟩ := S0.out.cells
  go_wp2_with fail
  refine (HSM.out _ S0.out.h S0.out.f).mono ?_
  rintro e w1 ⟨hb', d, rfl, hr⟩
  have S := Lib.hid (S0.out.below hb')
  have HCA := Lib.hid (HC0.out.below hb')
  have HR := Lib.hid hr
  clear S0 HC0 hb' z0 z1 z2 hr HSM
  generalize w1 = W at *
  cases d
  case false =>
    go_wp2_with fail
    refine (awake20 _ (AW0.out.below S.out.hb)).mono ?_
    rintro e w2 ⟨rfl, hb'⟩
    have S1 := Lib.hid (S.out.below hb')
    clear S hb'
    go_wp2
    go_ret
    exact ⟨rfl, S1.out.hb⟩
  by_cases hl60 : l.length ≤ 60
  case neg =>
    have t1 : decide ((60 : Int) < (l.length : Int)) = true := decide_eq_true (by omega)
    clear hl60
    go_wp2_with fail
    refine (awake20 _ (AW0.out.below S.out.hb)).mono ?_
    rintro e w2 ⟨rfl, hb'⟩
    have S1 := Lib.hid (S.out.below hb')
    clear S hb'
    go_wp2
    go_ret
    exact ⟨rfl, S1.out.hb⟩
  have t1 : decide ((60 : Int) < (l.length : Int)) = false := decide_eq_false (by omega)
  have hfl : u.fs.length ≤ 1000 := by have := (HR.out rfl).1.nf; omega
  replace HG1 := Lib.hid (HG1.out hl60)
  replace HG2 := Lib.hid (HG2.out hl60 hfl)
  replace HR1 := Lib.hid (HR1.out hl60 hfl)
  replace HR2 := Lib.hid (HR2.out hl60 hfl)
  clear HR hl60
  generalize hN : u.fs.length = n at *
  go_upto_region 3 with (fail)
  clear t1
  go_cut [5, 6] (fun p1 p2 wx => ∃ (b1 b2 : Nat) (L : List Edg) (a1 : Option Addr) (c1 : Nat) (a2 : Option Addr) (c2 : Nat), p1 = .pointer (some ⟨b1, 0, none⟩) ∧ p2 = .pointer (some ⟨b2, 0, none⟩) ∧ Hid (UB u ha hc fa fc w wx) ∧ Hid (Blk wx b1 #[.int .i64 n, .slice a1 L.length c1] 39) ∧ Hid (Blk wx b2 #[.int .i64 n, .slice a2 L.length c2] 39) ∧ Hid (EdgsAt wx a1 L) ∧ Hid (EdgsAt wx a2 L) ∧ L.length ≤ 1000000)
  case first =>
    have k0 : ∀ o : WB W, o.u.cell? ⟨w.heap.size, 0, none⟩ = some (.slice ha u.h.length hc) := fun o => (S.out.below o.h).cells.1
    have k1 : ∀ o : WB W, o.u.cell? ⟨w.heap.size, 1, none⟩ = some (.slice fa n fc) := fun o => by have := (S.out.below o.h).cells.2.1; rw [hN] at this; exact this
    have k2 : ∀ o : WB W, o.u.cell? ⟨w.heap.size, 2, none⟩ = some (.int .i64 u.main) := fun o => (S.out.below o.h).cells.2.2
    have hne0 : Nonempty (WB W) := ⟨⟨W, Below.refl _ _⟩⟩
    have h0 : Below W.heap.size W W.drew := (Below.refl _ _).drew
    refine wp_region_Y (fun w' => ∃ o : WB W, w' = o.u) (by kernel_rfl) ?_
    change wpAnyY _ _ _ _ _ _ _ _ W.drew
    generalize W.drew = W0 at *
    refine wpAnyY_take 0 rfl (by kernel_rfl) (fun _ _ _ _ h => h) ⟨⟨_, h0⟩, rfl⟩ (fun K hK => ?_)
    go_simp
    refine hK _ ?_
    clear hK K
    refine wpAnyY_take 1 rfl (by kernel_rfl) (fun _ _ _ _ h => h) ⟨⟨_, h0⟩, rfl⟩ (fun K hK => ?_)
    go_simp
    refine hK _ ?_
    clear hK K
    refine wpAnyY_take 3 rfl (by kernel_rfl) (fun _ _ _ _ h => h) ⟨⟨_, h0⟩, rfl⟩ (fun K hK => ?_)
    go_simp
    refine hK _ ?_
    clear hK K
    refine wpAnyY_take 4 rfl (by kernel_rfl) (fun _ _ _ _ h => h) ⟨⟨_, h0⟩, rfl⟩ (fun K hK => ?_)
    go_simp
    refine hK _ ?_
    clear hK K
    clear k0 k1 k2 hne0
    refine wpAnyY_three 2 6 7 rfl rfl rfl (by kernel_rfl) ?_ ?_ ?_
    · go_wp2_with fail
      refine (HG1.out _ (S.out.h.below h0) (S.out.f.below h0) (HCA.out.below h0)).mono ?_
      rintro e W1 ⟨hb, L1, a1, c1, rfl, gl, ow, hL1⟩
      have h1 : Below W.heap.size W W1 := h0.trans (hb.mono h0.size)
      have GL1 := Lib.hid gl
      have O1 := Lib.hid (owns_mono ow (Nat.zero_le _))
      clear hb gl ow
      go_wp2
      refine ⟨⟨⟨_, h1⟩, rfl⟩, ?_⟩
      refine wpAnyY_three 5 6 7 rfl rfl rfl (by kernel_rfl) ?_ ?_ ?_
      · go_wp2_with fail
        refine (HG2.out _ (S.out.h.below h1) (S.out.f.below h1) (HCA.out.below h1)).mono ?_
        rintro e W2 ⟨hb, L2, a2, c2, rfl, gl, ow, hL2⟩
        have h2 : Below W.heap.size W W2 := h1.trans (hb.mono h1.size)
        have GL2 := Lib.hid gl
        have O2 := Lib.hid (owns_mono ow (Nat.zero_le _))
        replace O1 := Lib.hid (owns_below O1.out hb)
        clear hb gl ow
        go_wp2
        refine ⟨⟨⟨_, h2⟩, rfl⟩, ?_⟩
        refine wpAnyY_two 6 7 rfl rfl (by kernel_rfl) ?_ ?_
        · go_wp2
          have h3 : Below W.heap.size W (W2.alloc (.cells #[.int .i64 0, .slice none 0 0] 39)) := h2.trans ((one_below ..).mono h2.size)
          have B5 : Hid (Blk (W2.alloc (.cells #[.int .i64 0, .slice none 0 0] 39)) W2.heap.size #[.int .i64 0, .slice none 0 0] 39) := blk_new ..
          have n5 : W.heap.size ≤ W2.heap.size := h2.size
          replace O1 := Lib.hid (owns_below O1.out (one_below W2 (.cells #[.int .i64 0, .slice none 0 0] 39)))
          replace O2 := Lib.hid (owns_below O2.out (one_below W2 (.cells #[.int .i64 0, .slice none 0 0] 39)))
          refine ⟨⟨⟨_, h3⟩, rfl⟩, ?_⟩
          generalize W2.alloc _ = W3 at *
          generalize W2.heap.size = b5 at *
          refine wpAnyY_one 7 rfl (by kernel_rfl) ?_
          · go_wp2
            have h4 : Below W.heap.size W (W3.alloc (.cells #[.int .i64 0, .slice none 0 0] 39)) := h3.trans ((one_below ..).mono h3.size)
            have B6 : Hid (Blk (W3.alloc (.cells #[.int .i64 0, .slice none 0 0] 39)) W3.heap.size #[.int .i64 0, .slice none 0 0] 39) := blk_new ..
            have n6 : W.heap.size ≤ W3.heap.size := h3.size
            have hne : b5 ≠ W3.heap.size := Nat.ne_of_lt B5.out.lt
            replace B5 := Lib.hid (B5.out.below (one_below W3 (.cells #[.int .i64 0, .slice none 0 0] 39)))
            replace O1 := Lib.hid (owns_below O1.out (one_below W3 (.cells #[.int .i64 0, .slice none 0 0] 39)))
            replace O2 := Lib.hid (owns_below O2.out (one_below W3 (.cells #[.int .i64 0, .slice none 0 0] 39)))
            refine ⟨⟨⟨_, h4⟩, rfl⟩, ?_⟩
            generalize W3.alloc _ = W4 at *
            generalize W3.heap.size = b6 at *
            have GE := graph_unique GL1.out GL2.out
            subst GE
            have A1 := O1.out.kept (grown_row W4 b5 #[.int .i64 n, .slice a1 L1.length c1]) (.inr (fun e => owns_ne O1.out B5.out (by decide) e.symm))
            have A2 := O2.out.kept (grown_row W4 b5 #[.int .i64 n, .slice a1 L1.length c1]) (.inr (fun e => owns_ne O2.out B5.out (by decide) e.symm))
            have C5 := B5.out.setRow #[.int .i64 n, .slice a1 L1.length c1]
            have C6 := B6.out.setRow_ne (Ne.symm hne) #[.int .i64 n, .slice a1 L1.length c1]
            have j1 := below_setRow h4 n5 #[.int .i64 n, .slice a1 L1.length c1]
            refine wpAnyY_one 8 rfl (by kernel_rfl) ?_
            go_wp2_with (refine storeGraph rfl _ _ rfl b5 _ _ _ _ rfl rfl _ B5.out rfl ?_)
            refine ⟨⟨⟨_, j1⟩, rfl⟩, ?_⟩
            generalize W4.setRow b5 _ = V at *
            have A3 := A1.kept (grown_row V b6 #[.int .i64 n, .slice a2 L1.length c2]) (.inr (fun e => owns_ne A1 C6 (by decide) e.symm))
            have A4 := A2.kept (grown_row V b6 #[.int .i64 n, .slice a2 L1.length c2]) (.inr (fun e => owns_ne A2 C6 (by decide) e.symm))
            have C7 := C5.setRow_ne hne #[.int .i64 n, .slice a2 L1.length c2]
            have C8 := C6.setRow #[.int .i64 n, .slice a2 L1.length c2]
            have j2 := below_setRow j1 n6 #[.int .i64 n, .slice a2 L1.length c2]
            refine wpAnyY_one 9 rfl (by kernel_rfl) ?_
            go_wp2_with (refine storeGraph rfl _ _ rfl b6 _ _ _ _ rfl rfl _ C6 rfl ?_)
            refine ⟨⟨⟨_, j2⟩, rfl⟩, ?_⟩
            refine wpAnyY_done (by kernel_rfl) ?_ _
            have S3 := Lib.hid (S.out.below j2)
            go_wp2
            go_meet
            exact ⟨b5, b6, L1, a1, c1, a2, c2, rfl, rfl, S3.out, C7, C8, (owns_edgs' A3).2, (owns_edgs' A4).2, hL1⟩
        · go_wp2
          have h5 : Below W.heap.size W (W2.alloc (.cells #[.int .i64 0, .slice none 0 0] 39)) := h2.trans ((one_below ..).mono h2.size)
          have B6 : Hid (Blk (W2.alloc (.cells #[.int .i64 0, .slice none 0 0] 39)) W2.heap.size #[.int .i64 0, .slice none 0 0] 39) := blk_new ..
          have n6 : W.heap.size ≤ W2.heap.size := h2.size
          replace O1 := Lib.hid (owns_below O1.out (one_below W2 (.cells #[.int .i64 0, .slice none 0 0] 39)))
          replace O2 := Lib.hid (owns_below O2.out (one_below W2 (.cells #[.int .i64 0, .slice none 0 0] 39)))
          refine ⟨⟨⟨_, h5⟩, rfl⟩, ?_⟩
          generalize W2.alloc _ = W5 at *
          generalize W2.heap.size = b6 at *
          refine wpAnyY_one 6 rfl (by kernel_rfl) ?_
          · go_wp2
            have h6 : Below W.heap.size W (W5.alloc (.cells #[.int .i64 0, .slice none 0 0] 39)) := h5.trans ((one_below ..).mono h5.size)
            have B5 : Hid (Blk (W5.alloc (.cells #[.int .i64 0, .slice none 0 0] 39)) W5.heap.size #[.int .i64 0, .slice none 0 0] 39) := blk_new ..
            have n5 : W.heap.size ≤ W5.heap.size := h5.size
            have hne : W5.heap.size ≠ b6 := Nat.ne_of_gt B6.out.lt
            replace B6 := Lib.hid (B6.out.below (one_below W5 (.cells #[.int .i64 0, .slice none 0 0] 39)))
            replace O1 := Lib.hid (owns_below O1.out (one_below W5 (.cells #[.int .i64 0, .slice none 0 0] 39)))
            replace O2 := Lib.hid (owns_below O2.out (one_below W5 (.cells #[.int .i64 0, .slice none 0 0] 39)))
            refine ⟨⟨⟨_, h6⟩, rfl⟩, ?_⟩
            generalize W5.alloc _ = W6 at *
            generalize W5.heap.size = b5 at *
            have GE := graph_unique GL1.out GL2.out
            subst GE
            have A1 := O1.out.kept (grown_row W6 b5 #[.int .i64 n, .slice a1 L1.length c1]) (.inr (fun e => owns_ne O1.out B5.out (by decide) e.symm))
            have A2 := O2.out.kept (grown_row W6 b5 #[.int .i64 n, .slice a1 L1.length c1]) (.inr (fun e => owns_ne O2.out B5.out (by decide) e.symm))
            have C5 := B5.out.setRow #[.int .i64 n, .slice a1 L1.length c1]
            have C6 := B6.out.setRow_ne (Ne.symm hne) #[.int .i64 n, .slice a1 L1.length c1]
            have j1 := below_setRow h6 n5 #[.int .i64 n, .slice a1 L1.length c1]
            refine wpAnyY_one 8 rfl (by kernel_rfl) ?_
            go_wp2_with (refine storeGraph rfl _ _ rfl b5 _ _ _ _ rfl rfl _ B5.out rfl ?_)
            refine ⟨⟨⟨_, j1⟩, rfl⟩, ?_⟩
            generalize W6.setRow b5 _ = V at *
            have A3 := A1.kept (grown_row V b6 #[.int .i64 n, .slice a2 L1.length c2]) (.inr (fun e => owns_ne A1 C6 (by decide) e.symm))
            have A4 := A2.kept (grown_row V b6 #[.int .i64 n, .slice a2 L1.length c2]) (.inr (fun e => owns_ne A2 C6 (by decide) e.symm))
            have C7 := C5.setRow_ne hne #[.int .i64 n, .slice a2 L1.length c2]
            have C8 := C6.setRow #[.int .i64 n, .slice a2 L1.length c2]
            have j2 := below_setRow j1 n6 #[.int .i64 n, .slice a2 L1.length c2]
            refine wpAnyY_one 9 rfl (by kernel_rfl) ?_
            go_wp2_with (refine storeGraph rfl _ _ rfl b6 _ _ _ _ rfl rfl _ C6 rfl ?_)
            refine ⟨⟨⟨_, j2⟩, rfl⟩, ?_⟩
            refine wpAnyY_done (by kernel_rfl) ?_ _
            have S3 := Lib.hid (S.out.below j2)
            go_wp2
            go_meet
            exact ⟨b5, b6, L1, a1, c1, a2, c2, rfl, rfl, S3.out, C7, C8, (owns_edgs' A3).2, (owns_edgs' A4).2, hL1⟩
      · go_wp2
        have h7 : Below W.heap.size W (W1.alloc (.cells #[.int .i64 0, .slice none 0 0] 39)) := h1.trans ((one_below ..).mono h1.size)
        have B5 : Hid (Blk (W1.alloc (.cells #[.int .i64 0, .slice none 0 0] 39)) W1.heap.size #[.int .i64 0, .slice none 0 0] 39) := blk_new ..
        have n5 : W.heap.size ≤ W1.heap.size := h1.size
        replace O1 := Lib.hid (owns_below O1.out (one_below W1 (.cells #[.int .i64 0, .slice none 0 0] 39)))
        refine ⟨⟨⟨_, h7⟩, rfl⟩, ?_⟩
        generalize W1.alloc _ = W7 at *
        generalize W1.heap.size = b5 at *
        refine wpAnyY_two 5 7 rfl rfl (by kernel_rfl) ?_ ?_
        · go_wp2_with fail
          refine (HG2.out _ (S.out.h.below h7) (S.out.f.below h7) (HCA.out.below h7)).mono ?_
          rintro e W8 ⟨hb, L2, a2, c2, rfl, gl, ow, hL2⟩
          have h8 : Below W.heap.size W W8 := h7.trans (hb.mono h7.size)
          have GL2 := Lib.hid gl
          have O2 := Lib.hid (owns_mono ow (Nat.zero_le _))
          replace O1 := Lib.hid (owns_below O1.out hb)
          replace B5 := Lib.hid (B5.out.below hb)
          clear hb gl ow
          go_wp2
          refine ⟨⟨⟨_, h8⟩, rfl⟩, ?_⟩
          refine wpAnyY_one 7 rfl (by kernel_rfl) ?_
          · go_wp2
            have h9 : Below W.heap.size W (W8.alloc (.cells #[.int .i64 0, .slice none 0 0] 39)) := h8.trans ((one_below ..).mono h8.size)
            have B6 : Hid (Blk (W8.alloc (.cells #[.int .i64 0, .slice none 0 0] 39)) W8.heap.size #[.int .i64 0, .slice none 0 0] 39) := blk_new ..
            have n6 : W.heap.size ≤ W8.heap.size := h8.size
            have hne : b5 ≠ W8.heap.size := Nat.ne_of_lt B5.out.lt
            replace B5 := Lib.hid (B5.out.below (one_below W8 (.cells #[.int .i64 0, .slice none 0 0] 39)))
            replace O1 := Lib.hid (owns_below O1.out (one_below W8 (.cells #[.int .i64 0, .slice none 0 0] 39)))
            replace O2 := Lib.hid (owns_below O2.out (one_below W8 (.cells #[.int .i64 0, .slice none 0 0] 39)))
            refine ⟨⟨⟨_, h9⟩, rfl⟩, ?_⟩
            generalize W8.alloc _ = W9 at *
            generalize W8.heap.size = b6 at *
            have GE := graph_unique GL1.out GL2.out
            subst GE
            have A1 := O1.out.kept (grown_row W9 b5 #[.int .i64 n, .slice a1 L1.length c1]) (.inr (fun e => owns_ne O1.out B5.out (by decide) e.symm))
            have A2 := O2.out.kept (grown_row W9 b5 #[.int .i64 n, .slice a1 L1.length c1]) (.inr (fun e => owns_ne O2.out B5.out (by decide) e.symm))
            have C5 := B5.out.setRow #[.int .i64 n, .slice a1 L1.length c1]
            have C6 := B6.out.setRow_ne (Ne.symm hne) #[.int .i64 n, .slice a1 L1.length c1]
            have j1 := below_setRow h9 n5 #[.int .i64 n, .slice a1 L1.length c1]
            refine wpAnyY_one 8 rfl (by kernel_rfl) ?_
            go_wp2_with (refine storeGraph rfl _ _ rfl b5 _ _ _ _ rfl rfl _ B5.out rfl ?_)
            refine ⟨⟨⟨_, j1⟩, rfl⟩, ?_⟩
            generalize W9.setRow b5 _ = V at *
            have A3 := A1.kept (grown_row V b6 #[.int .i64 n, .slice a2 L1.length c2]) (.inr (fun e => owns_ne A1 C6 (by decide) e.symm))
            have A4 := A2.kept (grown_row V b6 #[.int .i64 n, .slice a2 L1.length c2]) (.inr (fun e => owns_ne A2 C6 (by decide) e.symm))
            have C7 := C5.setRow_ne hne #[.int .i64 n, .slice a2 L1.length c2]
            have C8 := C6.setRow #[.int .i64 n, .slice a2 L1.length c2]
            have j2 := below_setRow j1 n6 #[.int .i64 n, .slice a2 L1.length c2]
            refine wpAnyY_one 9 rfl (by kernel_rfl) ?_
            go_wp2_with (refine storeGraph rfl _ _ rfl b6 _ _ _ _ rfl rfl _ C6 rfl ?_)
            refine ⟨⟨⟨_, j2⟩, rfl⟩, ?_⟩
            refine wpAnyY_done (by kernel_rfl) ?_ _
            have S3 := Lib.hid (S.out.below j2)
            go_wp2
            go_meet
            exact ⟨b5, b6, L1, a1, c1, a2, c2, rfl, rfl, S3.out, C7, C8, (owns_edgs' A3).2, (owns_edgs' A4).2, hL1⟩
        · go_wp2
          have h10 : Below W.heap.size W (W7.alloc (.cells #[.int .i64 0, .slice none 0 0] 39)) := h7.trans ((one_below ..).mono h7.size)
          have B6 : Hid (Blk (W7.alloc (.cells #[.int .i64 0, .slice none 0 0] 39)) W7.heap.size #[.int .i64 0, .slice none 0 0] 39) := blk_new ..
          have n6 : W.heap.size ≤ W7.heap.size := h7.size
          have hne : b5 ≠ W7.heap.size := Nat.ne_of_lt B5.out.lt
          replace B5 := Lib.hid (B5.out.below (one_below W7 (.cells #[.int .i64 0, .slice none 0 0] 39)))
          replace O1 := Lib.hid (owns_below O1.out (one_below W7 (.cells #[.int .i64 0, .slice none 0 0] 39)))
          refine ⟨⟨⟨_, h10⟩, rfl⟩, ?_⟩
          generalize W7.alloc _ = W10 at *
          generalize W7.heap.size = b6 at *
          refine wpAnyY_one 5 rfl (by kernel_rfl) ?_
          · go_wp2_with fail
            refine (HG2.out _ (S.out.h.below h10) (S.out.f.below h10) (HCA.out.below h10)).mono ?_
            rintro e W11 ⟨hb, L2, a2, c2, rfl, gl, ow, hL2⟩
            have h11 : Below W.heap.size W W11 := h10.trans (hb.mono h10.size)
            have GL2 := Lib.hid gl
            have O2 := Lib.hid (owns_mono ow (Nat.zero_le _))
            replace O1 := Lib.hid (owns_below O1.out hb)
            replace B5 := Lib.hid (B5.out.below hb)
            replace B6 := Lib.hid (B6.out.below hb)
            clear hb gl ow
            go_wp2
            refine ⟨⟨⟨_, h11⟩, rfl⟩, ?_⟩
            have GE := graph_unique GL1.out GL2.out
            subst GE
            have A1 := O1.out.kept (grown_row W11 b5 #[.int .i64 n, .slice a1 L1.length c1]) (.inr (fun e => owns_ne O1.out B5.out (by decide) e.symm))
            have A2 := O2.out.kept (grown_row W11 b5 #[.int .i64 n, .slice a1 L1.length c1]) (.inr (fun e => owns_ne O2.out B5.out (by decide) e.symm))
            have C5 := B5.out.setRow #[.int .i64 n, .slice a1 L1.length c1]
            have C6 := B6.out.setRow_ne (Ne.symm hne) #[.int .i64 n, .slice a1 L1.length c1]
            have j1 := below_setRow h11 n5 #[.int .i64 n, .slice a1 L1.length c1]
            refine wpAnyY_one 8 rfl (by kernel_rfl) ?_
            go_wp2_with (refine storeGraph rfl _ _ rfl b5 _ _ _ _ rfl rfl _ B5.out rfl ?_)
            refine ⟨⟨⟨_, j1⟩, rfl⟩, ?_⟩
            generalize W11.setRow b5 _ = V at *
            have A3 := A1.kept (grown_row V b6 #[.int .i64 n, .slice a2 L1.length c2]) (.inr (fun e => owns_ne A1 C6 (by decide) e.symm))
            have A4 := A2.kept (grown_row V b6 #[.int .i64 n, .slice a2 L1.length c2]) (.inr (fun e => owns_ne A2 C6 (by decide) e.symm))
            have C7 := C5.setRow_ne hne #[.int .i64 n, .slice a2 L1.length c2]
            have C8 := C6.setRow #[.int .i64 n, .slice a2 L1.length c2]
            have j2 := below_setRow j1 n6 #[.int .i64 n, .slice a2 L1.length c2]
            refine wpAnyY_one 9 rfl (by kernel_rfl) ?_
            go_wp2_with (refine storeGraph rfl _ _ rfl b6 _ _ _ _ rfl rfl _ C6 rfl ?_)
            refine ⟨⟨⟨_, j2⟩, rfl⟩, ?_⟩
            refine wpAnyY_done (by kernel_rfl) ?_ _
            have S3 := Lib.hid (S.out.below j2)
            go_wp2
            go_meet
            exact ⟨b5, b6, L1, a1, c1, a2, c2, rfl, rfl, S3.out, C7, C8, (owns_edgs' A3).2, (owns_edgs' A4).2, hL1⟩
      · go_wp2
        have h12 : Below W.heap.size W (W1.alloc (.cells #[.int .i64 0, .slice none 0 0] 39)) := h1.trans ((one_below ..).mono h1.size)
        have B6 : Hid (Blk (W1.alloc (.cells #[.int .i64 0, .slice none 0 0] 39)) W1.heap.size #[.int .i64 0, .slice none 0 0] 39) := blk_new ..
        have n6 : W.heap.size ≤ W1.heap.size := h1.size
        replace O1 := Lib.hid (owns_below O1.out (one_below W1 (.cells #[.int .i64 0, .slice none 0 0] 39)))
        refine ⟨⟨⟨_, h12⟩, rfl⟩, ?_⟩
        generalize W1.alloc _ = W12 at *
        generalize W1.heap.size = b6 at *
        refine wpAnyY_two 5 6 rfl rfl (by kernel_rfl) ?_ ?_
        · go_wp2_with fail
          refine (HG2.out _ (S.out.h.below h12) (S.out.f.below h12) (HCA.out.below h12)).mono ?_
          rintro e W13 ⟨hb, L2, a2, c2, rfl, gl, ow, hL2⟩
          have h13 : Below W.heap.size W W13 := h12.trans (hb.mono h12.size)
          have GL2 := Lib.hid gl
          have O2 := Lib.hid (owns_mono ow (Nat.zero_le _))
          replace O1 := Lib.hid (owns_below O1.out hb)
          replace B6 := Lib.hid (B6.out.below hb)
          clear hb gl ow
          go_wp2
          refine ⟨⟨⟨_, h13⟩, rfl⟩, ?_⟩
          refine wpAnyY_one 6 rfl (by kernel_rfl) ?_
          · go_wp2
            have h14 : Below W.heap.size W (W13.alloc (.cells #[.int .i64 0, .slice none 0 0] 39)) := h13.trans ((one_below ..).mono h13.size)
            have B5 : Hid (Blk (W13.alloc (.cells #[.int .i64 0, .slice none 0 0] 39)) W13.heap.size #[.int .i64 0, .slice none 0 0] 39) := blk_new ..
            have n5 : W.heap.size ≤ W13.heap.size := h13.size
            have hne : W13.heap.size ≠ b6 := Nat.ne_of_gt B6.out.lt
            replace B6 := Lib.hid (B6.out.below (one_below W13 (.cells #[.int .i64 0, .slice none 0 0] 39)))
            replace O1 := Lib.hid (owns_below O1.out (one_below W13 (.cells #[.int .i64 0, .slice none 0 0] 39)))
            replace O2 := Lib.hid (owns_below O2.out (one_below W13 (.cells #[.int .i64 0, .slice none 0 0] 39)))
            refine ⟨⟨⟨_, h14⟩, rfl⟩, ?_⟩
            generalize W13.alloc _ = W14 at *
            generalize W13.heap.size = b5 at *
            have GE := graph_unique GL1.out GL2.out
            subst GE
            have A1 := O1.out.kept (grown_row W14 b5 #[.int .i64 n, .slice a1 L1.length c1]) (.inr (fun e => owns_ne O1.out B5.out (by decide) e.symm))
            have A2 := O2.out.kept (grown_row W14 b5 #[.int .i64 n, .slice a1 L1.length c1]) (.inr (fun e => owns_ne O2.out B5.out (by decide) e.symm))
            have C5 := B5.out.setRow #[.int .i64 n, .slice a1 L1.length c1]
            have C6 := B6.out.setRow_ne (Ne.symm hne) #[.int .i64 n, .slice a1 L1.length c1]
            have j1 := below_setRow h14 n5 #[.int .i64 n, .slice a1 L1.length c1]
            refine wpAnyY_one 8 rfl (by kernel_rfl) ?_
            go_wp2_with (refine storeGraph rfl _ _ rfl b5 _ _ _ _ rfl rfl _ B5.out rfl ?_)
            refine ⟨⟨⟨_, j1⟩, rfl⟩, ?_⟩
            generalize W14.setRow b5 _ = V at *
            have A3 := A1.kept (grown_row V b6 #[.int .i64 n, .slice a2 L1.length c2]) (.inr (fun e => owns_ne A1 C6 (by decide) e.symm))
            have A4 := A2.kept (grown_row V b6 #[.int .i64 n, .slice a2 L1.length c2]) (.inr (fun e => owns_ne A2 C6 (by decide) e.symm))
            have C7 := C5.setRow_ne hne #[.int .i64 n, .slice a2 L1.length c2]
            have C8 := C6.setRow #[.int .i64 n, .slice a2 L1.length c2]
            have j2 := below_setRow j1 n6 #[.int .i64 n, .slice a2 L1.length c2]
            refine wpAnyY_one 9 rfl (by kernel_rfl) ?_
            go_wp2_with (refine storeGraph rfl _ _ rfl b6 _ _ _ _ rfl rfl _ C6 rfl ?_)
            refine ⟨⟨⟨_, j2⟩, rfl⟩, ?_⟩
            refine wpAnyY_done (by kernel_rfl) ?_ _
            have S3 := Lib.hid (S.out.below j2)
            go_wp2
            go_meet
            exact ⟨b5, b6, L1, a1, c1, a2, c2, rfl, rfl, S3.out, C7, C8, (owns_edgs' A3).2, (owns_edgs' A4).2, hL1⟩
        · go_wp2
          have h15 : Below W.heap.size W (W12.alloc (.cells #[.int .i64 0, .slice none 0 0] 39)) := h12.trans ((one_below ..).mono h12.size)
          have B5 : Hid (Blk (W12.alloc (.cells #[.int .i64 0, .slice none 0 0] 39)) W12.heap.size #[.int .i64 0, .slice none 0 0] 39) := blk_new ..
          have n5 : W.heap.size ≤ W12.heap.size := h12.size
          have hne : W12.heap.size ≠ b6 := Nat.ne_of_gt B6.out.lt
          replace B6 := Lib.hid (B6.out.below (one_below W12 (.cells #[.int .i64 0, .slice none 0 0] 39)))
          replace O1 := Lib.hid (owns_below O1.out (one_below W12 (.cells #[.int .i64 0, .slice none 0 0] 39)))
          refine ⟨⟨⟨_, h15⟩, rfl⟩, ?_⟩
          generalize W12.alloc _ = W15 at *
          generalize W12.heap.size = b5 at *
          refine wpAnyY_one 5 rfl (by kernel_rfl) ?_
          · go_wp2_with fail
            refine (HG2.out _ (S.out.h.below h15) (S.out.f.below h15) (HCA.out.below h15)).mono ?_
            rintro e W16 ⟨hb, L2, a2, c2, rfl, gl, ow, hL2⟩
            have h16 : Below W.heap.size W W16 := h15.trans (hb.mono h15.size)
            have GL2 := Lib.hid gl
            have O2 := Lib.hid (owns_mono ow (Nat.zero_le _))
            replace O1 := Lib.hid (owns_below O1.out hb)
            replace B5 := Lib.hid (B5.out.below hb)
            replace B6 := Lib.hid (B6.out.below hb)
            clear hb gl ow
            go_wp2
            refine ⟨⟨⟨_, h16⟩, rfl⟩, ?_⟩
            have GE := graph_unique GL1.out GL2.out
            subst GE
            have A1 := O1.out.kept (grown_row W16 b5 #[.int .i64 n, .slice a1 L1.length c1]) (.inr (fun e => owns_ne O1.out B5.out (by decide) e.symm))
            have A2 := O2.out.kept (grown_row W16 b5 #[.int .i64 n, .slice a1 L1.length c1]) (.inr (fun e => owns_ne O2.out B5.out (by decide) e.symm))
            have C5 := B5.out.setRow #[.int .i64 n, .slice a1 L1.length c1]
            have C6 := B6.out.setRow_ne (Ne.symm hne) #[.int .i64 n, .slice a1 L1.length c1]
            have j1 := below_setRow h16 n5 #[.int .i64 n, .slice a1 L1.length c1]
            refine wpAnyY_one 8 rfl (by kernel_rfl) ?_
            go_wp2_with (refine storeGraph rfl _ _ rfl b5 _ _ _ _ rfl rfl _ B5.out rfl ?_)
            refine ⟨⟨⟨_, j1⟩, rfl⟩, ?_⟩
            generalize W16.setRow b5 _ = V at *
            have A3 := A1.kept (grown_row V b6 #[.int .i64 n, .slice a2 L1.length c2]) (.inr (fun e => owns_ne A1 C6 (by decide) e.symm))
            have A4 := A2.kept (grown_row V b6 #[.int .i64 n, .slice a2 L1.length c2]) (.inr (fun e => owns_ne A2 C6 (by decide) e.symm))
            have C7 := C5.setRow_ne hne #[.int .i64 n, .slice a2 L1.length c2]
            have C8 := C6.setRow #[.int .i64 n, .slice a2 L1.length c2]
            have j2 := below_setRow j1 n6 #[.int .i64 n, .slice a2 L1.length c2]
            refine wpAnyY_one 9 rfl (by kernel_rfl) ?_
            go_wp2_with (refine storeGraph rfl _ _ rfl b6 _ _ _ _ rfl rfl _ C6 rfl ?_)
            refine ⟨⟨⟨_, j2⟩, rfl⟩, ?_⟩
            refine wpAnyY_done (by kernel_rfl) ?_ _
            have S3 := Lib.hid (S.out.below j2)
            go_wp2
            go_meet
            exact ⟨b5, b6, L1, a1, c1, a2, c2, rfl, rfl, S3.out, C7, C8, (owns_edgs' A3).2, (owns_edgs' A4).2, hL1⟩
    · go_wp2
      have h17 : Below W.heap.size W (W0.alloc (.cells #[.int .i64 0, .slice none 0 0] 39)) := h0.trans ((one_below ..).mono h0.size)
      have B5 : Hid (Blk (W0.alloc (.cells #[.int .i64 0, .slice none 0 0] 39)) W0.heap.size #[.int .i64 0, .slice none 0 0] 39) := blk_new ..
      have n5 : W.heap.size ≤ W0.heap.size := h0.size
      refine ⟨⟨⟨_, h17⟩, rfl⟩, ?_⟩
      generalize W0.alloc _ = W17 at *
      generalize W0.heap.size = b5 at *
      refine wpAnyY_two 2 7 rfl rfl (by kernel_rfl) ?_ ?_
      · go_wp2_with fail
        refine (HG1.out _ (S.out.h.below h17) (S.out.f.below h17) (HCA.out.below h17)).mono ?_
        rintro e W18 ⟨hb, L1, a1, c1, rfl, gl, ow, hL1⟩
        have h18 : Below W.heap.size W W18 := h17.trans (hb.mono h17.size)
        have GL1 := Lib.hid gl
        have O1 := Lib.hid (owns_mono ow (Nat.zero_le _))
        replace B5 := Lib.hid (B5.out.below hb)
        clear hb gl ow
        go_wp2
        refine ⟨⟨⟨_, h18⟩, rfl⟩, ?_⟩
        refine wpAnyY_two 5 7 rfl rfl (by kernel_rfl) ?_ ?_
        · go_wp2_with fail
          refine (HG2.out _ (S.out.h.below h18) (S.out.f.below h18) (HCA.out.below h18)).mono ?_
          rintro e W19 ⟨hb, L2, a2, c2, rfl, gl, ow, hL2⟩
          have h19 : Below W.heap.size W W19 := h18.trans (hb.mono h18.size)
          have GL2 := Lib.hid gl
          have O2 := Lib.hid (owns_mono ow (Nat.zero_le _))
          replace O1 := Lib.hid (owns_below O1.out hb)
          replace B5 := Lib.hid (B5.out.below hb)
          clear hb gl ow
          go_wp2
          refine ⟨⟨⟨_, h19⟩, rfl⟩, ?_⟩
          refine wpAnyY_one 7 rfl (by kernel_rfl) ?_
          · go_wp2
            have h20 : Below W.heap.size W (W19.alloc (.cells #[.int .i64 0, .slice none 0 0] 39)) := h19.trans ((one_below ..).mono h19.size)
            have B6 : Hid (Blk (W19.alloc (.cells #[.int .i64 0, .slice none 0 0] 39)) W19.heap.size #[.int .i64 0, .slice none 0 0] 39) := blk_new ..
            have n6 : W.heap.size ≤ W19.heap.size := h19.size
            have hne : b5 ≠ W19.heap.size := Nat.ne_of_lt B5.out.lt
            replace B5 := Lib.hid (B5.out.below (one_below W19 (.cells #[.int .i64 0, .slice none 0 0] 39)))
            replace O1 := Lib.hid (owns_below O1.out (one_below W19 (.cells #[.int .i64 0, .slice none 0 0] 39)))
            replace O2 := Lib.hid (owns_below O2.out (one_below W19 (.cells #[.int .i64 0, .slice none 0 0] 39)))
            refine ⟨⟨⟨_, h20⟩, rfl⟩, ?_⟩
            generalize W19.alloc _ = W20 at *
            generalize W19.heap.size = b6 at *
            have GE := graph_unique GL1.out GL2.out
            subst GE
            have A1 := O1.out.kept (grown_row W20 b5 #[.int .i64 n, .slice a1 L1.length c1]) (.inr (fun e => owns_ne O1.out B5.out (by decide) e.symm))
            have A2 := O2.out.kept (grown_row W20 b5 #[.int .i64 n, .slice a1 L1.length c1]) (.inr (fun e => owns_ne O2.out B5.out (by decide) e.symm))
            have C5 := B5.out.setRow #[.int .i64 n, .slice a1 L1.length c1]
            have C6 := B6.out.setRow_ne (Ne.symm hne) #[.int .i64 n, .slice a1 L1.length c1]
            have j1 := below_setRow h20 n5 #[.int .i64 n, .slice a1 L1.length c1]
            refine wpAnyY_one 8 rfl (by kernel_rfl) ?_
            go_wp2_with (refine storeGraph rfl _ _ rfl b5 _ _ _ _ rfl rfl _ B5.out rfl ?_)
            refine ⟨⟨⟨_, j1⟩, rfl⟩, ?_⟩
            generalize W20.setRow b5 _ = V at *
            have A3 := A1.kept (grown_row V b6 #[.int .i64 n, .slice a2 L1.length c2]) (.inr (fun e => owns_ne A1 C6 (by decide) e.symm))
            have A4 := A2.kept (grown_row V b6 #[.int .i64 n, .slice a2 L1.length c2]) (.inr (fun e => owns_ne A2 C6 (by decide) e.symm))
            have C7 := C5.setRow_ne hne #[.int .i64 n, .slice a2 L1.length c2]
            have C8 := C6.setRow #[.int .i64 n, .slice a2 L1.length c2]
            have j2 := below_setRow j1 n6 #[.int .i64 n, .slice a2 L1.length c2]
            refine wpAnyY_one 9 rfl (by kernel_rfl) ?_
            go_wp2_with (refine storeGraph rfl _ _ rfl b6 _ _ _ _ rfl rfl _ C6 rfl ?_)
            refine ⟨⟨⟨_, j2⟩, rfl⟩, ?_⟩
            refine wpAnyY_done (by kernel_rfl) ?_ _
            have S3 := Lib.hid (S.out.below j2)
            go_wp2
            go_meet
            exact ⟨b5, b6, L1, a1, c1, a2, c2, rfl, rfl, S3.out, C7, C8, (owns_edgs' A3).2, (owns_edgs' A4).2, hL1⟩
        · go_wp2
          have h21 : Below W.heap.size W (W18.alloc (.cells #[.int .i64 0, .slice none 0 0] 39)) := h18.trans ((one_below ..).mono h18.size)
          have B6 : Hid (Blk (W18.alloc (.cells #[.int .i64 0, .slice none 0 0] 39)) W18.heap.size #[.int .i64 0, .slice none 0 0] 39) := blk_new ..
          have n6 : W.heap.size ≤ W18.heap.size := h18.size
          have hne : b5 ≠ W18.heap.size := Nat.ne_of_lt B5.out.lt
          replace B5 := Lib.hid (B5.out.below (one_below W18 (.cells #[.int .i64 0, .slice none 0 0] 39)))
          replace O1 := Lib.hid (owns_below O1.out (one_below W18 (.cells #[.int .i64 0, .slice none 0 0] 39)))
          refine ⟨⟨⟨_, h21⟩, rfl⟩, ?_⟩
          generalize W18.alloc _ = W21 at *
          generalize W18.heap.size = b6 at *
          refine wpAnyY_one 5 rfl (by kernel_rfl) ?_
          · go_wp2_with fail
            refine (HG2.out _ (S.out.h.below h21) (S.out.f.below h21) (HCA.out.below h21)).mono ?_
            rintro e W22 ⟨hb, L2, a2, c2, rfl, gl, ow, hL2⟩
            have h22 : Below W.heap.size W W22 := h21.trans (hb.mono h21.size)
            have GL2 := Lib.hid gl
            have O2 := Lib.hid (owns_mono ow (Nat.zero_le _))
            replace O1 := Lib.hid (owns_below O1.out hb)
            replace B5 := Lib.hid (B5.out.below hb)
            replace B6 := Lib.hid (B6.out.below hb)
            clear hb gl ow
            go_wp2
            refine ⟨⟨⟨_, h22⟩, rfl⟩, ?_⟩
            have GE := graph_unique GL1.out GL2.out
            subst GE
            have A1 := O1.out.kept (grown_row W22 b5 #[.int .i64 n, .slice a1 L1.length c1]) (.inr (fun e => owns_ne O1.out B5.out (by decide) e.symm))
            have A2 := O2.out.kept (grown_row W22 b5 #[.int .i64 n, .slice a1 L1.length c1]) (.inr (fun e => owns_ne O2.out B5.out (by decide) e.symm))
            have C5 := B5.out.setRow #[.int .i64 n, .slice a1 L1.length c1]
            have C6 := B6.out.setRow_ne (Ne.symm hne) #[.int .i64 n, .slice a1 L1.length c1]
            have j1 := below_setRow h22 n5 #[.int .i64 n, .slice a1 L1.length c1]
            refine wpAnyY_one 8 rfl (by kernel_rfl) ?_
            go_wp2_with (refine storeGraph rfl _ _ rfl b5 _ _ _ _ rfl rfl _ B5.out rfl ?_)
            refine ⟨⟨⟨_, j1⟩, rfl⟩, ?_⟩
            generalize W22.setRow b5 _ = V at *
            have A3 := A1.kept (grown_row V b6 #[.int .i64 n, .slice a2 L1.length c2]) (.inr (fun e => owns_ne A1 C6 (by decide) e.symm))
            have A4 := A2.kept (grown_row V b6 #[.int .i64 n, .slice a2 L1.length c2]) (.inr (fun e => owns_ne A2 C6 (by decide) e.symm))
            have C7 := C5.setRow_ne hne #[.int .i64 n, .slice a2 L1.length c2]
            have C8 := C6.setRow #[.int .i64 n, .slice a2 L1.length c2]
            have j2 := below_setRow j1 n6 #[.int .i64 n, .slice a2 L1.length c2]
            refine wpAnyY_one 9 rfl (by kernel_rfl) ?_
            go_wp2_with (refine storeGraph rfl _ _ rfl b6 _ _ _ _ rfl rfl _ C6 rfl ?_)
            refine ⟨⟨⟨_, j2⟩, rfl⟩, ?_⟩
            refine wpAnyY_done (by kernel_rfl) ?_ _
            have S3 := Lib.hid (S.out.below j2)
            go_wp2
            go_meet
            exact ⟨b5, b6, L1, a1, c1, a2, c2, rfl, rfl, S3.out, C7, C8, (owns_edgs' A3).2, (owns_edgs' A4).2, hL1⟩
      · go_wp2
        have h23 : Below W.heap.size W (W17.alloc (.cells #[.int .i64 0, .slice none 0 0] 39)) := h17.trans ((one_below ..).mono h17.size)
        have B6 : Hid (Blk (W17.alloc (.cells #[.int .i64 0, .slice none 0 0] 39)) W17.heap.size #[.int .i64 0, .slice none 0 0] 39) := blk_new ..
        have n6 : W.heap.size ≤ W17.heap.size := h17.size
        have hne : b5 ≠ W17.heap.size := Nat.ne_of_lt B5.out.lt
        replace B5 := Lib.hid (B5.out.below (one_below W17 (.cells #[.int .i64 0, .slice none 0 0] 39)))
        refine ⟨⟨⟨_, h23⟩, rfl⟩, ?_⟩
        generalize W17.alloc _ = W23 at *
        generalize W17.heap.size = b6 at *
        refine wpAnyY_one 2 rfl (by kernel_rfl) ?_
        · go_wp2_with fail
          refine (HG1.out _ (S.out.h.below h23) (S.out.f.below h23) (HCA.out.below h23)).mono ?_
          rintro e W24 ⟨hb, L1, a1, c1, rfl, gl, ow, hL1⟩
          have h24 : Below W.heap.size W W24 := h23.trans (hb.mono h23.size)
          have GL1 := Lib.hid gl
          have O1 := Lib.hid (owns_mono ow (Nat.zero_le _))
          replace B5 := Lib.hid (B5.out.below hb)
          replace B6 := Lib.hid (B6.out.below hb)
          clear hb gl ow
          go_wp2
          refine ⟨⟨⟨_, h24⟩, rfl⟩, ?_⟩
          refine wpAnyY_one 5 rfl (by kernel_rfl) ?_
          · go_wp2_with fail
            refine (HG2.out _ (S.out.h.below h24) (S.out.f.below h24) (HCA.out.below h24)).mono ?_
            rintro e W25 ⟨hb, L2, a2, c2, rfl, gl, ow, hL2⟩
            have h25 : Below W.heap.size W W25 := h24.trans (hb.mono h24.size)
            have GL2 := Lib.hid gl
            have O2 := Lib.hid (owns_mono ow (Nat.zero_le _))
            replace O1 := Lib.hid (owns_below O1.out hb)
            replace B5 := Lib.hid (B5.out.below hb)
            replace B6 := Lib.hid (B6.out.below hb)
            clear hb gl ow
            go_wp2
            refine ⟨⟨⟨_, h25⟩, rfl⟩, ?_⟩
            have GE := graph_unique GL1.out GL2.out
            subst GE
            have A1 := O1.out.kept (grown_row W25 b5 #[.int .i64 n, .slice a1 L1.length c1]) (.inr (fun e => owns_ne O1.out B5.out (by decide) e.symm))
            have A2 := O2.out.kept (grown_row W25 b5 #[.int .i64 n, .slice a1 L1.length c1]) (.inr (fun e => owns_ne O2.out B5.out (by decide) e.symm))
            have C5 := B5.out.setRow #[.int .i64 n, .slice a1 L1.length c1]
            have C6 := B6.out.setRow_ne (Ne.symm hne) #[.int .i64 n, .slice a1 L1.length c1]
            have j1 := below_setRow h25 n5 #[.int .i64 n, .slice a1 L1.length c1]
            refine wpAnyY_one 8 rfl (by kernel_rfl) ?_
            go_wp2_with (refine storeGraph rfl _ _ rfl b5 _ _ _ _ rfl rfl _ B5.out rfl ?_)
            refine ⟨⟨⟨_, j1⟩, rfl⟩, ?_⟩
            generalize W25.setRow b5 _ = V at *
            have A3 := A1.kept (grown_row V b6 #[.int .i64 n, .slice a2 L1.length c2]) (.inr (fun e => owns_ne A1 C6 (by decide) e.symm))
            have A4 := A2.kept (grown_row V b6 #[.int .i64 n, .slice a2 L1.length c2]) (.inr (fun e => owns_ne A2 C6 (by decide) e.symm))
            have C7 := C5.setRow_ne hne #[.int .i64 n, .slice a2 L1.length c2]
            have C8 := C6.setRow #[.int .i64 n, .slice a2 L1.length c2]
            have j2 := below_setRow j1 n6 #[.int .i64 n, .slice a2 L1.length c2]
            refine wpAnyY_one 9 rfl (by kernel_rfl) ?_
            go_wp2_with (refine storeGraph rfl _ _ rfl b6 _ _ _ _ rfl rfl _ C6 rfl ?_)
            refine ⟨⟨⟨_, j2⟩, rfl⟩, ?_⟩
            refine wpAnyY_done (by kernel_rfl) ?_ _
            have S3 := Lib.hid (S.out.below j2)
            go_wp2
            go_meet
            exact ⟨b5, b6, L1, a1, c1, a2, c2, rfl, rfl, S3.out, C7, C8, (owns_edgs' A3).2, (owns_edgs' A4).2, hL1⟩
    · go_wp2
      have h26 : Below W.heap.size W (W0.alloc (.cells #[.int .i64 0, .slice none 0 0] 39)) := h0.trans ((one_below ..).mono h0.size)
      have B6 : Hid (Blk (W0.alloc (.cells #[.int .i64 0, .slice none 0 0] 39)) W0.heap.size #[.int .i64 0, .slice none 0 0] 39) := blk_new ..
      have n6 : W.heap.size ≤ W0.heap.size := h0.size
      refine ⟨⟨⟨_, h26⟩, rfl⟩, ?_⟩
      generalize W0.alloc _ = W26 at *
      generalize W0.heap.size = b6 at *
      refine wpAnyY_two 2 6 rfl rfl (by kernel_rfl) ?_ ?_
      · go_wp2_with fail
        refine (HG1.out _ (S.out.h.below h26) (S.out.f.below h26) (HCA.out.below h26)).mono ?_
        rintro e W27 ⟨hb, L1, a1, c1, rfl, gl, ow, hL1⟩
        have h27 : Below W.heap.size W W27 := h26.trans (hb.mono h26.size)
        have GL1 := Lib.hid gl
        have O1 := Lib.hid (owns_mono ow (Nat.zero_le _))
        replace B6 := Lib.hid (B6.out.below hb)
        clear hb gl ow
        go_wp2
        refine ⟨⟨⟨_, h27⟩, rfl⟩, ?_⟩
        refine wpAnyY_two 5 6 rfl rfl (by kernel_rfl) ?_ ?_
        · go_wp2_with fail
          refine (HG2.out _ (S.out.h.below h27) (S.out.f.below h27) (HCA.out.below h27)).mono ?_
          rintro e W28 ⟨hb, L2, a2, c2, rfl, gl, ow, hL2⟩
          have h28 : Below W.heap.size W W28 := h27.trans (hb.mono h27.size)
          have GL2 := Lib.hid gl
          have O2 := Lib.hid (owns_mono ow (Nat.zero_le _))
          replace O1 := Lib.hid (owns_below O1.out hb)
          replace B6 := Lib.hid (B6.out.below hb)
          clear hb gl ow
          go_wp2
          refine ⟨⟨⟨_, h28⟩, rfl⟩, ?_⟩
          refine wpAnyY_one 6 rfl (by kernel_rfl) ?_
          · go_wp2
            have h29 : Below W.heap.size W (W28.alloc (.cells #[.int .i64 0, .slice none 0 0] 39)) := h28.trans ((one_below ..).mono h28.size)
            have B5 : Hid (Blk (W28.alloc (.cells #[.int .i64 0, .slice none 0 0] 39)) W28.heap.size #[.int .i64 0, .slice none 0 0] 39) := blk_new ..
            have n5 : W.heap.size ≤ W28.heap.size := h28.size
            have hne : W28.heap.size ≠ b6 := Nat.ne_of_gt B6.out.lt
            replace B6 := Lib.hid (B6.out.below (one_below W28 (.cells #[.int .i64 0, .slice none 0 0] 39)))
            replace O1 := Lib.hid (owns_below O1.out (one_below W28 (.cells #[.int .i64 0, .slice none 0 0] 39)))
            replace O2 := Lib.hid (owns_below O2.out (one_below W28 (.cells #[.int .i64 0, .slice none 0 0] 39)))
            refine ⟨⟨⟨_, h29⟩, rfl⟩, ?_⟩
            generalize W28.alloc _ = W29 at *
            generalize W28.heap.size = b5 at *
            have GE := graph_unique GL1.out GL2.out
            subst GE
            have A1 := O1.out.kept (grown_row W29 b5 #[.int .i64 n, .slice a1 L1.length c1]) (.inr (fun e => owns_ne O1.out B5.out (by decide) e.symm))
            have A2 := O2.out.kept (grown_row W29 b5 #[.int .i64 n, .slice a1 L1.length c1]) (.inr (fun e => owns_ne O2.out B5.out (by decide) e.symm))
            have C5 := B5.out.setRow #[.int .i64 n, .slice a1 L1.length c1]
            have C6 := B6.out.setRow_ne (Ne.symm hne) #[.int .i64 n, .slice a1 L1.length c1]
            have j1 := below_setRow h29 n5 #[.int .i64 n, .slice a1 L1.length c1]
            refine wpAnyY_one 8 rfl (by kernel_rfl) ?_
            go_wp2_with (refine storeGraph rfl _ _ rfl b5 _ _ _ _ rfl rfl _ B5.out rfl ?_)
            refine ⟨⟨⟨_, j1⟩, rfl⟩, ?_⟩
            generalize W29.setRow b5 _ = V at *
            have A3 := A1.kept (grown_row V b6 #[.int .i64 n, .slice a2 L1.length c2]) (.inr (fun e => owns_ne A1 C6 (by decide) e.symm))
            have A4 := A2.kept (grown_row V b6 #[.int .i64 n, .slice a2 L1.length c2]) (.inr (fun e => owns_ne A2 C6 (by decide) e.symm))
            have C7 := C5.setRow_ne hne #[.int .i64 n, .slice a2 L1.length c2]
            have C8 := C6.setRow #[.int .i64 n, .slice a2 L1.length c2]
            have j2 := below_setRow j1 n6 #[.int .i64 n, .slice a2 L1.length c2]
            refine wpAnyY_one 9 rfl (by kernel_rfl) ?_
            go_wp2_with (refine storeGraph rfl _ _ rfl b6 _ _ _ _ rfl rfl _ C6 rfl ?_)
            refine ⟨⟨⟨_, j2⟩, rfl⟩, ?_⟩
            refine wpAnyY_done (by kernel_rfl) ?_ _
            have S3 := Lib.hid (S.out.below j2)
            go_wp2
            go_meet
            exact ⟨b5, b6, L1, a1, c1, a2, c2, rfl, rfl, S3.out, C7, C8, (owns_edgs' A3).2, (owns_edgs' A4).2, hL1⟩
        · go_wp2
          have h30 : Below W.heap.size W (W27.alloc (.cells #[.int .i64 0, .slice none 0 0] 39)) := h27.trans ((one_below ..).mono h27.size)
          have B5 : Hid (Blk (W27.alloc (.cells #[.int .i64 0, .slice none 0 0] 39)) W27.heap.size #[.int .i64 0, .slice none 0 0] 39) := blk_new ..
          have n5 : W.heap.size ≤ W27.heap.size := h27.size
          have hne : W27.heap.size ≠ b6 := Nat.ne_of_gt B6.out.lt
          replace B6 := Lib.hid (B6.out.below (one_below W27 (.cells #[.int .i64 0, .slice none 0 0] 39)))
          replace O1 := Lib.hid (owns_below O1.out (one_below W27 (.cells #[.int .i64 0, .slice none 0 0] 39)))
          refine ⟨⟨⟨_, h30⟩, rfl⟩, ?_⟩
          generalize W27.alloc _ = W30 at *
          generalize W27.heap.size = b5 at *
          refine wpAnyY_one 5 rfl (by kernel_rfl) ?_
          · go_wp2_with fail
            refine (HG2.out _ (S.out.h.below h30) (S.out.f.below h30) (HCA.out.below h30)).mono ?_
            rintro e W31 ⟨hb, L2, a2, c2, rfl, gl, ow, hL2⟩
            have h31 : Below W.heap.size W W31 := h30.trans (hb.mono h30.size)
            have GL2 := Lib.hid gl
            have O2 := Lib.hid (owns_mono ow (Nat.zero_le _))
            replace O1 := Lib.hid (owns_below O1.out hb)
            replace B5 := Lib.hid (B5.out.below hb)
            replace B6 := Lib.hid (B6.out.below hb)
            clear hb gl ow
            go_wp2
            refine ⟨⟨⟨_, h31⟩, rfl⟩, ?_⟩
            have GE := graph_unique GL1.out GL2.out
            subst GE
            have A1 := O1.out.kept (grown_row W31 b5 #[.int .i64 n, .slice a1 L1.length c1]) (.inr (fun e => owns_ne O1.out B5.out (by decide) e.symm))
            have A2 := O2.out.kept (grown_row W31 b5 #[.int .i64 n, .slice a1 L1.length c1]) (.inr (fun e => owns_ne O2.out B5.out (by decide) e.symm))
            have C5 := B5.out.setRow #[.int .i64 n, .slice a1 L1.length c1]
            have C6 := B6.out.setRow_ne (Ne.symm hne) #[.int .i64 n, .slice a1 L1.length c1]
            have j1 := below_setRow h31 n5 #[.int .i64 n, .slice a1 L1.length c1]
            refine wpAnyY_one 8 rfl (by kernel_rfl) ?_
            go_wp2_with (refine storeGraph rfl _ _ rfl b5 _ _ _ _ rfl rfl _ B5.out rfl ?_)
            refine ⟨⟨⟨_, j1⟩, rfl⟩, ?_⟩
            generalize W31.setRow b5 _ = V at *
            have A3 := A1.kept (grown_row V b6 #[.int .i64 n, .slice a2 L1.length c2]) (.inr (fun e => owns_ne A1 C6 (by decide) e.symm))
            have A4 := A2.kept (grown_row V b6 #[.int .i64 n, .slice a2 L1.length c2]) (.inr (fun e => owns_ne A2 C6 (by decide) e.symm))
            have C7 := C5.setRow_ne hne #[.int .i64 n, .slice a2 L1.length c2]
            have C8 := C6.setRow #[.int .i64 n, .slice a2 L1.length c2]
            have j2 := below_setRow j1 n6 #[.int .i64 n, .slice a2 L1.length c2]
            refine wpAnyY_one 9 rfl (by kernel_rfl) ?_
            go_wp2_with (refine storeGraph rfl _ _ rfl b6 _ _ _ _ rfl rfl _ C6 rfl ?_)
            refine ⟨⟨⟨_, j2⟩, rfl⟩, ?_⟩
            refine wpAnyY_done (by kernel_rfl) ?_ _
            have S3 := Lib.hid (S.out.below j2)
            go_wp2
            go_meet
            exact ⟨b5, b6, L1, a1, c1, a2, c2, rfl, rfl, S3.out, C7, C8, (owns_edgs' A3).2, (owns_edgs' A4).2, hL1⟩
      · go_wp2
        have h32 : Below W.heap.size W (W26.alloc (.cells #[.int .i64 0, .slice none 0 0] 39)) := h26.trans ((one_below ..).mono h26.size)
        have B5 : Hid (Blk (W26.alloc (.cells #[.int .i64 0, .slice none 0 0] 39)) W26.heap.size #[.int .i64 0, .slice none 0 0] 39) := blk_new ..
        have n5 : W.heap.size ≤ W26.heap.size := h26.size
        have hne : W26.heap.size ≠ b6 := Nat.ne_of_gt B6.out.lt
        replace B6 := Lib.hid (B6.out.below (one_below W26 (.cells #[.int .i64 0, .slice none 0 0] 39)))
        refine ⟨⟨⟨_, h32⟩, rfl⟩, ?_⟩
        generalize W26.alloc _ = W32 at *
        generalize W26.heap.size = b5 at *
        refine wpAnyY_one 2 rfl (by kernel_rfl) ?_
        · go_wp2_with fail
          refine (HG1.out _ (S.out.h.below h32) (S.out.f.below h32) (HCA.out.below h32)).mono ?_
          rintro e W33 ⟨hb, L1, a1, c1, rfl, gl, ow, hL1⟩
          have h33 : Below W.heap.size W W33 := h32.trans (hb.mono h32.size)
          have GL1 := Lib.hid gl
          have O1 := Lib.hid (owns_mono ow (Nat.zero_le _))
          replace B5 := Lib.hid (B5.out.below hb)
          replace B6 := Lib.hid (B6.out.below hb)
          clear hb gl ow
          go_wp2
          refine ⟨⟨⟨_, h33⟩, rfl⟩, ?_⟩
          refine wpAnyY_one 5 rfl (by kernel_rfl) ?_
          · go_wp2_with fail
            refine (HG2.out _ (S.out.h.below h33) (S.out.f.below h33) (HCA.out.below h33)).mono ?_
            rintro e W34 ⟨hb, L2, a2, c2, rfl, gl, ow, hL2⟩
            have h34 : Below W.heap.size W W34 := h33.trans (hb.mono h33.size)
            have GL2 := Lib.hid gl
            have O2 := Lib.hid (owns_mono ow (Nat.zero_le _))
            replace O1 := Lib.hid (owns_below O1.out hb)
            replace B5 := Lib.hid (B5.out.below hb)
            replace B6 := Lib.hid (B6.out.below hb)
            clear hb gl ow
            go_wp2
            refine ⟨⟨⟨_, h34⟩, rfl⟩, ?_⟩
            have GE := graph_unique GL1.out GL2.out
            subst GE
            have A1 := O1.out.kept (grown_row W34 b5 #[.int .i64 n, .slice a1 L1.length c1]) (.inr (fun e => owns_ne O1.out B5.out (by decide) e.symm))
            have A2 := O2.out.kept (grown_row W34 b5 #[.int .i64 n, .slice a1 L1.length c1]) (.inr (fun e => owns_ne O2.out B5.out (by decide) e.symm))
            have C5 := B5.out.setRow #[.int .i64 n, .slice a1 L1.length c1]
            have C6 := B6.out.setRow_ne (Ne.symm hne) #[.int .i64 n, .slice a1 L1.length c1]
            have j1 := below_setRow h34 n5 #[.int .i64 n, .slice a1 L1.length c1]
            refine wpAnyY_one 8 rfl (by kernel_rfl) ?_
            go_wp2_with (refine storeGraph rfl _ _ rfl b5 _ _ _ _ rfl rfl _ B5.out rfl ?_)
            refine ⟨⟨⟨_, j1⟩, rfl⟩, ?_⟩
            generalize W34.setRow b5 _ = V at *
            have A3 := A1.kept (grown_row V b6 #[.int .i64 n, .slice a2 L1.length c2]) (.inr (fun e => owns_ne A1 C6 (by decide) e.symm))
            have A4 := A2.kept (grown_row V b6 #[.int .i64 n, .slice a2 L1.length c2]) (.inr (fun e => owns_ne A2 C6 (by decide) e.symm))
            have C7 := C5.setRow_ne hne #[.int .i64 n, .slice a2 L1.length c2]
            have C8 := C6.setRow #[.int .i64 n, .slice a2 L1.length c2]
            have j2 := below_setRow j1 n6 #[.int .i64 n, .slice a2 L1.length c2]
            refine wpAnyY_one 9 rfl (by kernel_rfl) ?_
            go_wp2_with (refine storeGraph rfl _ _ rfl b6 _ _ _ _ rfl rfl _ C6 rfl ?_)
            refine ⟨⟨⟨_, j2⟩, rfl⟩, ?_⟩
            refine wpAnyY_done (by kernel_rfl) ?_ _
            have S3 := Lib.hid (S.out.below j2)
            go_wp2
            go_meet
            exact ⟨b5, b6, L1, a1, c1, a2, c2, rfl, rfl, S3.out, C7, C8, (owns_edgs' A3).2, (owns_edgs' A4).2, hL1⟩
  case rest =>
    obtain ⟨b1, b2, L, a1, c1, a2, c2, rfl, rfl, S2, B1, B2, E1, E2, hLL⟩ := hcut
    clear S HCA HG1 HG2
    have HCL := Lib.hid HC1.out
    have x0 := B1.out.cell 0 (by simp)
    have x1 := B1.out.cell 1 (by simp)
    have y0 := B2.out.cell 0 (by simp)
    have y1 := B2.out.cell 1 (by simp)
    simp only [List.getElem_toArray, List.getElem_cons_zero, List.getElem_cons_succ] at x0 x1 y0 y1
    go_wp2
    clear x0 x1 y0 y1
    go_loopw [40] (fun i wr => ∃ k : Nat, k ≤ L.length ∧ i = .int .i64 k ∧ Hid (Below w.heap.size w wr) ∧ Hid (UB u ha hc fa fc w wr) ∧ Hid (Blk wr b1 #[.int .i64 n, .slice a1 L.length c1] 39) ∧ Hid (Blk wr b2 #[.int .i64 n, .slice a2 L.length c2] 39) ∧ Hid (EdgsAt wr a1 L) ∧ Hid (EdgsAt wr a2 L)) (fun i _ => L.length - (intOf i).toNat)
    case atStart => exact ⟨0, Nat.zero_le _, rfl, S2.out.hb, S2.out, B1.out, B2.out, E1.out, E2.out⟩
    case round =>
      clear S2 B1 B2 E1 E2
      obtain ⟨k, hk, rfl, HB, S, B1, B2, E1, E2⟩ := hrel
      by_cases hlt : k < L.length
      case pos =>
        have x1 := B1.out.cell 1 (by simp)
        have y1 := B2.out.cell 1 (by simp)
        simp only [List.getElem_toArray, List.getElem_cons_zero, List.getElem_cons_succ] at x1 y1
        obtain ⟨d1, o1, he1, p1, p2⟩ := E1.out k hlt
        obtain ⟨d2, o2, he2, p3, p4⟩ := E2.out k hlt
        subst he1
        subst he2
        have hne : Nonempty (WB wr) := ⟨⟨wr, Below.refl _ _⟩⟩
        have hq := neqEdge L[k].1 L[k].2
        have k0 : ∀ o : WB wr, o.u.cell? ⟨b1, 1, none⟩ = some (.slice (some ⟨d1, o1, none⟩) L.length c1) := fun o => cell_below o.h x1
        have k1 : ∀ o : WB wr, o.u.cell? ⟨b2, 1, none⟩ = some (.slice (some ⟨d2, o2, none⟩) L.length c2) := fun o => cell_below o.h y1
        have k2 : ∀ o : WB wr, o.u.cell? ⟨d1, o1 + k * 2, none⟩ = some (.int .i64 L[k].1) := fun o => cell_below o.h p1
        have k3 : ∀ o : WB wr, o.u.cell? ⟨d1, o1 + k * 2 + 1, none⟩ = some (.int .i64 L[k].2) := fun o => cell_below o.h p2
        have k4 : ∀ o : WB wr, o.u.cell? ⟨d2, o2 + k * 2, none⟩ = some (.int .i64 L[k].1) := fun o => cell_below o.h p3
        have k5 : ∀ o : WB wr, o.u.cell? ⟨d2, o2 + k * 2 + 1, none⟩ = some (.int .i64 L[k].2) := fun o => cell_below o.h p4
        generalize L[k].1 = e1 at *
        generalize L[k].2 = e2 at *
        clear x1 y1 p1 p2 p3 p4
        go_upto_region 9 with (fail)
        refine wp_region_WB wr (by kernel_rfl) ?_
        repeat (go_big_quiet_step (fail))
        refine wpQuiet_nil ?_
        intro _ hw'
        obtain ⟨o, rfl⟩ := hw'
        have S3 := Lib.hid (S.out.below o.h)
        have B13 := Lib.hid (B1.out.below o.h)
        have B23 := Lib.hid (B2.out.below o.h)
        have E13 := Lib.hid (E1.out.below o.h)
        have E23 := Lib.hid (E2.out.below o.h)
        clear k0 k1 k2 k3 k4 k5
        go_wp2
        go_roundw
        case rel => exact ⟨k + 1, by omega, by go_num, S3.out.hb, S3.out, B13.out, B23.out, E13.out, E23.out⟩
        case measure => simp [intOf]; omega
      clear B1 B2 E1 E2
      go_upto_region 12 with (fail)
      obtain ⟨W, rfl⟩ : ∃ W, W = wr := ⟨_, rfl⟩
      have k0 : ∀ o : WB W, o.u.cell? ⟨w.heap.size, 0, none⟩ = some (.slice ha u.h.length hc) := fun o => (S.out.below o.h).cells.1
      have k1 : ∀ o : WB W, o.u.cell? ⟨w.heap.size, 1, none⟩ = some (.slice fa n fc) := fun o => by have := (S.out.below o.h).cells.2.1; rw [hN] at this; exact this
      have k2 : ∀ o : WB W, o.u.cell? ⟨w.heap.size, 2, none⟩ = some (.int .i64 u.main) := fun o => (S.out.below o.h).cells.2.2
      have hne0 : Nonempty (WB W) := ⟨⟨W, Below.refl _ _⟩⟩
      have h0 : Below W.heap.size W W.drew := (Below.refl _ _).drew
      refine wp_region_Y (fun w' => ∃ o : WB W, w' = o.u) (by kernel_rfl) ?_
      change wpAnyY _ _ _ _ _ _ _ _ W.drew
      generalize W.drew = W0 at *
      refine wpAnyY_one 0 rfl (by kernel_rfl) ?_
      go_wp2_with fail
      refine (awake20 _ (AW0.out.below (S.out.below h0).hb)).mono ?_
      rintro e W1 ⟨rfl, hb1⟩
      have h1 : Below W.heap.size W W1 := h0.trans (hb1.mono h0.size)
      go_wp2
      refine ⟨⟨⟨_, h1⟩, rfl⟩, ?_⟩
      refine wpAnyY_one 1 rfl (by kernel_rfl) ?_
      go_wp2
      refine ⟨⟨⟨_, h1⟩, rfl⟩, ?_⟩
      refine wpAnyY_take 2 rfl (by kernel_rfl) (fun _ _ _ _ h => h) ⟨⟨_, h1⟩, rfl⟩ (fun K hK => ?_)
      go_simp
      refine hK _ ?_
      clear hK K
      refine wpAnyY_take 3 rfl (by kernel_rfl) (fun _ _ _ _ h => h) ⟨⟨_, h1⟩, rfl⟩ (fun K hK => ?_)
      go_simp
      refine hK _ ?_
      clear hK K
      refine wpAnyY_take 5 rfl (by kernel_rfl) (fun _ _ _ _ h => h) ⟨⟨_, h1⟩, rfl⟩ (fun K hK => ?_)
      go_simp
      refine hK _ ?_
      clear hK K
      refine wpAnyY_take 6 rfl (by kernel_rfl) (fun _ _ _ _ h => h) ⟨⟨_, h1⟩, rfl⟩ (fun K hK => ?_)
      go_simp
      refine hK _ ?_
      clear hK K
      clear k0 k1 k2
      refine wpAnyY_one 4 rfl (by kernel_rfl) ?_
      go_wp2_with fail
      refine (HR1.out _ (S.out.h.below h1) (S.out.f.below h1) (HCL.out.below (S.out.below h1).hb)).mono ?_
      rintro e W2 ⟨hb2, R1, ra, rc, rfl, hr1, hi1⟩
      have h2 : Below W.heap.size W W2 := h1.trans (hb2.mono h1.size)
      have I1 := Lib.hid hi1
      have RL1 := Lib.hid hr1
      go_wp2
      refine ⟨⟨⟨_, h2⟩, rfl⟩, ?_⟩
      refine wpAnyY_one 7 rfl (by kernel_rfl) ?_
      go_wp2_with fail
      refine (HR2.out _ (S.out.h.below h2) (S.out.f.below h2) (HCL.out.below (S.out.below h2).hb)).mono ?_
      rintro e W3 ⟨hb3, R2, ra2, rc2, rfl, hr2, hi2⟩
      have h3 : Below W.heap.size W W3 := h2.trans (hb3.mono h2.size)
      have er := reach_unique hr2 RL1.out
      subst er
      have I1' := Lib.hid (I1.out.below hb3)
      have I2 := Lib.hid hi2
      have hl2 : R2.length ≤ 1000000 := by have := reach_len hr2; omega
      go_wp2
      refine ⟨⟨⟨_, h3⟩, rfl⟩, ?_⟩
      refine wpAnyY_one 8 rfl (by kernel_rfl) ?_
      go_wp2_with fail
      refine (sameInts20 R2 ra rc ra2 rc2 _ I1'.out I2.out hl2).mono ?_
      rintro e W4 ⟨rfl, hb4⟩
      have h4 : Below W.heap.size W W4 := h3.trans (hb4.mono h3.size)
      go_wp2
      refine ⟨⟨⟨_, h4⟩, rfl⟩, ?_⟩
      refine wpAnyY_one 9 rfl (by kernel_rfl) ?_
      go_wp2
      refine ⟨⟨⟨_, h4⟩, rfl⟩, ?_⟩
      refine wpAnyY_one 10 rfl (by kernel_rfl) ?_
      go_wp2
      refine ⟨⟨⟨_, h4⟩, rfl⟩, ?_⟩
      refine wpAnyY_done (by kernel_rfl) ?_ _
      have S4 := Lib.hid (S.out.below h4)
      go_wp2
      go_ret
      exact ⟨rfl, S4.out.hb⟩
end Go.Proofs.YtkbmnfijeknenaaGreatDoor
