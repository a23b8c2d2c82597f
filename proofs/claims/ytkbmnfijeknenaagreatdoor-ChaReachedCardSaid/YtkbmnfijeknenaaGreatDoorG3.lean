/-
  Edges compared by the program.
-/
import Derived.Test.YtkbmnfijeknenaaGreatDoorGA
import Derived.Test.YtkbmnfijeknenaaGreatDoorH0
import Derived.Test.YtkbmnfijeknenaaGreatDoorShelf
import Derived.Shelf.SlSortCmp.NoneTotal
namespace Go.Proofs.YtkbmnfijeknenaaGreatDoor
open Go.RowKit Go.Unit0 Go.AM Go.Sort

theorem ints_new2 (w : World) (i j : Int) : IntsAt (w.alloc (.cells #[.int .i64 i, .int .i64 j] 3)) (some ⟨w.heap.size, 0, none⟩) [i, j] := by
  intro k hk
  have hk2 : k < 2 := by simpa using hk
  have hb := (blk_new w #[.int .i64 i, .int .i64 j] 3).cell k (by simpa using hk2)
  refine ⟨_, _, rfl, ?_⟩
  rw [Nat.zero_add, hb]
  rcases (show k = 0 ∨ k = 1 by omega) with rfl | rfl <;> rfl
set_option maxHeartbeats 1000000 in
theorem cmpOr (x y : Int) (a : Option Addr) (c : Nat) (w : World) (h : IntsAt w a [x, y]) :
    Calls Tryz.prog 56 #[.slice a 2 c] w (Same w (.int .i64 (if x = 0 then y else x))) := by
  have HL := Lib.hid h
  clear h
  obtain ⟨r, hr⟩ : ∃ r, r = (if x = 0 then y else x) := ⟨_, rfl⟩
  rw [← hr]
  have HR := Lib.hid hr
  clear hr
  go_enter Tryz.func56, Tryz.ntmps56
  go_wp2
  go_loop [8] (fun i => ∃ k : Nat, k ≤ 2 ∧ i = .int .i64 k ∧ Hid (1 ≤ k → x = 0) ∧ Hid (2 ≤ k → y = 0)) (fun i => 2 - (intOf i).toNat)
  case atStart => exact ⟨0, by omega, rfl, fun h => by omega, fun h => by omega⟩
  case round =>
    obtain ⟨k, hk, rfl, H1, H2⟩ := hrel
    by_cases hlt : k < 2
    case neg =>
      go_wp2
      go_ret
      exact ⟨ret_int (by rw [HR.out, if_pos (H1.out (by omega)), H2.out (by omega)]), rfl⟩
    obtain ⟨b, off, he, hc⟩ := HL.out k (by simpa using hlt)
    subst he
    have HZ : Hid ((k = 0 → [x, y][k]'(by simpa using hlt) = x) ∧ (k = 1 → [x, y][k]'(by simpa using hlt) = y)) := by
      constructor <;> (intro e; subst e; rfl)
    generalize [x, y][k] = z at *
    by_cases hz : z = 0
    case pos =>
      subst hz
      go_wp2
      go_round
      case rel => exact ⟨k + 1, by omega, by go_num, (fun _ => by
        by_cases e : k = 0
        · exact (HZ.out.1 e).symm
        · exact H1.out (by omega)), fun _ => (HZ.out.2 (by omega)).symm⟩
      case measure => simp [intOf]; omega
    case neg =>
      have t1 : (z == 0) = false := by simpa using hz
      have HN := Lib.hid hz
      clear hz
      go_wp2
      go_ret
      refine ⟨ret_int ?_, rfl⟩
      by_cases e : k = 0
      · have e1 := HZ.out.1 e
        rw [HR.out, ← e1, if_neg HN.out]
      · rw [HR.out, if_pos (H1.out (by omega)), HZ.out.2 (by omega)]
def cmpE (x y : Edg) : Int := if Lib.compareInt x.1 y.1 = 0 then Lib.compareInt x.2 y.2 else Lib.compareInt x.1 y.1
structure GR (W : World) where
  u : World
  h : ∃ q os, u = grow (W.drewN q) os
theorem GR.below {W : World} (o : GR W) : Go.RowKit.Below W.heap.size W o.u := by
  obtain ⟨q, os, e⟩ := o.h
  rw [e]
  exact ⟨rfl, rfl, rfl, by simp [grow], fun k hk => heap_grow_old _ _ (by simpa using hk)⟩
set_option maxHeartbeats 2000000 in
theorem cloE (x y : Edg) (W : World) :
    Calls Tryz.prog 55 #[.agg #[.int .i64 x.1, .int .i64 x.2], .agg #[.int .i64 y.1, .int .i64 y.2]] W (fun e w' => e = .returned (.int .i64 (cmpE x y)) ∧ ∃ q os, w' = grow (W.drewN q) os) := by
  obtain ⟨x1, x2⟩ := x
  obtain ⟨y1, y2⟩ := y
  have H1 : Hid (∀ w, Calls Tryz.prog 57 #[.int .i64 x1, .int .i64 y1] w (fun e w' => e = .returned (.int .i64 (Lib.compareInt x1 y1)) ∧ w' = w)) := fun w => Tryz.cmp_Compare_int x1 y1 w
  have H2 : Hid (∀ w, Calls Tryz.prog 57 #[.int .i64 x2, .int .i64 y2] w (fun e w' => e = .returned (.int .i64 (Lib.compareInt x2 y2)) ∧ w' = w)) := fun w => Tryz.cmp_Compare_int x2 y2 w
  have HR : Hid (cmpE (x1, x2) (y1, y2) = if Lib.compareInt x1 y1 = 0 then Lib.compareInt x2 y2 else Lib.compareInt x1 y1) := rfl
  generalize cmpE (x1, x2) (y1, y2) = r at *
  generalize Lib.compareInt x1 y1 = r1 at *
  generalize Lib.compareInt x2 y2 = r2 at *
  have HO : Hid (∀ (a : Option Addr) (c : Nat) (w1 : World), IntsAt w1 a [r1, r2] → Calls Tryz.prog 56 #[.slice a 2 c] w1 (Same w1 (.int .i64 r))) := fun a c w1 h => by rw [HR.out]; exact cmpOr r1 r2 a c w1 h
  clear HR
  have HX : Hid (Blk ((W.alloc (.cells #[.int .i64 x1, .int .i64 x2] 42)).alloc (.cells #[.int .i64 y1, .int .i64 y2] 42)) W.heap.size #[.int .i64 x1, .int .i64 x2] 42) := (blk_new ..).below (one_below ..)
  have HY : Hid (Blk ((W.alloc (.cells #[.int .i64 x1, .int .i64 x2] 42)).alloc (.cells #[.int .i64 y1, .int .i64 y2] 42)) (W.heap.size + 1) #[.int .i64 y1, .int .i64 y2] 42) := blk_new2 ..
  have HG : Hid (∃ os, (W.alloc (.cells #[.int .i64 x1, .int .i64 x2] 42)).alloc (.cells #[.int .i64 y1, .int .i64 y2] 42) = grow W os) := ⟨_, by rw [alloc_eq_grow, alloc_eq_grow, grow_grow]⟩
  go_enter Tryz.func55, Tryz.ntmps55
  go_upto_region 1 with (fail)
  generalize (W.alloc _).alloc _ = W1 at *
  have k0 : ∀ o : GR W1, o.u.cell? ⟨W.heap.size, 0, none⟩ = some (.int .i64 x1) := fun o => (HX.out.below o.below).cell 0 (by simp)
  have k1 : ∀ o : GR W1, o.u.cell? ⟨W.heap.size, 1, none⟩ = some (.int .i64 x2) := fun o => (HX.out.below o.below).cell 1 (by simp)
  have k2 : ∀ o : GR W1, o.u.cell? ⟨W.heap.size + 1, 0, none⟩ = some (.int .i64 y1) := fun o => (HY.out.below o.below).cell 0 (by simp)
  have k3 : ∀ o : GR W1, o.u.cell? ⟨W.heap.size + 1, 1, none⟩ = some (.int .i64 y2) := fun o => (HY.out.below o.below).cell 1 (by simp)
  have hcur : ∃ q os, W1.drew = grow (W1.drewN q) os := ⟨1, #[], by rw [grow_empty]; rfl⟩
  have hne : Nonempty (GR W1) := ⟨⟨_, hcur⟩⟩
  refine wp_region_Y (fun w' => ∃ o : GR W1, w' = o.u) (by kernel_rfl) ?_
  change wpAnyY _ _ _ _ _ _ _ _ W1.drew
  refine wpAnyY_take 0 rfl (by kernel_rfl) (fun _ _ _ _ h => h) ⟨⟨_, hcur⟩, rfl⟩ (fun K hK => ?_)
  go_simp
  refine hK _ ?_
  clear hK K
  refine wpAnyY_take 1 rfl (by kernel_rfl) (fun _ _ _ _ h => h) ⟨⟨_, hcur⟩, rfl⟩ (fun K hK => ?_)
  go_simp
  refine hK _ ?_
  clear hK K
  refine wpAnyY_take 2 rfl (by kernel_rfl) (fun _ _ _ _ h => h) ⟨⟨_, hcur⟩, rfl⟩ (fun K hK => ?_)
  go_simp
  refine hK _ ?_
  clear hK K
  refine wpAnyY_take 3 rfl (by kernel_rfl) (fun _ _ _ _ h => h) ⟨⟨_, hcur⟩, rfl⟩ (fun K hK => ?_)
  go_simp
  refine hK _ ?_
  clear hK K
  refine wpAnyY_take 5 rfl (by kernel_rfl) (fun _ _ _ _ h => h) ⟨⟨_, hcur⟩, rfl⟩ (fun K hK => ?_)
  go_simp
  refine hK _ ?_
  clear hK K
  refine wpAnyY_take 6 rfl (by kernel_rfl) (fun _ _ _ _ h => h) ⟨⟨_, hcur⟩, rfl⟩ (fun K hK => ?_)
  go_simp
  refine hK _ ?_
  clear hK K
  refine wpAnyY_take 7 rfl (by kernel_rfl) (fun _ _ _ _ h => h) ⟨⟨_, hcur⟩, rfl⟩ (fun K hK => ?_)
  go_simp
  refine hK _ ?_
  clear hK K
  refine wpAnyY_take 8 rfl (by kernel_rfl) (fun _ _ _ _ h => h) ⟨⟨_, hcur⟩, rfl⟩ (fun K hK => ?_)
  go_simp
  refine hK _ ?_
  clear hK K
  refine wpAnyY_one 4 rfl (by kernel_rfl) ?_
  go_wp2_with fail
  refine (H1.out _).mono ?_
  rintro e w2 ⟨rfl, rfl⟩
  go_wp2
  refine ⟨⟨⟨_, hcur⟩, rfl⟩, ?_⟩
  refine wpAnyY_one 9 rfl (by kernel_rfl) ?_
  go_wp2_with fail
  refine (H2.out _).mono ?_
  rintro e w2 ⟨rfl, rfl⟩
  go_wp2
  refine ⟨⟨⟨_, hcur⟩, rfl⟩, ?_⟩
  refine wpAnyY_one 10 rfl (by kernel_rfl) ?_
  go_wp2
  have hcur2 : ∃ q os, (W1.alloc (.cells #[.int .i64 r1, .int .i64 r2] 3)).drew = grow (W1.drewN q) os := ⟨1, _, by rw [alloc_eq_grow]; rfl⟩
  refine ⟨⟨⟨_, hcur2⟩, rfl⟩, ?_⟩
  refine wpAnyY_one 11 rfl (by kernel_rfl) ?_
  go_wp2_with fail
  refine (HO.out (some ⟨W1.heap.size, 0, none⟩) 2 _ ((ints_new2 W1 r1 r2).below ((Go.RowKit.Below.refl _ _).drew))).mono ?_
  rintro e w2 ⟨rfl, rfl⟩
  go_wp2
  refine ⟨⟨⟨_, hcur2⟩, rfl⟩, ?_⟩
  refine wpAnyY_one 12 rfl (by kernel_rfl) ?_
  go_wp2
  refine ⟨⟨⟨_, hcur2⟩, rfl⟩, ?_⟩
  refine wpAnyY_done (by kernel_rfl) ?_ _
  go_wp2
  go_ret
  refine ⟨rfl, ?_⟩
  obtain ⟨os, hos⟩ := HG.out
  exact ⟨1, _, by rw [hos, alloc_eq_grow, grow_grow]; rfl⟩
-- the order
theorem cmpE_lt (x y : Edg) : ltOf cmpE x y = true ↔ ltE x y := by
  unfold ltOf cmpE ltE Lib.compareInt
  simp only [decide_eq_true_eq]
  by_cases h1 : x.1 < y.1
  · simp [h1]
  · by_cases h2 : y.1 < x.1
    · have h3 : ¬ x.1 = y.1 := by omega
      simp [h1, h2, h3]
    · have h3 : x.1 = y.1 := by omega
      by_cases h4 : x.2 < y.2
      · simp [h3, h4]
      · by_cases h5 : y.2 < x.2
        · simp [h3, h4, h5]
        · simp [h3, h4, h5]
theorem cmpE_nlt (x y : Edg) : ltOf cmpE x y = false ↔ ¬ ltE x y := by
  rw [← cmpE_lt]
  simp
theorem swoE : SWO (ltOf cmpE) where
  irrefl x := (cmpE_nlt _ _).2 (ltE_irrefl x)
  trans x y z h1 h2 := (cmpE_lt _ _).2 (ltE_trans _ _ _ ((cmpE_lt _ _).1 h1) ((cmpE_lt _ _).1 h2))
  ntrans x y z h1 h2 := by
    rw [cmpE_nlt] at *
    unfold ltE at *
    omega
theorem totE (x y : Edg) (h1 : ltOf cmpE x y = false) (h2 : ltOf cmpE y x = false) : x = y := by
  rw [cmpE_nlt] at *
  unfold ltE at *
  exact Prod.ext (by omega) (by omega)
def sortE (L : List Edg) : List Edg := L.mergeSort fun x y => !(ltOf cmpE) y x
theorem sortE_perm (L : List Edg) : (sortE L).Perm L := List.mergeSort_perm _ _
theorem sortE_len (L : List Edg) : (sortE L).length = L.length := (sortE_perm L).length_eq
theorem sortE_pw (L : List Edg) : (sortE L).Pairwise (fun a b => ¬ ltE b a) := by
  have h := List.pairwise_mergeSort (le := fun (x y : Edg) => !(ltOf cmpE) y x) (fun a b c h1 h2 => by
    simp only [Bool.not_eq_true', cmpE_nlt] at *
    unfold ltE at *
    omega) (fun a b => by
    simp only [Bool.or_eq_true, Bool.not_eq_true', cmpE_nlt]
    unfold ltE
    omega) L
  exact h.imp fun h => by simpa [cmpE_nlt] using h
-- the row of cells
theorem flatK_E (L : List Edg) : flatK encE 2 L.toArray = (flatE L).toArray := by
  refine ext_get! (by simp [flatE_len]) fun t ht => ?_
  have ht' : t < L.toArray.size * 2 := by simpa using ht
  rw [get_flatK _ _ _ t ht']
  have h1 : t / 2 < L.length := by simp at ht'; omega
  have h2 := flatE_get L (t / 2) (t % 2) h1 (Nat.mod_lt _ (by omega))
  have h3 : t / 2 * 2 + t % 2 = t := by omega
  rw [h3] at h2
  have h4 : L.toArray[t / 2]! = L[t / 2] := by simp [h1]
  rw [h4, List.getElem!_toArray, List.getElem!_eq_getElem?_getD, List.getElem!_eq_getElem?_getD, h2]
end Go.Proofs.YtkbmnfijeknenaaGreatDoor
