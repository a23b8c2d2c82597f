import Derived.Test.YtpgmjfnjdgdmcaaDoorP9
namespace Go.Proofs.YtpgmjfnjdgdmcaaDoor
open Go.RowKit Go.Sort

/-- a world with one cell -/
structure WC1 (A : Addr) (x : Value) where
  u : World
  h1 : u.cell? A = some x
/-- a world with four cells -/
structure WC4 (A B C D : Addr) (x y z t : Value) where
  u : World
  h1 : u.cell? A = some x
  h2 : u.cell? B = some y
  h3 : u.cell? C = some z
  h4 : u.cell? D = some t
theorem wpList_hide {P : Program} {ops : Array Oper} {F : Act → World → Prop} {Q : Exit → Act → World → Prop} {l : List Oper} {a : Act} {w : World} (h : ∀ K : Act → World → Prop, (∀ a w, F a w → K a w) → wpList P ops (Exit.then K Q) l a w) : wpList P ops (Exit.then F Q) l a w := h F (fun _ _ x => x)
theorem wpY_hide {P : Program} {md : Region.Mode} {ops : Array Oper} {C : World → Prop} {Q : Exit → Act → World → Prop} {fuel : Nat} {listed : Array Bool} {a : Act} {w : World} (h : ∀ K : Act → Prop, (∀ a, wpAnyY P md ops C Q fuel listed a w → K a) → K a) : wpAnyY P md ops C Q fuel listed a w := h _ (fun _ x => x)
theorem lineP_bad {l : List UInt8} (h : ∀ w0 w1 w2 w3 w4 r, cutN 5 l = some ([w0, w1, w2, w3, w4], r) → w0 ≠ supW ∨ idx kindL (mkB w1) < 0 ∨ w2 = [] ∨ w3 = [] ∨ w4 = []) : lineP l = (2, zeroN) := by
  unfold lineP
  split
  · rename_i w0 w1 w2 w3 w4 r he
    rw [if_pos (h w0 w1 w2 w3 w4 r he)]; rfl
  · rfl
theorem strs_cell {w : World} {g : Nat} {l : List ByteArray} (h : StrsAt w (some ⟨g, 0, none⟩) l) (k : Nat) (hk : k < l.length) : w.cell? ⟨g, k, none⟩ = some (.string l[k]) := by
  obtain ⟨b, off, e, hc⟩ := h k hk
  simp only [Option.some.injEq, Addr.mk.injEq, and_true] at e
  obtain ⟨rfl, rfl⟩ := e
  simpa using hc
theorem strs_new (w : World) (l : List ByteArray) (e : TypeId) : StrsAt (w.alloc (.cells (l.map Value.string).toArray e)) (some ⟨w.heap.size, 0, none⟩) l := by
  intro k hk
  refine ⟨w.heap.size, 0, rfl, ?_⟩
  rw [cell_of_row _ _ _ _ e (0, 0) (heap_alloc_new w _)]
  simp [hk]
theorem mkB_ne {x y : List UInt8} (h : x ≠ y) : (mkB x).toList ≠ y := by rw [mkB_toList]; exact h
theorem idx5 (w0 x1 x2 x3 x4 : List UInt8) (h0 : w0 ≠ []) : (decide (0 ≤ idx [mkB w0, mkB x1, mkB x2, mkB x3, mkB x4] ⟨#[]⟩) = true ∧ (x1 = [] ∨ x2 = [] ∨ x3 = [] ∨ x4 = [])) ∨ (decide (0 ≤ idx [mkB w0, mkB x1, mkB x2, mkB x3, mkB x4] ⟨#[]⟩) = false ∧ x1 ≠ [] ∧ x2 ≠ [] ∧ x3 ≠ [] ∧ x4 ≠ []) := by
  have e0 : (ByteArray.mk #[]).toList = [] := by rw [ByteArray.toList_eq]
  unfold idx
  rw [idxFrom, dif_pos (by simp), if_neg (by simp only [List.getElem_cons_zero, e0, mkB_toList]; exact h0)]
  rw [idxFrom, dif_pos (by simp)]
  by_cases h1 : x1 = []
  · rw [if_pos (by simp [e0, mkB_toList, h1])]; exact .inl ⟨by simp, .inl h1⟩
  rw [if_neg (by simp [e0, mkB_toList, h1]), idxFrom, dif_pos (by simp)]
  by_cases h2 : x2 = []
  · rw [if_pos (by simp [e0, mkB_toList, h2])]; exact .inl ⟨by simp, .inr (.inl h2)⟩
  rw [if_neg (by simp [e0, mkB_toList, h2]), idxFrom, dif_pos (by simp)]
  by_cases h3 : x3 = []
  · rw [if_pos (by simp [e0, mkB_toList, h3])]; exact .inl ⟨by simp, .inr (.inr (.inl h3))⟩
  rw [if_neg (by simp [e0, mkB_toList, h3]), idxFrom, dif_pos (by simp)]
  by_cases h4 : x4 = []
  · rw [if_pos (by simp [e0, mkB_toList, h4])]; exact .inl ⟨by simp, .inr (.inr (.inr h4))⟩
  rw [if_neg (by simp [e0, mkB_toList, h4]), idxFrom, dif_neg (by simp)]
  exact .inr ⟨by simp, h1, h2, h3, h4⟩
theorem kind_nil : idx kindL (mkB []) < 0 := by
  have e : (mkB []).toList = [] := mkB_toList []
  have z : ∀ k (h : k < kindL.length), kindL[k].toList ≠ (mkB []).toList := by
    intro k h
    rw [e, ByteArray.toList_eq]
    match k, h with
    | 0, _ => simp [kindL]
    | 1, _ => simp [kindL]
    | 2, _ => simp [kindL]
    | 3, _ => simp [kindL]
    | 4, _ => simp [kindL]
  have hl : kindL.length = 5 := rfl
  unfold idx
  rw [idxFrom, dif_pos (by omega), if_neg (z 0 _), idxFrom, dif_pos (by omega), if_neg (z 1 _), idxFrom, dif_pos (by omega), if_neg (z 2 _), idxFrom, dif_pos (by omega), if_neg (z 3 _), idxFrom, dif_pos (by omega), if_neg (z 4 _), idxFrom, dif_neg (by omega)]
  decide
theorem orA_un (x : List UInt8) : orA (mkB x) ⟨#[42]⟩ ⟨#[]⟩ = unstar x := by
  have e : (ByteArray.mk #[42]).toList = [42] := by rw [ByteArray.toList_eq]
  unfold orA unstar
  rw [mkB_toList, e]
theorem note_ne2 (n : Nt) : noteE n ≠ 2 := by
  unfold noteE
  repeat' split
  all_goals simp

set_option maxRecDepth 100000 in
set_option maxHeartbeats 4000000 in
theorem parseLine37 (EF : Value) (l : List UInt8) (m : Int) (w : World) (hs : l.length ≤ 65536) (hk : KW w) (hm : w.cell? ⟨2, 0, none⟩ = some (.int .i64 m)) (hE : w.cell? ⟨0, 0, none⟩ = some EF) : Calls Tryd.prog 37 #[.string (mkB l)] w (LinePost EF l w) := by
  have h0w : 0 < w.heap.size := World.block_lt_of_cell? w _ hE
  have hal : Below w.heap.size w (w.alloc (.cells #[.int .i64 0, .string ⟨#[]⟩, .string ⟨#[]⟩, .string ⟨#[]⟩, .string ⟨#[]⟩] 23)) := (Below.refl _ _).alloc (Nat.le_refl _) _
  have HK := Lib.hid hk; clear hk
  have HM := Lib.hid (cell_below hal hm); clear hm
  have HE := Lib.hid hE; clear hE
  have HAL := Lib.hid hal; clear hal
  go_enter Tryd.func37, Tryd.ntmps37
  go_wp2_with fail
  refine (splitn60 l m _ hs HM.out).mono ?_
  rintro e w1 ⟨rfl, hb1, hws⟩
  have HB1 := Lib.hid (HAL.out.trans (hb1.mono (by simp)))
  have BR := Lib.hid ((blk_new w #[.int .i64 0, .string ⟨#[]⟩, .string ⟨#[]⟩, .string ⟨#[]⟩, .string ⟨#[]⟩] 23).below hb1)
  have HE1 := Lib.hid (cell_below HB1.out HE.out)
  have hw1 : w.heap.size + 1 < w1.heap.size + 1 := by have := hb1.size; simp at this; omega
  have HWS := Lib.hid hws; clear hws hb1
  simp only [World.size_alloc] at HWS ⊢
  obtain ⟨i1, i2⟩ := splitK_cutN 5 l
  have hN := wsN_len l
  cases hc : cutN 5 l with
  | none =>
    have hlen : (wsN l).length ≤ 5 := i2 hc
    have HF : Hid (lineP l = (2, zeroN)) := lineP_bad (fun w0 w1 w2 w3 w4 r h => by rw [hc] at h; cases h)
    have t0 : decide ((((wsN l).map mkB).length : Int) < 6) = true := by simp; omega
    clear i1 i2 hc
    generalize (wsN l).map mkB = ws at *
    go_wp2
    have hEd : ({ w1 with drawn := w1.drawn + 1 } : World).cell? ⟨0, 0, none⟩ = some EF := HE1.out
    have BRd : Blk ({ w1 with drawn := w1.drawn + 1 } : World) w.heap.size #[.int .i64 0, .string ⟨#[]⟩, .string ⟨#[]⟩, .string ⟨#[]⟩, .string ⟨#[]⟩] 23 := BR.out
    have BRd2 := BRd.setRow #[.int .i64 0, .string ⟨#[]⟩, .string ⟨#[]⟩, .string ⟨#[]⟩, .string ⟨#[]⟩]
    have hEs : (World.setRow ({ w1 with drawn := w1.drawn + 1 } : World) w.heap.size #[.int .i64 0, .string ⟨#[]⟩, .string ⟨#[]⟩, .string ⟨#[]⟩, .string ⟨#[]⟩]).cell? ⟨0, 0, none⟩ = some EF := by
      rw [cell_setRow_other _ _ _ _ (by simp; omega)]; exact hEd
    have hBd : Below w.heap.size w (World.setRow ({ w1 with drawn := w1.drawn + 1 } : World) w.heap.size #[.int .i64 0, .string ⟨#[]⟩, .string ⟨#[]⟩, .string ⟨#[]⟩, .string ⟨#[]⟩]) := below_setRow HB1.out.drew (Nat.le_refl _) _
    have hne : Nonempty (WC1 ⟨0, 0, none⟩ EF) := ⟨⟨w1, HE1.out⟩⟩
    have kE : ∀ q : WC1 ⟨0, 0, none⟩ EF, q.u.cell? ⟨0, 0, none⟩ = some EF := fun q => q.h1
    refine wp_region_Y (fun w' => ∃ q : WC1 ⟨0, 0, none⟩ EF, w' = q.u) (by kernel_rfl) ?_
    refine wpAnyY_take 0 rfl (by kernel_rfl) (fun _ _ _ _ h => h) ⟨⟨_, hEd⟩, rfl⟩ (fun K hK => ?_)
    go_simp
    refine hK _ ?_
    clear hK K
    refine wpAnyY_take 1 rfl (by kernel_rfl) (fun _ _ _ _ h => h) ⟨⟨_, hEd⟩, rfl⟩ (fun K hK => ?_)
    go_simp
    refine hK _ ?_
    clear hK K
    refine wpAnyY_one 2 rfl (by kernel_rfl) ?_
    simp only [List.getElem_toArray, List.getElem_cons_succ, List.getElem_cons_zero]
    refine store23 rfl _ _ rfl w.heap.size _ _ _ _ _ rfl rfl _ BRd rfl ?_
    refine wpList_hide (fun K hK => ?_)
    go_simp
    refine hK _ _ ?_
    clear hK K
    refine ⟨⟨⟨_, hEs⟩, rfl⟩, ?_⟩
    refine wpAnyY_one 3 rfl (by kernel_rfl) ?_
    go_wp2
    refine ⟨⟨⟨_, hEs⟩, rfl⟩, ?_⟩
    refine wpAnyY_done (by kernel_rfl) ?_ _
    clear kE hne hEd hEs
    go_wp2
    refine bodyPost_ret (v := .tuple #[NtV zeroN, EF]) (results_c2 Tryd.results37 _ _ w.heap.size _ _ _ rfl rfl BRd2 Tryd.underlying23 rfl (by kernel_rfl)) rfl ?_
    exact ⟨hBd, by rw [HF.out]; rfl⟩
  | some x =>
    obtain ⟨ws5, r⟩ := x
    obtain ⟨j1, j2⟩ := i1 ws5 r hc
    clear i1 i2
    match ws5, j2 with
    | [w0, x1, x2, x3, x4], _ =>
      have hw : (wsN l).map mkB = [mkB w0, mkB x1, mkB x2, mkB x3, mkB x4, mkB r] := by rw [show wsN l = _ from j1]; rfl
      have hl6 : (wsN l).length = 6 := by rw [show wsN l = _ from j1]; rfl
      have hN6 : min 6 (l.length + 1) = 6 := by omega
      rw [hw] at HWS
      rw [hw, hN6]
      clear hw hN hl6 hN6 j1
      have HLP : Hid (lineP l = if w0 ≠ supW ∨ idx kindL (mkB x1) < 0 ∨ x2 = [] ∨ x3 = [] ∨ x4 = [] then (2, zeroN) else (noteE ⟨idx kindL (mkB x1), unstar x2, unstar x3, unstar x4, mkB r⟩, ⟨idx kindL (mkB x1), unstar x2, unstar x3, unstar x4, mkB r⟩)) := by
        show _ = _
        unfold lineP; rw [hc]; rfl
      clear hc
      have c0 : w1.cell? ⟨w.heap.size + 1, 0, none⟩ = some (.string (mkB w0)) := strs_cell HWS.out 0 (by simp)
      have c1 : w1.cell? ⟨w.heap.size + 1, 1, none⟩ = some (.string (mkB x1)) := strs_cell HWS.out 1 (by simp)
      have c2 : w1.cell? ⟨w.heap.size + 1, 2, none⟩ = some (.string (mkB x2)) := strs_cell HWS.out 2 (by simp)
      have c3 : w1.cell? ⟨w.heap.size + 1, 3, none⟩ = some (.string (mkB x3)) := strs_cell HWS.out 3 (by simp)
      have c4 : w1.cell? ⟨w.heap.size + 1, 4, none⟩ = some (.string (mkB x4)) := strs_cell HWS.out 4 (by simp)
      have c5 : w1.cell? ⟨w.heap.size + 1, 5, none⟩ = some (.string (mkB r)) := strs_cell HWS.out 5 (by simp)
      have HT5 : Hid (StrsAt w1 (some ⟨w.heap.size + 1, 0, none⟩) [mkB w0, mkB x1, mkB x2, mkB x3, mkB x4]) := HWS.out.take 5
      clear HWS
      have hsl : ∀ u : World, (Instr.slice 59 (.slice (some ⟨w.heap.size + 1, 0, none⟩) 6 6) none (some (.int .i64 5)) none).run Tryd.prog u = .ok (.slice (some ⟨w.heap.size + 1, 0, none⟩) 5 6) u := slice59h _ 6 6 5 (by omega)
      simp only [List.length_cons, List.length_nil, Nat.zero_add, Nat.reduceAdd]
      by_cases h0 : w0 = supW
      case neg =>
        have HF : Hid (lineP l = (2, zeroN)) := by show _ = _; rw [HLP.out, if_pos (.inl h0)]
        have t1 : ((mkB w0).toList == [115, 117, 112, 112, 114, 101, 115, 115]) = false := by rw [mkB_toList]; simpa [supW] using h0
        clear HLP h0
        generalize mkB w0 = y0 at *
        go_wp2
        have hEd : ({ w1 with drawn := w1.drawn + 1 } : World).cell? ⟨0, 0, none⟩ = some EF := HE1.out
        have BRd : Blk ({ w1 with drawn := w1.drawn + 1 } : World) w.heap.size #[.int .i64 0, .string ⟨#[]⟩, .string ⟨#[]⟩, .string ⟨#[]⟩, .string ⟨#[]⟩] 23 := BR.out
        have BRd2 := BRd.setRow #[.int .i64 0, .string ⟨#[]⟩, .string ⟨#[]⟩, .string ⟨#[]⟩, .string ⟨#[]⟩]
        have hEs : (World.setRow ({ w1 with drawn := w1.drawn + 1 } : World) w.heap.size #[.int .i64 0, .string ⟨#[]⟩, .string ⟨#[]⟩, .string ⟨#[]⟩, .string ⟨#[]⟩]).cell? ⟨0, 0, none⟩ = some EF := by
          rw [cell_setRow_other _ _ _ _ (by simp; omega)]; exact hEd
        have hBd : Below w.heap.size w (World.setRow ({ w1 with drawn := w1.drawn + 1 } : World) w.heap.size #[.int .i64 0, .string ⟨#[]⟩, .string ⟨#[]⟩, .string ⟨#[]⟩, .string ⟨#[]⟩]) := below_setRow HB1.out.drew (Nat.le_refl _) _
        have hne : Nonempty (WC1 ⟨0, 0, none⟩ EF) := ⟨⟨w1, HE1.out⟩⟩
        have kE : ∀ q : WC1 ⟨0, 0, none⟩ EF, q.u.cell? ⟨0, 0, none⟩ = some EF := fun q => q.h1
        refine wp_region_Y (fun w' => ∃ q : WC1 ⟨0, 0, none⟩ EF, w' = q.u) (by kernel_rfl) ?_
        refine wpAnyY_take 0 rfl (by kernel_rfl) (fun _ _ _ _ h => h) ⟨⟨_, hEd⟩, rfl⟩ (fun K hK => ?_)
        go_simp
        refine hK _ ?_
        clear hK K
        refine wpAnyY_take 1 rfl (by kernel_rfl) (fun _ _ _ _ h => h) ⟨⟨_, hEd⟩, rfl⟩ (fun K hK => ?_)
        go_simp
        refine hK _ ?_
        clear hK K
        refine wpAnyY_one 2 rfl (by kernel_rfl) ?_
        simp only [List.getElem_toArray, List.getElem_cons_succ, List.getElem_cons_zero]
        refine store23 rfl _ _ rfl w.heap.size _ _ _ _ _ rfl rfl _ BRd rfl ?_
        refine wpList_hide (fun K hK => ?_)
        go_simp
        refine hK _ _ ?_
        clear hK K
        refine ⟨⟨⟨_, hEs⟩, rfl⟩, ?_⟩
        refine wpAnyY_one 3 rfl (by kernel_rfl) ?_
        go_wp2
        refine ⟨⟨⟨_, hEs⟩, rfl⟩, ?_⟩
        refine wpAnyY_done (by kernel_rfl) ?_ _
        clear kE hne hEd hEs
        go_wp2
        refine bodyPost_ret (v := .tuple #[NtV zeroN, EF]) (results_c2 Tryd.results37 _ _ w.heap.size _ _ _ rfl rfl BRd2 Tryd.underlying23 rfl (by kernel_rfl)) rfl ?_
        exact ⟨hBd, by rw [HF.out]; rfl⟩
      have t1 : ((mkB w0).toList == [115, 117, 112, 112, 114, 101, 115, 115]) = true := by rw [mkB_toList]; simp [supW] at h0; simp [h0]
      have HLP2 : Hid (lineP l = if idx kindL (mkB x1) < 0 ∨ x2 = [] ∨ x3 = [] ∨ x4 = [] then (2, zeroN) else (noteE ⟨idx kindL (mkB x1), unstar x2, unstar x3, unstar x4, mkB r⟩, ⟨idx kindL (mkB x1), unstar x2, unstar x3, unstar x4, mkB r⟩)) := by
        show _ = _
        rw [HLP.out]; simp [h0]
      have hcon := idx5 w0 x1 x2 x3 x4 (by rw [h0]; simp [supW])
      clear HLP h0
      rcases hcon with ⟨tc, hemp⟩ | ⟨tc, e1, e2, e3, e4⟩
      · have HF : Hid (lineP l = (2, zeroN)) := by
          show _ = _
          rw [HLP2.out]
          rcases hemp with rfl | h | h | h
          · rw [if_pos (.inl kind_nil)]
          · rw [if_pos (.inr (.inl h))]
          · rw [if_pos (.inr (.inr (.inl h)))]
          · rw [if_pos (.inr (.inr (.inr h)))]
        clear HLP2 hemp
        go_wp2_with (go_at_call 61; refine (contains61 (some ⟨w.heap.size + 1, 0, none⟩) 6 [mkB w0, mkB x1, mkB x2, mkB x3, mkB x4] _ _ (by simp) HT5.out).mono ?_; rintro e w' ⟨rfl, rfl⟩)
        have hEd : ({ w1 with drawn := w1.drawn + 1 } : World).cell? ⟨0, 0, none⟩ = some EF := HE1.out
        have BRd : Blk ({ w1 with drawn := w1.drawn + 1 } : World) w.heap.size #[.int .i64 0, .string ⟨#[]⟩, .string ⟨#[]⟩, .string ⟨#[]⟩, .string ⟨#[]⟩] 23 := BR.out
        have BRd2 := BRd.setRow #[.int .i64 0, .string ⟨#[]⟩, .string ⟨#[]⟩, .string ⟨#[]⟩, .string ⟨#[]⟩]
        have hEs : (World.setRow ({ w1 with drawn := w1.drawn + 1 } : World) w.heap.size #[.int .i64 0, .string ⟨#[]⟩, .string ⟨#[]⟩, .string ⟨#[]⟩, .string ⟨#[]⟩]).cell? ⟨0, 0, none⟩ = some EF := by
          rw [cell_setRow_other _ _ _ _ (by simp; omega)]; exact hEd
        have hBd : Below w.heap.size w (World.setRow ({ w1 with drawn := w1.drawn + 1 } : World) w.heap.size #[.int .i64 0, .string ⟨#[]⟩, .string ⟨#[]⟩, .string ⟨#[]⟩, .string ⟨#[]⟩]) := below_setRow HB1.out.drew (Nat.le_refl _) _
        have hne : Nonempty (WC1 ⟨0, 0, none⟩ EF) := ⟨⟨w1, HE1.out⟩⟩
        have kE : ∀ q : WC1 ⟨0, 0, none⟩ EF, q.u.cell? ⟨0, 0, none⟩ = some EF := fun q => q.h1
        refine wp_region_Y (fun w' => ∃ q : WC1 ⟨0, 0, none⟩ EF, w' = q.u) (by kernel_rfl) ?_
        refine wpAnyY_take 0 rfl (by kernel_rfl) (fun _ _ _ _ h => h) ⟨⟨_, hEd⟩, rfl⟩ (fun K hK => ?_)
        go_simp
        refine hK _ ?_
        clear hK K
        refine wpAnyY_take 1 rfl (by kernel_rfl) (fun _ _ _ _ h => h) ⟨⟨_, hEd⟩, rfl⟩ (fun K hK => ?_)
        go_simp
        refine hK _ ?_
        clear hK K
        refine wpAnyY_one 2 rfl (by kernel_rfl) ?_
        simp only [List.getElem_toArray, List.getElem_cons_succ, List.getElem_cons_zero]
        refine store23 rfl _ _ rfl w.heap.size _ _ _ _ _ rfl rfl _ BRd rfl ?_
        refine wpList_hide (fun K hK => ?_)
        go_simp
        refine hK _ _ ?_
        clear hK K
        refine ⟨⟨⟨_, hEs⟩, rfl⟩, ?_⟩
        refine wpAnyY_one 3 rfl (by kernel_rfl) ?_
        go_wp2
        refine ⟨⟨⟨_, hEs⟩, rfl⟩, ?_⟩
        refine wpAnyY_done (by kernel_rfl) ?_ _
        clear kE hne hEd hEs
        go_wp2
        refine bodyPost_ret (v := .tuple #[NtV zeroN, EF]) (results_c2 Tryd.results37 _ _ w.heap.size _ _ _ rfl rfl BRd2 Tryd.underlying23 rfl (by kernel_rfl)) rfl ?_
        exact ⟨hBd, by rw [HF.out]; rfl⟩
      have HLP3 : Hid (lineP l = if idx kindL (mkB x1) < 0 then (2, zeroN) else (noteE ⟨idx kindL (mkB x1), unstar x2, unstar x3, unstar x4, mkB r⟩, ⟨idx kindL (mkB x1), unstar x2, unstar x3, unstar x4, mkB r⟩)) := by
        show _ = _
        rw [HLP2.out]; simp [e2, e3, e4]
      clear e1 e2 e3 e4 HLP2
      go_wp2_with (go_at_call 61; refine (contains61 (some ⟨w.heap.size + 1, 0, none⟩) 6 [mkB w0, mkB x1, mkB x2, mkB x3, mkB x4] _ _ (by simp) HT5.out).mono ?_; rintro e w' ⟨rfl, rfl⟩)
      clear HT5 hsl t1 tc c0
      have c1d : ({ w1 with drawn := w1.drawn + 1 } : World).cell? ⟨w.heap.size + 1, 1, none⟩ = some (.string (mkB x1)) := c1
      have hne : Nonempty (WC1 ⟨w.heap.size + 1, 1, none⟩ (.string (mkB x1))) := ⟨⟨w1, c1⟩⟩
      have kE : ∀ q : WC1 ⟨w.heap.size + 1, 1, none⟩ (.string (mkB x1)), q.u.cell? ⟨w.heap.size + 1, 1, none⟩ = some (.string (mkB x1)) := fun q => q.h1
      refine wp_region_Y (fun w' => ∃ q : WC1 ⟨w.heap.size + 1, 1, none⟩ (.string (mkB x1)), w' = q.u) (by kernel_rfl) ?_
      refine wpAnyY_take 1 rfl (by kernel_rfl) (fun _ _ _ _ h => h) ⟨⟨_, c1d⟩, rfl⟩ (fun K hK => ?_)
      go_simp
      refine hK _ ?_
      clear hK K
      refine wpAnyY_take 2 rfl (by kernel_rfl) (fun _ _ _ _ h => h) ⟨⟨_, c1d⟩, rfl⟩ (fun K hK => ?_)
      go_simp
      refine hK _ ?_
      clear hK K
      refine wpAnyY_take 3 rfl (by kernel_rfl) (fun _ _ _ _ h => h) ⟨⟨_, c1d⟩, rfl⟩ (fun K hK => ?_)
      go_simp
      refine hK _ ?_
      clear hK K
      refine wpAnyY_one 0 rfl (by kernel_rfl) ?_
      go_wp2_with fail
      refine (kinds29 _).mono ?_
      rintro e w2 ⟨rfl, hw2⟩
      have hb2 : Below w1.heap.size w1 w2 := by rw [hw2]; exact ((Below.refl _ _).drew).alloc (Nat.le_refl _) _
      have HKL : Hid (StrsAt w2 (some ⟨w1.heap.size, 0, none⟩) kindL) := by rw [hw2]; exact strs_new _ kindL 9
      clear hw2
      have c1e := cell_below hb2 c1
      go_wp2
      refine ⟨⟨⟨_, c1e⟩, rfl⟩, ?_⟩
      refine wpAnyY_one 4 rfl (by kernel_rfl) ?_
      go_wp2_with fail
      refine (index62 (some ⟨w1.heap.size, 0, none⟩) 5 kindL _ _ (by decide) HKL.out).mono ?_
      rintro e w' ⟨rfl, rfl⟩
      go_wp2
      refine ⟨⟨⟨_, c1e⟩, rfl⟩, ?_⟩
      refine wpAnyY_one 5 rfl (by kernel_rfl) ?_
      go_wp2
      refine ⟨⟨⟨_, c1e⟩, rfl⟩, ?_⟩
      refine wpAnyY_done (by kernel_rfl) ?_ _
      have HB2 := Lib.hid (HB1.out.trans (hb2.mono HB1.out.size))
      have BR2 := Lib.hid (BR.out.below hb2)
      have HE2 := Lib.hid (cell_below hb2 HE1.out)
      have d2 := cell_below hb2 c2
      have d3 := cell_below hb2 c3
      have d4 := cell_below hb2 c4
      have d5 := cell_below hb2 c5
      have hw2 : w.heap.size < w2.heap.size := BR2.out.lt
      clear hne kE c1 c1d c1e c2 c3 c4 c5 hb2 HKL HB1 BR HE1
      obtain ⟨kd, hkd⟩ : ∃ kd, kd = idx kindL (mkB x1) := ⟨_, rfl⟩
      rw [← hkd] at HLP3 ⊢
      clear hkd
      by_cases hneg : kd < 0
      · have HF : Hid (lineP l = (2, zeroN)) := by show _ = _; rw [HLP3.out, if_pos hneg]
        have tn : decide (kd < 0) = true := by simp [hneg]
        go_wp2
        have hEd : ({ w2 with drawn := w2.drawn + 1 } : World).cell? ⟨0, 0, none⟩ = some EF := HE2.out
        have BRd : Blk ({ w2 with drawn := w2.drawn + 1 } : World) w.heap.size #[.int .i64 0, .string ⟨#[]⟩, .string ⟨#[]⟩, .string ⟨#[]⟩, .string ⟨#[]⟩] 23 := BR2.out
        have BRd2 := BRd.setRow #[.int .i64 0, .string ⟨#[]⟩, .string ⟨#[]⟩, .string ⟨#[]⟩, .string ⟨#[]⟩]
        have hEs : (World.setRow ({ w2 with drawn := w2.drawn + 1 } : World) w.heap.size #[.int .i64 0, .string ⟨#[]⟩, .string ⟨#[]⟩, .string ⟨#[]⟩, .string ⟨#[]⟩]).cell? ⟨0, 0, none⟩ = some EF := by
          rw [cell_setRow_other _ _ _ _ (by simp; omega)]; exact hEd
        have hBd : Below w.heap.size w (World.setRow ({ w2 with drawn := w2.drawn + 1 } : World) w.heap.size #[.int .i64 0, .string ⟨#[]⟩, .string ⟨#[]⟩, .string ⟨#[]⟩, .string ⟨#[]⟩]) := below_setRow HB2.out.drew (Nat.le_refl _) _
        have hne : Nonempty (WC1 ⟨0, 0, none⟩ EF) := ⟨⟨w2, HE2.out⟩⟩
        have kE : ∀ q : WC1 ⟨0, 0, none⟩ EF, q.u.cell? ⟨0, 0, none⟩ = some EF := fun q => q.h1
        refine wp_region_Y (fun w' => ∃ q : WC1 ⟨0, 0, none⟩ EF, w' = q.u) (by kernel_rfl) ?_
        refine wpAnyY_take 0 rfl (by kernel_rfl) (fun _ _ _ _ h => h) ⟨⟨_, hEd⟩, rfl⟩ (fun K hK => ?_)
        go_simp
        refine hK _ ?_
        clear hK K
        refine wpAnyY_take 1 rfl (by kernel_rfl) (fun _ _ _ _ h => h) ⟨⟨_, hEd⟩, rfl⟩ (fun K hK => ?_)
        go_simp
        refine hK _ ?_
        clear hK K
        refine wpAnyY_one 2 rfl (by kernel_rfl) ?_
        simp only [List.getElem_toArray, List.getElem_cons_succ, List.getElem_cons_zero]
        refine store23 rfl _ _ rfl w.heap.size _ _ _ _ _ rfl rfl _ BRd rfl ?_
        refine wpList_hide (fun K hK => ?_)
        go_simp
        refine hK _ _ ?_
        clear hK K
        refine ⟨⟨⟨_, hEs⟩, rfl⟩, ?_⟩
        refine wpAnyY_one 3 rfl (by kernel_rfl) ?_
        go_wp2
        refine ⟨⟨⟨_, hEs⟩, rfl⟩, ?_⟩
        refine wpAnyY_done (by kernel_rfl) ?_ _
        clear kE hne hEd hEs
        go_wp2
        refine bodyPost_ret (v := .tuple #[NtV zeroN, EF]) (results_c2 Tryd.results37 _ _ w.heap.size _ _ _ rfl rfl BRd2 Tryd.underlying23 rfl (by kernel_rfl)) rfl ?_
        exact ⟨hBd, by rw [HF.out]; rfl⟩
      have tn : decide (kd < 0) = false := by simp; omega
      rw [if_neg hneg] at HLP3
      go_wp2
      generalize hy2 : mkB x2 = y2 at *
      generalize hy3 : mkB x3 = y3 at *
      generalize hy4 : mkB x4 = y4 at *
      have HY2 := Lib.hid hy2; clear hy2
      have HY3 := Lib.hid hy3; clear hy3
      have HY4 := Lib.hid hy4; clear hy4
      generalize mkB r = y5 at *
      have hne : Nonempty (WC4 ⟨w.heap.size + 1, 2, none⟩ ⟨w.heap.size + 1, 3, none⟩ ⟨w.heap.size + 1, 4, none⟩ ⟨w.heap.size + 1, 5, none⟩ (.string y2) (.string y3) (.string y4) (.string y5)) := ⟨⟨w2, d2, d3, d4, d5⟩⟩
      have k2 : ∀ q : WC4 ⟨w.heap.size + 1, 2, none⟩ ⟨w.heap.size + 1, 3, none⟩ ⟨w.heap.size + 1, 4, none⟩ ⟨w.heap.size + 1, 5, none⟩ (.string y2) (.string y3) (.string y4) (.string y5), q.u.cell? ⟨w.heap.size + 1, 2, none⟩ = some (.string y2) := fun q => q.h1
      have k3 : ∀ q : WC4 ⟨w.heap.size + 1, 2, none⟩ ⟨w.heap.size + 1, 3, none⟩ ⟨w.heap.size + 1, 4, none⟩ ⟨w.heap.size + 1, 5, none⟩ (.string y2) (.string y3) (.string y4) (.string y5), q.u.cell? ⟨w.heap.size + 1, 3, none⟩ = some (.string y3) := fun q => q.h2
      have k4 : ∀ q : WC4 ⟨w.heap.size + 1, 2, none⟩ ⟨w.heap.size + 1, 3, none⟩ ⟨w.heap.size + 1, 4, none⟩ ⟨w.heap.size + 1, 5, none⟩ (.string y2) (.string y3) (.string y4) (.string y5), q.u.cell? ⟨w.heap.size + 1, 4, none⟩ = some (.string y4) := fun q => q.h3
      have k5 : ∀ q : WC4 ⟨w.heap.size + 1, 2, none⟩ ⟨w.heap.size + 1, 3, none⟩ ⟨w.heap.size + 1, 4, none⟩ ⟨w.heap.size + 1, 5, none⟩ (.string y2) (.string y3) (.string y4) (.string y5), q.u.cell? ⟨w.heap.size + 1, 5, none⟩ = some (.string y5) := fun q => q.h4
      have e2 : ({ w2 with drawn := w2.drawn + 1 } : World).cell? ⟨w.heap.size + 1, 2, none⟩ = some (.string y2) := d2
      have e3 : ({ w2 with drawn := w2.drawn + 1 } : World).cell? ⟨w.heap.size + 1, 3, none⟩ = some (.string y3) := d3
      have e4 : ({ w2 with drawn := w2.drawn + 1 } : World).cell? ⟨w.heap.size + 1, 4, none⟩ = some (.string y4) := d4
      have e5 : ({ w2 with drawn := w2.drawn + 1 } : World).cell? ⟨w.heap.size + 1, 5, none⟩ = some (.string y5) := d5
      refine wp_region_Y (fun w' => ∃ q : WC4 ⟨w.heap.size + 1, 2, none⟩ ⟨w.heap.size + 1, 3, none⟩ ⟨w.heap.size + 1, 4, none⟩ ⟨w.heap.size + 1, 5, none⟩ (.string y2) (.string y3) (.string y4) (.string y5), w' = q.u) (by kernel_rfl) ?_
      refine wpAnyY_take 0 rfl (by kernel_rfl) (fun _ _ _ _ h => h) ⟨⟨_, e2, e3, e4, e5⟩, rfl⟩ (fun K hK => ?_)
      go_simp
      refine hK _ ?_
      clear hK K
      refine wpAnyY_take 1 rfl (by kernel_rfl) (fun _ _ _ _ h => h) ⟨⟨_, e2, e3, e4, e5⟩, rfl⟩ (fun K hK => ?_)
      go_simp
      refine hK _ ?_
      clear hK K
      refine wpAnyY_take 2 rfl (by kernel_rfl) (fun _ _ _ _ h => h) ⟨⟨_, e2, e3, e4, e5⟩, rfl⟩ (fun K hK => ?_)
      go_simp
      refine hK _ ?_
      clear hK K
      refine wpAnyY_take 3 rfl (by kernel_rfl) (fun _ _ _ _ h => h) ⟨⟨_, e2, e3, e4, e5⟩, rfl⟩ (fun K hK => ?_)
      go_simp
      refine hK _ ?_
      clear hK K
      refine wpAnyY_take 5 rfl (by kernel_rfl) (fun _ _ _ _ h => h) ⟨⟨_, e2, e3, e4, e5⟩, rfl⟩ (fun K hK => ?_)
      go_simp
      refine hK _ ?_
      clear hK K
      refine wpAnyY_take 6 rfl (by kernel_rfl) (fun _ _ _ _ h => h) ⟨⟨_, e2, e3, e4, e5⟩, rfl⟩ (fun K hK => ?_)
      go_simp
      refine hK _ ?_
      clear hK K
      refine wpAnyY_take 7 rfl (by kernel_rfl) (fun _ _ _ _ h => h) ⟨⟨_, e2, e3, e4, e5⟩, rfl⟩ (fun K hK => ?_)
      go_simp
      refine hK _ ?_
      clear hK K
      refine wpAnyY_take 9 rfl (by kernel_rfl) (fun _ _ _ _ h => h) ⟨⟨_, e2, e3, e4, e5⟩, rfl⟩ (fun K hK => ?_)
      go_simp
      refine hK _ ?_
      clear hK K
      refine wpAnyY_take 10 rfl (by kernel_rfl) (fun _ _ _ _ h => h) ⟨⟨_, e2, e3, e4, e5⟩, rfl⟩ (fun K hK => ?_)
      go_simp
      refine hK _ ?_
      clear hK K
      refine wpAnyY_take 11 rfl (by kernel_rfl) (fun _ _ _ _ h => h) ⟨⟨_, e2, e3, e4, e5⟩, rfl⟩ (fun K hK => ?_)
      go_simp
      refine hK _ ?_
      clear hK K
      refine wpAnyY_take 13 rfl (by kernel_rfl) (fun _ _ _ _ h => h) ⟨⟨_, e2, e3, e4, e5⟩, rfl⟩ (fun K hK => ?_)
      go_simp
      refine hK _ ?_
      clear hK K
      refine wpAnyY_take 14 rfl (by kernel_rfl) (fun _ _ _ _ h => h) ⟨⟨_, e2, e3, e4, e5⟩, rfl⟩ (fun K hK => ?_)
      go_simp
      refine hK _ ?_
      clear hK K
      refine wpAnyY_take 15 rfl (by kernel_rfl) (fun _ _ _ _ h => h) ⟨⟨_, e2, e3, e4, e5⟩, rfl⟩ (fun K hK => ?_)
      go_simp
      refine hK _ ?_
      clear hK K
      refine wpAnyY_call 4 (.string (orA y2 ⟨#[42]⟩ ⟨#[]⟩)) rfl (by kernel_rfl) (fun _ _ _ _ h => h) ⟨⟨_, e2, e3, e4, e5⟩, rfl⟩ rfl ?_ ?_
      · rintro w' ⟨q, rfl⟩
        go_simp
        exact orAny30 _ _ _ _
      refine wpY_hide (fun K hK => ?_)
      go_simp
      refine hK _ ?_
      clear hK K
      refine wpAnyY_call 8 (.string (orA y3 ⟨#[42]⟩ ⟨#[]⟩)) rfl (by kernel_rfl) (fun _ _ _ _ h => h) ⟨⟨_, e2, e3, e4, e5⟩, rfl⟩ rfl ?_ ?_
      · rintro w' ⟨q, rfl⟩
        go_simp
        exact orAny30 _ _ _ _
      refine wpY_hide (fun K hK => ?_)
      go_simp
      refine hK _ ?_
      clear hK K
      refine wpAnyY_call 12 (.string (orA y4 ⟨#[42]⟩ ⟨#[]⟩)) rfl (by kernel_rfl) (fun _ _ _ _ h => h) ⟨⟨_, e2, e3, e4, e5⟩, rfl⟩ rfl ?_ ?_
      · rintro w' ⟨q, rfl⟩
        go_simp
        exact orAny30 _ _ _ _
      refine wpY_hide (fun K hK => ?_)
      go_simp
      refine hK _ ?_
      clear hK K
      refine wpAnyY_take 16 rfl (by kernel_rfl) (fun _ _ _ _ h => h) ⟨⟨_, e2, e3, e4, e5⟩, rfl⟩ (fun K hK => ?_)
      go_simp
      refine hK _ ?_
      clear hK K
      have hbd : ∀ o : Obj, Below w2.heap.size w2 (w2.drew.alloc o) := fun o => ((Below.refl _ _).drew).alloc (Nat.le_refl _) o
      have f2 : ∀ o : Obj, (w2.drew.alloc o).cell? ⟨w.heap.size + 1, 2, none⟩ = some (.string y2) := fun o => cell_below (hbd o) d2
      have f3 : ∀ o : Obj, (w2.drew.alloc o).cell? ⟨w.heap.size + 1, 3, none⟩ = some (.string y3) := fun o => cell_below (hbd o) d3
      have f4 : ∀ o : Obj, (w2.drew.alloc o).cell? ⟨w.heap.size + 1, 4, none⟩ = some (.string y4) := fun o => cell_below (hbd o) d4
      have f5 : ∀ o : Obj, (w2.drew.alloc o).cell? ⟨w.heap.size + 1, 5, none⟩ = some (.string y5) := fun o => cell_below (hbd o) d5
      have HBD := Lib.hid hbd; clear hbd
      refine wpAnyY_one 17 rfl (by kernel_rfl) ?_
      go_wp2
      refine ⟨⟨⟨_, f2 _, f3 _, f4 _, f5 _⟩, rfl⟩, ?_⟩
      refine wpAnyY_one 18 rfl (by kernel_rfl) ?_
      go_wp2
      refine ⟨⟨⟨_, f2 _, f3 _, f4 _, f5 _⟩, rfl⟩, ?_⟩
      refine wpAnyY_done (by kernel_rfl) ?_ _
      clear hne k2 k3 k4 k5 e2 e3 e4 e5 f2 f3 f4 f5 d2 d3 d4 d5
      have u2 : orA y2 ⟨#[42]⟩ ⟨#[]⟩ = unstar x2 := by rw [← HY2.out]; exact orA_un x2
      have u3 : orA y3 ⟨#[42]⟩ ⟨#[]⟩ = unstar x3 := by rw [← HY3.out]; exact orA_un x3
      have u4 : orA y4 ⟨#[42]⟩ ⟨#[]⟩ = unstar x4 := by rw [← HY4.out]; exact orA_un x4
      rw [u2, u3, u4]
      clear u2 u3 u4
      obtain ⟨nt, hnt⟩ : ∃ nt : Nt, nt = ⟨kd, unstar x2, unstar x3, unstar x4, y5⟩ := ⟨_, rfl⟩
      have g0 : kd = nt.kind := by rw [hnt]
      have g1 : unstar x2 = nt.cls := by rw [hnt]
      have g2 : unstar x3 = nt.meth := by rw [hnt]
      have g3 : unstar x4 = nt.what := by rw [hnt]
      have g4 : y5 = nt.reason := by rw [hnt]
      rw [← hnt] at HLP3
      rw [g1, g2, g3]
      have HG0 := Lib.hid g0
      clear hnt g1 g2 g3
      subst g4
      obtain ⟨W3, hW3⟩ : ∃ W3, W3 = (w2.alloc (.cells #[.int .i64 kd, .string nt.cls, .string nt.meth, .string nt.what, .string nt.reason] 23)).drew := ⟨_, rfl⟩
      have hb3 : Below w2.heap.size w2 W3 := by rw [hW3]; exact HBD.out _
      have B3 : Blk W3 w2.heap.size #[.int .i64 nt.kind, .string nt.cls, .string nt.meth, .string nt.what, .string nt.reason] 23 := by rw [hW3, g0]; exact blk_new w2.drew _ 23
      clear g0
      have BN := Lib.hid B3
      have HB3 := Lib.hid (HB2.out.trans (hb3.mono HB2.out.size))
      have BR3 := Lib.hid (BR2.out.below hb3)
      clear hb3 B3
      rw [← hW3]
      clear hW3 HBD
      go_wp2_with (refine wload23 rfl _ rfl w2.heap.size _ rfl BN.out rfl ?_)
      refine (check8 nt _ (HK.out.below HB3.out)).mono ?_
      rintro e w4 ⟨rfl, hb4⟩
      have BN4 := Lib.hid (BN.out.below hb4)
      have BR4 := Lib.hid (BR3.out.below hb4)
      have HB4 := Lib.hid (HB3.out.trans (hb4.mono HB3.out.size))
      clear hb4 BN BR3 HB3
      have hn2 := note_ne2 nt
      obtain ⟨er, her⟩ : ∃ er, er = noteE nt := ⟨_, rfl⟩
      rw [← her] at HLP3 hn2 ⊢
      clear her
      by_cases he : er = 0
      · have he' : (er != 0) = false := by simp [he]
        have HF : Hid (lineP l = (0, nt)) := by show _ = _; rw [HLP3.out, he]
        clear he hn2
        go_wp2_with (first | (refine wload23 rfl _ rfl w2.heap.size _ rfl BN4.out rfl ?_) | (refine store23 rfl _ _ rfl w.heap.size _ _ _ _ _ rfl rfl _ BR4.out rfl ?_))
        have BRz := BR4.out.setRow #[.int .i64 nt.kind, .string nt.cls, .string nt.meth, .string nt.what, .string nt.reason]
        refine bodyPost_ret (v := .tuple #[NtV nt, .nilIface]) (results_c2 Tryd.results37 _ _ w.heap.size _ _ _ rfl rfl BRz Tryd.underlying23 rfl (by kernel_rfl)) rfl ?_
        exact ⟨below_setRow HB4.out (Nat.le_refl _) _, by rw [HF.out]; rfl⟩
      · have he' : (er != 0) = true := by simp [he]
        have HF : Hid (.tuple #[NtV (if (lineP l).1 = 0 then (lineP l).2 else zeroN), errV EF (lineP l).1] = Value.tuple #[NtV zeroN, .iface 29 (.int .i64 er)]) := by
          show _ = _
          rw [HLP3.out]
          unfold errV
          rw [if_neg he, if_neg he, if_neg hn2]
        clear he hn2
        go_wp2_with (refine store23 rfl _ _ rfl w.heap.size _ _ _ _ _ rfl rfl _ BR4.out rfl ?_)
        have BRz := BR4.out.setRow #[.int .i64 0, .string ⟨#[]⟩, .string ⟨#[]⟩, .string ⟨#[]⟩, .string ⟨#[]⟩]
        refine bodyPost_ret (v := .tuple #[NtV zeroN, .iface 29 (.int .i64 er)]) (results_c2 Tryd.results37 _ _ w.heap.size _ _ _ rfl rfl BRz Tryd.underlying23 rfl (by kernel_rfl)) rfl ?_
        exact ⟨below_setRow HB4.out (Nat.le_refl _) _, by rw [HF.out]⟩
end Go.Proofs.YtpgmjfnjdgdmcaaDoor
