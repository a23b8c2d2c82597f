/-
  The program's Of.
-/
import Derived.Test.YtdbmmdjmkbnboaaGreatDoorQg
import Derived.Test.YtdbmmdjmkbnboaaGreatDoorShelf
import Derived.Lib.RowBridge
import Derived.Sort.OwnSorted
import Derived.Sort.OwnSortedInts
namespace Go.Proofs.YtdbmmdjmkbnboaaGreatDoor
open Go.RowKit Go.Unit0 Go.Sort

def sortI (l : List Int) : List Int := l.mergeSort fun x y => decide (x ≤ y)
theorem sortI_perm (l : List Int) : (sortI l).Perm l := List.mergeSort_perm _ _
theorem sortI_len (l : List Int) : (sortI l).length = l.length := (sortI_perm l).length_eq
theorem sortI_le (l : List Int) : (sortI l).Pairwise (· ≤ ·) := by
  have h := List.pairwise_mergeSort (le := fun (x y : Int) => decide (x ≤ y)) (fun a b c h1 h2 => by simp at *; omega) (fun a b => by simp; omega) l
  exact h.imp fun h => by simpa using h
set_option maxHeartbeats 1000000 in
theorem sort_ownI (l : List Int) (a : Option Addr) (c base : Nat) (w : World) (own : w.ownsRow base 3 1 (.slice a l.length c) l.length (l.map intV)) (hl : l.length ≤ 1000000) :
    Calls Tryz.prog 28 #[.slice a l.length c] w (fun e w' => e = .returned (.tuple #[]) ∧ w.grownBy w' (Value.slice a l.length c).ownBlock ∧ w'.ownsRow base 3 1 (.slice a l.length c) l.length ((sortI l).map intV)) := by
  have own0 := own
  obtain ⟨_, hown⟩ := own
  rcases hown with ⟨e, h0⟩ | ⟨g, cap, cur, e, hbase, hh, hn, hcap, hsz, ht⟩
  · have hl0 : l = [] := List.eq_nil_of_length_eq_zero h0
    subst hl0
    cases e
    have e0 : sortI [] = [] := by simp [sortI]
    rw [e0]
    refine (Tryz.slices_Sort_int_none none 0 w).mono ?_
    rintro e w' ⟨rfl, rfl⟩
    exact ⟨rfl, World.grownBy.refl _ _, own0⟩
  · cases e
    have hH := holds_of_blockI (ss := l) hh (by rw [Nat.mul_one] at ht; exact ht)
    have h := Tryz.slices_Sort_int g 0 c l w hH (Array.getElem?_eq_some_iff.1 hh).1 (by omega)
    refine h.mono ?_
    rintro e w' ⟨rfl, n, os, rfl⟩
    have ow := ownsRow_sortedI (n := n) (os := os) (ts := sortI l) (sortI_len l) hbase hh (by omega) hcap hsz
    exact ⟨rfl, grownBy_sortedI _, ow⟩
theorem owns_take {w : World} {base e n m c : Nat} {a : Option Addr} {xs : List Value} (h : w.ownsRow base e 1 (.slice a n c) n xs) (hm : m ≤ n) (ha : a ≠ none) : w.ownsRow base e 1 (.slice a m c) m (xs.take m) := by
  obtain ⟨h1, h2⟩ := h
  refine ⟨by rw [List.length_take]; omega, ?_⟩
  rcases h2 with ⟨e1, h0⟩ | ⟨g, cap, cur, e1, hbase, hh, hn, hcap, hsz, ht⟩
  · cases e1; exact absurd rfl ha
  · cases e1
    refine .inr ⟨g, c, cur, rfl, hbase, hh, by omega, hcap, hsz, ?_⟩
    rw [← ht, List.take_take]
    congr 1
    omega
set_option maxHeartbeats 1000000 in
theorem comp_ownI (l : List Int) (a : Option Addr) (c base : Nat) (w : World) (own : w.ownsRow base 3 1 (.slice a l.length c) l.length (l.map intV)) (hl : l.length ≤ 1000000) :
    Calls Tryz.prog 29 #[.slice a l.length c] w (fun e w' => ∃ n, n = (Lib.compact l).length ∧ e = .returned (.slice a n c) ∧ w.grownBy w' (Value.slice a l.length c).ownBlock ∧ w'.ownsRow base 3 1 (.slice a n c) n ((Lib.compact l).map intV)) := by
  have own0 := own
  obtain ⟨_, hown⟩ := own
  rcases hown with ⟨e, h0⟩ | ⟨g, cap, cur, e, hbase, hh, hn, hcap, hsz, ht⟩
  · have hl0 : l = [] := List.eq_nil_of_length_eq_zero h0
    subst hl0
    cases e
    have e0 : Lib.compact ([] : List Int) = [] := by simp [Lib.compact, Lib.compactUpTo]
    rw [e0]
    refine (Tryz.slices_Compact_int_empty none 0 w).mono ?_
    rintro e w' ⟨rfl, rfl⟩
    exact ⟨0, rfl, rfl, World.grownBy.refl _ _, own0⟩
  · cases e
    have hH := holds_of_blockI (ss := l) hh (by rw [Nat.mul_one] at ht; exact ht)
    have h := Tryz.slices_Compact_int g 0 c l w hH (by omega) (by omega)
    refine h.mono ?_
    rintro e w' ⟨rfl, n, rfl⟩
    have hcl : (Lib.compact l).length ≤ l.length := Lib.compact_length_le _
    generalize hts : Lib.compact l ++ List.replicate (l.length - (Lib.compact l).length) 0 = ts
    have hs : ts.length = l.length := by rw [← hts]; simp; omega
    have ow := ownsRow_sortedI (n := n) (os := #[]) (ts := ts) hs hbase hh (by omega) hcap hsz
    have hg := grownBy_sortedI (w := w) (g := g) (n := n) (os := #[]) ts.toArray
    rw [grow_empty] at ow hg
    have ht2 : ts.take (Lib.compact l).length = Lib.compact l := by rw [← hts]; simp
    have ow2 := owns_take ow hcl (by simp)
    rw [← List.map_take, ht2] at ow2
    exact ⟨_, rfl, rfl, hg, ow2⟩
theorem iPuts_sorted (l : List Int) : iPuts [] l = Lib.compact (sortI l) :=
  oPuts_compact ordInt l (sortI l) (sortI_perm l) ((sortI_le l).imp fun h => by omega)
set_option maxRecDepth 100000 in
set_option maxHeartbeats 16000000 in
theorem ofP23 (r : Ctr) (p : CP) (f v : Int) (w : World) (h : CtrAt w p r) (hk : FewC r) :
    Calls Tryz.prog 13 #[ctV r p, .int .i64 f, .int .i64 v] w (IntsLie (iPuts [] (ofQ r f v r.vars.length)) w) := by
  have S0 := Lib.hid (CB8.start h)
  have HM := Lib.hid h
  have hv := hk.v
  have HL : Hid (∀ k, (ofQ r f v k).length ≤ 8000) := fun k => by
    have h1 := ofQ_len r f v k
    have h2 := sumR_le r.vars k
    have h3 := hk.vr
    omega
  have HRL : Hid (∀ k (hk : k < r.vars.length), r.vars[k].refs.length ≤ 8000) := fun k hlt => by
    have h1 := sumR_snoc hlt
    have h2 := sumR_le r.vars (k + 1)
    have h3 := hk.vr
    omega
  have HT : Hid (∀ k (hk : k < r.vars.length), r.vars[k].inn.fn = f ∧ r.vars[k].var = v → ofQ r f v (k + 1) = ofQ r f v k ++ r.vars[k].refs.map (·.fn)) := fun k hk e => by rw [ofQ_succ hk, refL, if_pos e]
  have HF : Hid (∀ k (hk : k < r.vars.length), ¬ (r.vars[k].inn.fn = f ∧ r.vars[k].var = v) → ofQ r f v (k + 1) = ofQ r f v k) := fun k hk e => by rw [ofQ_succ hk, refL, if_neg e, List.append_nil]
  have H0 : Hid (ofQ r f v 0 = []) := rfl
  have HSO : Hid (∀ (l : List Int) (a : Option Addr) (c base : Nat) (w : World), w.ownsRow base 3 1 (.slice a l.length c) l.length (l.map intV) → l.length ≤ 1000000 → Calls Tryz.prog 28 #[.slice a l.length c] w (fun e w' => e = .returned (.tuple #[]) ∧ w.grownBy w' (Value.slice a l.length c).ownBlock ∧ w'.ownsRow base 3 1 (.slice a l.length c) l.length ((sortI l).map intV))) := fun l a c base w h1 h2 => sort_ownI l a c base w h1 h2
  have HCO : Hid (∀ (l : List Int) (a : Option Addr) (c base : Nat) (w : World), w.ownsRow base 3 1 (.slice a l.length c) l.length ((sortI l).map intV) → l.length ≤ 1000000 → Calls Tryz.prog 29 #[.slice a l.length c] w (fun e w' => ∃ n, n = (iPuts [] l).length ∧ e = .returned (.slice a n c) ∧ w.grownBy w' (Value.slice a l.length c).ownBlock ∧ w'.ownsRow base 3 1 (.slice a n c) n ((iPuts [] l).map intV))) := fun l a c base w h1 h2 => by
    have e := sortI_len l
    rw [iPuts_sorted]
    rw [← e] at h1 ⊢
    exact comp_ownI (sortI l) a c base w h1 (by omega)
  clear h hk
  generalize ofQ r f v = G at *
  unfold ctV
  go_enter Tryz.func13, Tryz.ntmps13
  go_upto_region 1 with (fail)
  generalize w.alloc _ = W at *
  obtain ⟨z0, z1, z2⟩ := S0.out.cells
  go_wp2
  clear z0 z1 z2
  go_loopw [7, 15] (fun s i wr => ∃ (k : Nat) (oa : Option Addr) (oc : Nat), k ≤ r.vars.length ∧ s = .slice oa (G k).length oc ∧ i = .int .i64 k ∧ Hid (CB8 r p w wr) ∧ Hid (wr.ownsRow w.heap.size 3 1 (.slice oa (G k).length oc) (G k).length ((G k).map intV))) (fun _ i _ => r.vars.length - (intOf i).toNat)
  case atStart => exact ⟨0, none, 0, Nat.zero_le _, by rw [H0.out]; rfl, rfl, S0.out, by rw [H0.out]; exact World.ownsRow_nil _ _ _ _⟩
  case round =>
    clear S0 H0
    obtain ⟨k, oa, oc, hk, rfl, rfl, S, OW⟩ := hrel
    by_cases hlt : k < r.vars.length
    case neg =>
      obtain rfl : k = r.vars.length := by omega
      have hl := HL.out r.vars.length
      clear HT HF HRL HL
      generalize G r.vars.length = L at *
      have hl2 : L.length ≤ 1000000 := by omega
      go_wp2_with (first
        | (go_at_call 28; refine (HSO.out L oa oc _ _ OW.out hl2).mono ?_; rintro e w1 ⟨rfl, hg1, own1⟩)
        | (go_at_call 29; refine (HCO.out L oa oc _ _ own1 hl2).mono ?_; rintro e w2 ⟨n2, hn2, rfl, hg2, own2⟩))
      go_ret
      have hB1 := grow_below S.out.hb OW.out hg1
      have hB2 := grow_below hB1 own1 hg2
      subst hn2
      have := owns_ints' own2
      exact ⟨hB2, oa, oc, rfl, this.1, this.2⟩
    obtain ⟨b, off, ca, cc, ra, rc, he, c0, c1, c2, c3, hrf⟩ := HM.out.v k hlt
    replace c0 := cell_below S.out.hb c0
    replace c1 := cell_below S.out.hb c1
    replace c2 := cell_below S.out.hb c2
    replace c3 := cell_below S.out.hb c3
    have HTk := Lib.hid (HT.out k hlt)
    have HFk := Lib.hid (HF.out k hlt)
    have HLk := HL.out k
    have HLs := HL.out (k + 1)
    have hrl := HRL.out k hlt
    have HRF := Lib.hid hrf
    clear hrf HT HF HRL HL HSO HCO
    rw [he]
    generalize r.vars[k].inn.fn = fn at *
    generalize r.vars[k].inn.ctx.length = cl at *
    generalize r.vars[k].var = vr at *
    generalize r.vars[k].refs = L at *
    have BZ : Hid (Blk (wr.alloc zIvC) wr.heap.size _ 64) := blk_new ..
    go_upto_region 5 with (refine storeIvr rfl rfl _ _ rfl wr.heap.size fn ca cl cc vr ra L.length rc rfl rfl _ BZ.out rfl ?_)
    have hrow := below_row (one_below wr zIvC) (Nat.le_refl wr.heap.size) #[.int .i64 fn, .slice ca cl cc, .int .i64 vr, .slice ra L.length rc]
    have B2 := Lib.hid (BZ.out.setRow #[.int .i64 fn, .slice ca cl cc, .int .i64 vr, .slice ra L.length rc])
    have S2 := Lib.hid (S.out.below hrow)
    have O2 := Lib.hid (owns_below OW.out hrow)
    clear S OW BZ hrow c0 c1 c2 c3
    generalize (wr.alloc zIvC).setRow wr.heap.size _ = W2 at *
    generalize wr.heap.size = n2 at *
    have y0 := B2.out.cell 0 (by simp)
    have y2 := B2.out.cell 2 (by simp)
    have y3 := B2.out.cell 3 (by simp)
    simp only [List.getElem_toArray, List.getElem_cons_zero, List.getElem_cons_succ] at y0 y2 y3
    by_cases hm : fn = f ∧ vr = v
    case neg =>
      have HE := Lib.hid (HFk.out hm)
      by_cases hf : fn = f
      · have t1 : (fn == f) = true := beq_iff_eq.2 hf
        have t2 : (vr == v) = false := beq_eq_false_iff_ne.2 fun e => hm ⟨hf, e⟩
        clear hm hf HTk HFk
        go_wp2
        go_roundw
        case rel => exact ⟨k + 1, oa, oc, by omega, by rw [HE.out], by go_num, S2.out, by rw [HE.out]; exact O2.out⟩
        case measure => simp [intOf]; omega
      · have t1 : (fn == f) = false := beq_eq_false_iff_ne.2 hf
        clear hm hf HTk HFk
        go_wp2
        go_roundw
        case rel => exact ⟨k + 1, oa, oc, by omega, by rw [HE.out], by go_num, S2.out, by rw [HE.out]; exact O2.out⟩
        case measure => simp [intOf]; omega
    have HE := Lib.hid (HTk.out hm)
    have t1 : (fn == f) = true := beq_iff_eq.2 hm.1
    have t2 : (vr == v) = true := beq_iff_eq.2 hm.2
    clear hm HTk HFk
    go_wp2
    clear t1 t2 y0 y2 y3
    obtain ⟨PF, hPF⟩ : ∃ PF : Nat → List Int, PF = fun j => G k ++ (L.take j).map (·.fn) := ⟨_, rfl⟩
    have P0 : Hid (PF 0 = G k) := by show _ = _; rw [hPF]; simp
    have PS : Hid (∀ j (hj : j < L.length), PF (j + 1) = PF j ++ [L[j].fn]) := fun j hj => by
      rw [hPF]
      show G k ++ _ = _
      rw [List.take_succ_eq_append_getElem hj, List.map_append, ← List.append_assoc]; rfl
    have PE : Hid (PF L.length = G (k + 1)) := by show _ = _; rw [hPF, HE.out]; simp
    have PL : Hid (∀ j, (PF j).length ≤ 16000) := fun j => by
      rw [hPF]
      show (G k ++ _).length ≤ _
      simp; omega
    clear hPF HE
    go_loopw [7, 33] (fun s i wr => ∃ (j : Nat) (oa : Option Addr) (oc : Nat), j ≤ L.length ∧ s = .slice oa (PF j).length oc ∧ i = .int .i64 j ∧ Hid (CB8 r p w wr) ∧ Hid (wr.ownsRow w.heap.size 3 1 (.slice oa (PF j).length oc) (PF j).length ((PF j).map intV))) (fun _ i _ => L.length - (intOf i).toNat)
    case atStart => exact ⟨0, oa, oc, Nat.zero_le _, by rw [P0.out], rfl, S2.out, by rw [P0.out]; exact O2.out⟩
    case round =>
      clear S2 O2 P0 B2
      obtain ⟨j, oa, oc, hj, rfl, rfl, S, OW⟩ := hrel
      by_cases hjl : j < L.length
      case neg =>
        obtain rfl : j = L.length := by omega
        rw [PE.out] at OW
        rw [PE.out]
        go_wp2
        go_roundw
        case rel => exact ⟨k + 1, oa, oc, by omega, rfl, by go_num, S.out, OW.out⟩
        case measure => simp [intOf]; omega
      obtain ⟨b3, off3, ca3, cc3, he3, d0, d1, -⟩ := HRF.out.below S.out.hb j hjl
      have PSj := Lib.hid (PS.out j hjl)
      have hpl := PL.out j
      rw [he3]
      generalize L[j].fn = st at *
      generalize L[j].ctx.length = cl3 at *
      have BZ : Hid (Blk (wr.alloc zIhC) wr.heap.size _ 66) := blk_new ..
      go_upto_region 9 with (refine storeIhs rfl rfl _ _ rfl wr.heap.size st ca3 cl3 cc3 rfl rfl _ BZ.out rfl ?_)
      have hrow := below_row (one_below wr zIhC) (Nat.le_refl wr.heap.size) #[.int .i64 st, .slice ca3 cl3 cc3]
      have B3 := Lib.hid (BZ.out.setRow #[.int .i64 st, .slice ca3 cl3 cc3])
      have S3 := Lib.hid (S.out.below hrow)
      have O3 := Lib.hid (owns_below OW.out hrow)
      clear S OW BZ hrow d0 d1
      generalize (wr.alloc zIhC).setRow wr.heap.size _ = W3 at *
      generalize wr.heap.size = n3 at *
      have y0 := B3.out.cell 0 (by simp)
      simp only [List.getElem_toArray, List.getElem_cons_zero] at y0
      have O4 := Lib.hid (owns_below O3.out (one_below W3 (.cells #[.int .i64 st] 3)))
      have B4 : Hid (Blk (W3.alloc (.cells #[.int .i64 st] 3)) W3.heap.size #[.int .i64 st] 3) := blk_new ..
      have S4 := Lib.hid (S3.out.below (one_below W3 (.cells #[.int .i64 st] 3)))
      have hb4 := S4.out.hb.size
      have hpl2 : (PF j).length ≤ 1000000 := by omega
      clear S3 O3
      go_wp2_with (at_builtin; refine app_intF rfl _ _ rfl w.heap.size _ (PF j) rfl O4.out W3.heap.size st rfl B4.out hpl2 hb4 ?_; intro v5 w5 own5 hg5 _)
      have S5 := Lib.hid (S4.out.grow HM.out O4.out (by decide) hg5)
      obtain ⟨-, oa5, oc5, rfl, -, -⟩ := owns_ints own5
      rw [← PSj.out] at own5
      rw [← PSj.out]
      have O5 := Lib.hid own5
      clear own5 hg5 S4 O4 B4 PSj y0 B3
      go_wp2
      go_roundw
      case rel => exact ⟨j + 1, oa5, oc5, by omega, rfl, by go_num, S5.out, O5.out⟩
      case measure => simp [intOf]; omega
end Go.Proofs.YtdbmmdjmkbnboaaGreatDoor
