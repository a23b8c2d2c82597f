/-
  The program's Contexts.
-/
import Derived.Test.YtdbmmdjmkbnboaaGreatDoorQl
import Derived.Test.YtdbmmdjmkbnboaaGreatDoorQf
import Derived.Test.YtdbmmdjmkbnboaaGreatDoorQi
import Derived.Test.YtdbmmdjmkbnboaaGreatDoorQd
import Derived.Test.YtdbmmdjmkbnboaaGreatDoorSortl
namespace Go.Proofs.YtdbmmdjmkbnboaaGreatDoor
open Go.RowKit Go.Unit0 Go.Lib Go.Shelf

theorem contextCompare (a b : List Int) (pa : Option Addr) (ca : Nat) (pb : Option Addr) (cb : Nat) (w : World) (ha : IntsAt w pa a) (hb : IntsAt w pb b) (la : a.length ≤ 1000000) (lb : b.length ≤ 1000000) :
    Calls Tryz.prog 24 #[.slice pa a.length ca, .slice pb b.length cb] w (Same w (.int .i64 (cmpL a b))) := by
  have HC := Lib.hid (compareI a b pa ca pb cb w ha hb la lb)
  clear ha hb
  generalize cmpL a b = R at *
  go_enter Tryz.func24, Tryz.ntmps24
  go_wp2_with (go_at_call 63; refine HC.out.mono ?_; rintro e w2 ⟨rfl, rfl⟩)
  go_ret
  exact ⟨rfl, rfl⟩
/-- sorted -/
theorem sortRows (D : List Sli) (a : Option Addr) (c base : Nat) (w : World) (own : OwnS base w (.slice a D.length c) D) (hl : D.length ≤ 1000000) (hx : ∀ x ∈ D, x.l.length ≤ 1000000) :
    Calls Tryz.prog 23 #[.slice a D.length c, .func (.func 24) #[] #[]] w (fun e w' => e = .returned (.tuple #[]) ∧ w.grownBy w' (Value.slice a D.length c).ownBlock ∧ ∃ D' : List Sli, D'.Perm D ∧ (D'.map (·.l)).Pairwise (fun a b => ¬ ltL b a) ∧ OwnS base w' (.slice a D.length c) D') := by
  by_cases hD : 0 < D.length
  · exact sortSl Tryz.sortL 24 (enters_of Tryz.func24 (by kernel_rfl) rfl) (fun w a b pa ca pb cb => contextCompare a b pa ca pb cb w) D a c base w own hl hx hD
  · have h0 : D = [] := List.eq_nil_of_length_eq_zero (by omega)
    subst h0
    have h := AnyF.slices_SortFunc_none { Tryz.sortL with } a c (.func (.func 24) #[] #[]) w
    refine Calls.mono (show Calls Tryz.prog 23 _ _ _ from h) ?_
    rintro e w' ⟨rfl, rfl⟩
    exact ⟨rfl, World.grownBy.refl _ _, [], List.Perm.refl _, by simp, own⟩
theorem listsOf_compact (D : List Sli) : compactUpTo (listsOf D) D.length = Lib.compact (D.map (·.l)) := by
  unfold Lib.compact listsOf
  rw [List.length_map]
/-- compacted -/
theorem compactRows (D : List Sli) (a : Option Addr) (c base : Nat) (w : World) (own : OwnS base w (.slice a D.length c) D) (hl : D.length ≤ 1000000) (hx : ∀ x ∈ D, x.l.length ≤ 1000000) :
    Calls Tryz.prog 25 #[.slice a D.length c, .func (.func 26) #[] #[]] w (fun e w' => ∃ D', e = .returned (.slice a D'.length c) ∧ w.grownBy w' (Value.slice a D.length c).ownBlock ∧ D'.map (·.l) = Lib.compact (D.map (·.l)) ∧ D'.length ≤ c ∧ SlisAt w' a D' ∧ ∀ x ∈ D', IntsAt w' x.a x.l) := by
  by_cases h2 : D.length < 2
  · have HE : Hid (Lib.compact (D.map (·.l)) = D.map (·.l)) := compact_all _ fun j hj => keeps_lt_one _ j (by simp at hj; omega)
    rw [HE.out]
    have ho := Lib.hid (owns_slis' own.ow)
    have HK := Lib.hid own.ok
    clear own
    go_enter Tryz.func25, Tryz.ntmps25
    go_wp2
    go_ret
    exact ⟨D, rfl, World.grownBy.refl _ _, rfl, ho.out.1, ho.out.2, fun x hx => (HK.out x hx).1⟩
  · rcases own.ow.2 with ⟨e, h0⟩ | ⟨g, cap, cur, e, hbase, hh, hn, hcap, hsz, ht⟩
    · omega
    · cases e
      have hR : SR base g c D w cur := ⟨hbase, hh, hn, hcap, by rw [hsz, Nat.mul_one], by rw [Nat.mul_one] at ht; exact ht, fun x hx' => ⟨own.ok x hx', hx x hx'⟩⟩
      refine (compactSl base g c 0 D w cur hR rfl (by omega) hl).mono ?_
      rintro e w' ⟨D', cur', rfl, hg, hm, hcr⟩
      rw [listsOf_compact] at hm
      have ho := owns_slis' hcr.owns.ow
      exact ⟨D', rfl, hg, hm, ho.1, ho.2, fun x hx => (hcr.ok x hx).1.1⟩
set_option maxRecDepth 100000 in
set_option maxHeartbeats 16000000 in
theorem contextsP23 (r : Ctr) (p : CP) (f : Int) (w : World) (h : CtrAt w p r) (hk : FewC r) :
    Calls Tryz.prog 10 #[ctV r p, .int .i64 f] w (RowsLie (ctxF r f r.insts.length) w) := by
  have S0 := Lib.hid (CB8.start h)
  have HM := Lib.hid h
  have HX := Lib.hid hk.ix
  have hi := hk.i
  have HT : Hid (∀ k (hk : k < r.insts.length), r.insts[k].fn = f → ctxQ r f (k + 1) = ctxQ r f k ++ [r.insts[k].ctx]) := fun k hk e => ctxQ_t hk e
  have HF : Hid (∀ k (hk : k < r.insts.length), ¬ r.insts[k].fn = f → ctxQ r f (k + 1) = ctxQ r f k) := fun k hk e => ctxQ_f hk e
  have HL : Hid (∀ k, (ctxQ r f k).length ≤ k) := fun k => ctxQ_len r f k
  have H0 : Hid (ctxQ r f 0 = []) := by show _ = _; simp [ctxQ]
  have HPC : Hid (∀ (D : List Sli), (D.map (·.l)).Perm (ctxQ r f r.insts.length) → (D.map (·.l)).Pairwise (fun a b => ¬ ltL b a) → Lib.compact (D.map (·.l)) = ctxF r f r.insts.length) := fun D h1 h2 => (oPuts_compact ordL _ _ h1 h2).symm
  clear h hk
  generalize ctxF r f r.insts.length = R at *
  generalize ctxQ r f = F at *
  unfold ctV
  go_enter Tryz.func10, Tryz.ntmps10
  go_upto_region 1 with (fail)
  generalize w.alloc _ = W at *
  obtain ⟨z0, z1, z2⟩ := S0.out.cells
  go_wp2
  clear z0 z1 z2
  go_loopw [5, 11] (fun v i wr => ∃ (k : Nat) (D : List Sli) (oa : Option Addr) (oc : Nat), k ≤ r.insts.length ∧ v = .slice oa D.length oc ∧ i = .int .i64 k ∧ Hid (CB8 r p w wr) ∧ Hid (OwnS w.heap.size wr (.slice oa D.length oc) D) ∧ Hid (D.map (·.l) = F k) ∧ Hid (∀ x ∈ D, x.l.length ≤ 1000000)) (fun _ i _ => r.insts.length - (intOf i).toNat)
  case atStart => exact ⟨0, [], none, 0, Nat.zero_le _, rfl, rfl, S0.out, OwnS.nil _ _, by rw [H0.out]; rfl, fun x hx => by cases hx⟩
  case round =>
    clear S0 H0
    obtain ⟨k, D, oa, oc, hk, rfl, rfl, S, OW, HD, HI⟩ := hrel
    have hdl : D.length ≤ 150 := by
      have h1 := HL.out k
      rw [← HD.out] at h1
      simp at h1; omega
    by_cases hlt : k < r.insts.length
    case neg =>
      obtain rfl : k = r.insts.length := by omega
      rw [← HD.out] at HPC
      clear HT HF HL HX HM HD
      have HSO : Hid (Calls Tryz.prog 23 #[.slice oa D.length oc, .func (.func 24) #[] #[]] wr (fun e w' => e = .returned (.tuple #[]) ∧ wr.grownBy w' (Value.slice oa D.length oc).ownBlock ∧ ∃ D' : List Sli, D'.Perm D ∧ (D'.map (·.l)).Pairwise (fun a b => ¬ ltL b a) ∧ OwnS w.heap.size w' (.slice oa D.length oc) D')) := sortRows D oa oc w.heap.size wr OW.out (by omega) HI.out
      have HCO : Hid (∀ (D' : List Sli) w1, D'.length = D.length → OwnS w.heap.size w1 (.slice oa D.length oc) D' → (∀ x ∈ D', x.l.length ≤ 1000000) → Calls Tryz.prog 25 #[.slice oa D.length oc, .func (.func 26) #[] #[]] w1 (fun e w' => ∃ D2, e = .returned (.slice oa D2.length oc) ∧ w1.grownBy w' (Value.slice oa D.length oc).ownBlock ∧ D2.map (·.l) = Lib.compact (D'.map (·.l)) ∧ D2.length ≤ oc ∧ SlisAt w' oa D2 ∧ ∀ x ∈ D2, IntsAt w' x.a x.l)) := fun D' w1 e h1 h2 => by
        rw [← e] at h1 ⊢
        exact compactRows D' oa oc w.heap.size w1 h1 (by omega) h2
      go_upto_region 9 with (go_at_call 23; refine HSO.out.mono ?_; rintro e w1 ⟨rfl, hg1, D1, hp1, hs1, own1⟩)
      have HB1 := Lib.hid (grow_below S.out.hb OW.out.ow hg1)
      have HR1 := Lib.hid (HPC.out D1 (hp1.map _) hs1)
      have HI1 : Hid (∀ x ∈ D1, x.l.length ≤ 1000000) := fun x hx => HI.out x (hp1.mem_iff.1 hx)
      have HN1 := Lib.hid hp1.length_eq
      have OW1 := Lib.hid own1
      clear hg1 hp1 hs1 own1 S OW HSO HPC HI
      go_wp2_with (go_at_call 25; refine (HCO.out D1 _ HN1.out OW1.out HI1.out).mono ?_; rintro e w2 ⟨D2, rfl, hg2, hm2, hc2, hs2, hi2⟩)
      have HB2 := Lib.hid (grow_below HB1.out OW1.out.ow hg2)
      have HZ : Hid (R = D2.map (·.l) ∧ D2.length ≤ oc ∧ RowsAt w2 oa (D2.map (·.l))) := ⟨by rw [hm2, HR1.out], hc2, rows_of hs2 hi2⟩
      clear hg2 hm2 hc2 hs2 hi2 OW1 HCO HR1
      go_wp2
      go_ret
      rw [HZ.out.1]
      exact ⟨HB2.out, oa, oc, by simp, by simpa using HZ.out.2.1, HZ.out.2.2⟩
    obtain ⟨b, off, ca, cc, he, c0, c1, hcx⟩ := HM.out.i k hlt
    replace c0 := cell_below S.out.hb c0
    replace c1 := cell_below S.out.hb c1
    have HTk := Lib.hid (HT.out k hlt)
    have HFk := Lib.hid (HF.out k hlt)
    have hxl := HX.out _ (List.getElem_mem hlt)
    have HCX := Lib.hid hcx
    clear hcx HT HF HX HL HPC
    rw [he]
    generalize r.insts[k].fn = fn at *
    generalize r.insts[k].ctx = cx at *
    have BZ : Hid (Blk (wr.alloc zIcC) wr.heap.size _ 59) := blk_new ..
    go_upto_region 5 with (refine storeIct rfl rfl _ _ rfl wr.heap.size fn ca cx.length cc rfl rfl _ BZ.out rfl ?_)
    have hrow := below_row (one_below wr zIcC) (Nat.le_refl wr.heap.size) #[.int .i64 fn, .slice ca cx.length cc]
    have B2 := Lib.hid (BZ.out.setRow #[.int .i64 fn, .slice ca cx.length cc])
    have S2 := Lib.hid (S.out.below hrow)
    have O2 := Lib.hid (OW.out.below hrow)
    clear S OW BZ hrow c0 c1
    generalize (wr.alloc zIcC).setRow wr.heap.size _ = W2 at *
    generalize wr.heap.size = n2 at *
    have y0 := B2.out.cell 0 (by simp)
    have y1 := B2.out.cell 1 (by simp)
    simp only [List.getElem_toArray, List.getElem_cons_zero, List.getElem_cons_succ] at y0 y1
    by_cases hf : fn = f
    case neg =>
      have t1 : (fn == f) = false := beq_eq_false_iff_ne.2 hf
      have HE := Lib.hid (HFk.out hf)
      clear HTk HFk hf
      go_wp2
      go_roundw
      case rel => exact ⟨k + 1, D, oa, oc, by omega, rfl, by go_num, S2.out, O2.out, by rw [HE.out]; exact HD.out, HI.out⟩
      case measure => simp [intOf]; omega
    have t1 : (fn == f) = true := beq_iff_eq.2 hf
    have HE := Lib.hid (HTk.out hf)
    have HCL : Hid (Calls Tryz.prog 22 #[.slice ca cx.length cc] W2 (CopyPost cx W2)) := cloneI cx ca cc W2 (HCX.out.below S2.out.hb) (by omega)
    clear HTk HFk hf HCX
    have hdl2 : D.length ≤ 1000000 := by omega
    go_upto_region 6 with (fail)
    clear y0 t1
    go_wp2_with (first
      | (go_at_call 22
         refine HCL.out.mono ?_
         rintro e w3 ⟨hb3, qa, qc, rfl, hq3, hf3⟩
         have H4 : Hid (SlOk (w3.alloc (.cells #[.slice qa cx.length qc] 38)) (Value.slice oa D.length oc).ownBlock ⟨qa, qc, cx⟩) := ⟨hq3.below (one_below ..), fun b off e _ e2 => by
           have h1 := hf3 b off e
           have h2 := (O2.out.ow.lt b e2.symm).2
           omega⟩
         have O4 := Lib.hid ((O2.out.below hb3).below (one_below w3 (.cells #[.slice qa cx.length qc] 38)))
         have S4 := Lib.hid ((S2.out.below hb3).below (one_below w3 (.cells #[.slice qa cx.length qc] 38)))
         have B4 : Hid (Blk (w3.alloc (.cells #[.slice qa cx.length qc] 38)) w3.heap.size #[encS ⟨qa, qc, cx⟩] 38) := blk_new ..
         have hb4 := S4.out.hb.size
         clear hb3 hq3 hf3 S2 O2)
      | (at_builtin; refine app_sli rfl _ _ rfl w.heap.size _ D rfl O4.out w3.heap.size ⟨qa, qc, cx⟩ rfl B4.out H4.out hdl2 hb4 ?_; intro v5 w5 own5 hg5))
    have S5 := Lib.hid (S4.out.grow HM.out O4.out.ow (by decide) hg5)
    obtain ⟨-, oa5, oc5, rfl, -, -⟩ := owns_slis own5.ow
    have O5 := Lib.hid own5
    clear own5 hg5 S4 O4 B4 H4 B2 HCL
    go_wp2
    go_roundw
    case rel => exact ⟨k + 1, D ++ [(⟨qa, qc, cx⟩ : Sli)], oa5, oc5, by omega, rfl, by go_num, S5.out, O5.out, Lib.hid (by rw [HE.out, ← HD.out]; simp), fun x hx => by
      rcases List.mem_append.1 hx with e | e
      · exact HI.out x e
      · rw [List.mem_singleton.1 e]; show cx.length ≤ _; omega⟩
    case measure => simp [intOf]; omega
end Go.Proofs.YtdbmmdjmkbnboaaGreatDoor
