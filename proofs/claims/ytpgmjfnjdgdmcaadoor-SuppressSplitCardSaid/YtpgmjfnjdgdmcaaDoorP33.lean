/-
  Same of findings and of reports, at equal data.
-/
import Derived.Test.YtpgmjfnjdgdmcaaDoorP32
namespace Go.Proofs.YtpgmjfnjdgdmcaaDoor
open Go.RowKit Go.Sort

/-- a world in which nothing that was in W has changed -/
structure WB (W : World) where
  u : World
  h : Below W.heap.size W u
set_option maxRecDepth 100000 in
set_option maxHeartbeats 1000000 in
theorem fsame46 (l : List Fd) (a : Option Addr) (c : Nat) (b : Option Addr) (d : Nat) (w : World) (h1 : FdsAt w a l) (h2 : FdsAt w b l) (hl : l.length ≤ 1000000) (hp : ∀ f ∈ l, f.path.length ≤ 1000000) :
    Calls Tryd.prog 46 #[.slice a l.length c, .slice b l.length d] w (Ret w (.bool true)) := by
  have H1 := Lib.hid h1; clear h1
  have H2 := Lib.hid h2; clear h2
  have HP := Lib.hid hp; clear hp
  go_enter Tryd.func46, Tryd.ntmps46
  go_wp2
  go_loopw [5] (fun i wr => ∃ k : Nat, k ≤ l.length ∧ i = .int .i64 k ∧ Below w.heap.size w wr) (fun i _ => l.length - (intOf i).toNat)
  case atStart => exact ⟨0, Nat.zero_le _, rfl, Below.refl _ _⟩
  case round =>
    obtain ⟨k, hk, rfl, hb⟩ := hrel
    have HB := Lib.hid hb; clear hb
    by_cases hlt : k < l.length
    · obtain ⟨g1, o1, pa, pc, rfl, m0, m1, m2, m3, m4, m5, mp, _⟩ := H1.out.below HB.out k hlt
      obtain ⟨g2, o2, qa, qc, rfl, n0, n1, n2, n3, n4, n5, np, _⟩ := H2.out.below HB.out k hlt
      have hpl := HP.out _ (List.getElem_mem hlt)
      have HMP := Lib.hid mp
      have HNP := Lib.hid np
      clear mp np
      generalize l[k] = x at *
      go_wp2
      go_still_tail 8, (by kernel_rfl)
      have HBD := Lib.hid HB.out.drew
      have HMPD : Hid (PlsAt wr.drew pa x.path) := HMP.out
      have HNPD : Hid (PlsAt wr.drew qa x.path) := HNP.out
      change wpList _ _ _ _ _ wr.drew
      clear m0 m1 m2 m3 m4 m5 n0 n1 n2 n3 n4 n5 HB HMP HNP
      generalize wr.drew = w2 at *
      go_wp2_with fail
      refine (fcompare23 x x pa qa pc qc _ HMPD.out HNPD.out hpl).mono ?_
      rintro e w3 ⟨rfl, hb3⟩
      rw [cmpF_self]
      have HB3 := Lib.hid (HBD.out.trans (hb3.mono HBD.out.size))
      clear hb3 HBD HMPD HNPD
      go_wp2
      go_roundw
      case rel => exact ⟨k + 1, by omega, by go_num, HB3.out⟩
      case measure => simp [intOf]; omega
    · obtain rfl : k = l.length := by omega
      go_wp2
      go_ret
      exact ⟨rfl, HB.out⟩

set_option maxRecDepth 100000 in
set_option maxHeartbeats 4000000 in
theorem sameReport21 (O : List Fd) (H : List (Fd × Int)) (U : List Nat) (ao ah au bo bh bu : Option Addr) (co ch cu do_ dh du : Nat) (w : World)
    (hO1 : FdsAt w ao O) (hH1 : HidsAt w ah H) (hU1 : IntsAt w au U) (hO2 : FdsAt w bo O) (hH2 : HidsAt w bh H) (hU2 : IntsAt w bu U)
    (lO : O.length ≤ 1000000) (lH : H.length ≤ 1000000) (lU : U.length ≤ 1000000) (pO : ∀ f ∈ O, f.path.length ≤ 1000000) (pH : ∀ x ∈ H, x.1.path.length ≤ 1000000) :
    Calls Tryd.prog 21 #[.agg #[.slice ao O.length co, .slice ah H.length ch, .slice au U.length cu], .agg #[.slice bo O.length do_, .slice bh H.length dh, .slice bu U.length du]] w (Ret w (.bool true)) := by
  have HO1 := Lib.hid hO1
  have HH1 := Lib.hid hH1
  have HU1 := Lib.hid hU1
  have HO2 := Lib.hid hO2
  have HH2 := Lib.hid hH2
  have HU2 := Lib.hid hU2
  have PO := Lib.hid pO
  have PH := Lib.hid pH
  clear hO1 hH1 hU1 hO2 hH2 hU2 pO pH
  have HB0 := Lib.hid (two_below w (.cells #[.slice ao O.length co, .slice ah H.length ch, .slice au U.length cu] 46) (.cells #[.slice bo O.length do_, .slice bh H.length dh, .slice bu U.length du] 46))
  have B1 : Hid (Blk ((w.alloc (.cells #[.slice ao O.length co, .slice ah H.length ch, .slice au U.length cu] 46)).alloc (.cells #[.slice bo O.length do_, .slice bh H.length dh, .slice bu U.length du] 46)) w.heap.size #[.slice ao O.length co, .slice ah H.length ch, .slice au U.length cu] 46) := (blk_new w _ _).below ((Below.refl _ _).alloc (Nat.le_refl _) _)
  have B2 : Hid (Blk ((w.alloc (.cells #[.slice ao O.length co, .slice ah H.length ch, .slice au U.length cu] 46)).alloc (.cells #[.slice bo O.length do_, .slice bh H.length dh, .slice bu U.length du] 46)) (w.heap.size + 1) #[.slice bo O.length do_, .slice bh H.length dh, .slice bu U.length du] 46) := by
    have := blk_new (w.alloc (.cells #[.slice ao O.length co, .slice ah H.length ch, .slice au U.length cu] 46)) #[.slice bo O.length do_, .slice bh H.length dh, .slice bu U.length du] 46
    simp only [World.size_alloc] at this
    exact this
  go_enter Tryd.func21, Tryd.ntmps21
  go_wp2_with fail
  refine (fsame46 O ao co bo do_ _ (HO1.out.below HB0.out) (HO2.out.below HB0.out) lO PO.out).mono ?_
  rintro e w1 ⟨rfl, hb1⟩
  have HB1 := Lib.hid (HB0.out.trans (hb1.mono HB0.out.size))
  have C1 := Lib.hid (B1.out.below hb1)
  have C2 := Lib.hid (B2.out.below hb1)
  clear hb1 HB0 B1 B2
  have c1 : w1.cell? ⟨w.heap.size, 1, none⟩ = some (.slice ah H.length ch) := C1.out.cell 1 (by simp)
  have c2 : w1.cell? ⟨w.heap.size, 2, none⟩ = some (.slice au U.length cu) := C1.out.cell 2 (by simp)
  have d1 : w1.cell? ⟨w.heap.size + 1, 1, none⟩ = some (.slice bh H.length dh) := C2.out.cell 1 (by simp)
  have d2 : w1.cell? ⟨w.heap.size + 1, 2, none⟩ = some (.slice bu U.length du) := C2.out.cell 2 (by simp)
  go_wp2
  clear c1 c2 d1 d2
  go_loopw [5] (fun i wr => ∃ k : Nat, k ≤ H.length ∧ i = .int .i64 k ∧ Below w.heap.size w wr ∧ Blk wr w.heap.size #[.slice ao O.length co, .slice ah H.length ch, .slice au U.length cu] 46 ∧ Blk wr (w.heap.size + 1) #[.slice bo O.length do_, .slice bh H.length dh, .slice bu U.length du] 46) (fun i _ => H.length - (intOf i).toNat)
  case atStart => exact ⟨0, Nat.zero_le _, rfl, HB1.out, C1.out, C2.out⟩
  case round =>
    clear HB1 C1 C2
    obtain ⟨k, hk, rfl, hb, b1, b2⟩ := hrel
    have HB := Lib.hid hb
    have C1 := Lib.hid b1
    have C2 := Lib.hid b2
    clear hb b1 b2
    have c1 : wr.cell? ⟨w.heap.size, 1, none⟩ = some (.slice ah H.length ch) := C1.out.cell 1 (by simp)
    have d1 : wr.cell? ⟨w.heap.size + 1, 1, none⟩ = some (.slice bh H.length dh) := C2.out.cell 1 (by simp)
    by_cases hlt : k < H.length
    · obtain ⟨g1, o1, pa, pc, rfl, m0, m1, m2, m3, m4, m5, m6, mp, _⟩ := HH1.out.below HB.out k hlt
      obtain ⟨g2, o2, qa, qc, rfl, n0, n1, n2, n3, n4, n5, n6, np, _⟩ := HH2.out.below HB.out k hlt
      have hpl := PH.out _ (List.getElem_mem hlt)
      have HMPD : Hid (PlsAt wr.drew pa H[k].1.path) := mp
      have HNPD : Hid (PlsAt wr.drew qa H[k].1.path) := np
      clear mp np
      generalize H[k].1 = x at *
      generalize H[k].2 = nn at *
      go_wp2
      have HBD := Lib.hid HB.out.drew
      have C1D : Hid (Blk wr.drew w.heap.size #[.slice ao O.length co, .slice (some ⟨g1, o1, none⟩) H.length ch, .slice au U.length cu] 46) := C1.out
      have C2D : Hid (Blk wr.drew (w.heap.size + 1) #[.slice bo O.length do_, .slice (some ⟨g2, o2, none⟩) H.length dh, .slice bu U.length du] 46) := C2.out
      have hcur : Below wr.drew.heap.size wr.drew wr.drew := Below.refl _ _
      have hne : Nonempty (WB wr.drew) := ⟨⟨_, hcur⟩⟩
      have k1 : ∀ q : WB wr.drew, q.u.cell? ⟨w.heap.size, 1, none⟩ = some (.slice (some ⟨g1, o1, none⟩) H.length ch) := fun q => cell_below q.h c1
      have k2 : ∀ q : WB wr.drew, q.u.cell? ⟨w.heap.size + 1, 1, none⟩ = some (.slice (some ⟨g2, o2, none⟩) H.length dh) := fun q => cell_below q.h d1
      have ka0 : ∀ q : WB wr.drew, q.u.cell? ⟨g1, o1 + k * 7, none⟩ = some (.int .i64 x.kind) := fun q => cell_below q.h m0
      have ka1 : ∀ q : WB wr.drew, q.u.cell? ⟨g1, o1 + k * 7 + 1, none⟩ = some (.string x.pl.cls) := fun q => cell_below q.h m1
      have ka2 : ∀ q : WB wr.drew, q.u.cell? ⟨g1, o1 + k * 7 + 2, none⟩ = some (.string x.pl.meth) := fun q => cell_below q.h m2
      have ka3 : ∀ q : WB wr.drew, q.u.cell? ⟨g1, o1 + k * 7 + 3, none⟩ = some (.int .i64 x.pl.instr) := fun q => cell_below q.h m3
      have ka4 : ∀ q : WB wr.drew, q.u.cell? ⟨g1, o1 + k * 7 + 4, none⟩ = some (.string x.what) := fun q => cell_below q.h m4
      have ka5 : ∀ q : WB wr.drew, q.u.cell? ⟨g1, o1 + k * 7 + 5, none⟩ = some (.slice pa x.path.length pc) := fun q => cell_below q.h m5
      have ka6 : ∀ q : WB wr.drew, q.u.cell? ⟨g1, o1 + k * 7 + 6, none⟩ = some (.int .i64 nn) := fun q => cell_below q.h m6
      have kb0 : ∀ q : WB wr.drew, q.u.cell? ⟨g2, o2 + k * 7, none⟩ = some (.int .i64 x.kind) := fun q => cell_below q.h n0
      have kb1 : ∀ q : WB wr.drew, q.u.cell? ⟨g2, o2 + k * 7 + 1, none⟩ = some (.string x.pl.cls) := fun q => cell_below q.h n1
      have kb2 : ∀ q : WB wr.drew, q.u.cell? ⟨g2, o2 + k * 7 + 2, none⟩ = some (.string x.pl.meth) := fun q => cell_below q.h n2
      have kb3 : ∀ q : WB wr.drew, q.u.cell? ⟨g2, o2 + k * 7 + 3, none⟩ = some (.int .i64 x.pl.instr) := fun q => cell_below q.h n3
      have kb4 : ∀ q : WB wr.drew, q.u.cell? ⟨g2, o2 + k * 7 + 4, none⟩ = some (.string x.what) := fun q => cell_below q.h n4
      have kb5 : ∀ q : WB wr.drew, q.u.cell? ⟨g2, o2 + k * 7 + 5, none⟩ = some (.slice qa x.path.length qc) := fun q => cell_below q.h n5
      have kb6 : ∀ q : WB wr.drew, q.u.cell? ⟨g2, o2 + k * 7 + 6, none⟩ = some (.int .i64 nn) := fun q => cell_below q.h n6
      clear c1 d1 m0 m1 m2 m3 m4 m5 m6 n0 n1 n2 n3 n4 n5 n6 HB C1 C2
      refine wp_region_Y (fun w' => ∃ q : WB wr.drew, w' = q.u) (by kernel_rfl) ?_
      change wpAnyY _ _ _ _ _ _ _ _ wr.drew
      generalize wr.drew = w2 at *
      refine wpAnyY_take 0 rfl (by kernel_rfl) (fun _ _ _ _ h => h) ⟨⟨_, hcur⟩, rfl⟩ (fun K hK => ?_)
      go_simp
      refine hK _ ?_
      clear hK K
      refine wpAnyY_take 1 rfl (by kernel_rfl) (fun _ _ _ _ h => h) ⟨⟨_, hcur⟩, rfl⟩ (fun K hK => ?_)
      go_simp
      refine hK _ ?_
      clear hK K
      refine wpAnyY_take 2 rfl (by kernel_rfl) (fun _ _ _ _ h => h) ⟨⟨_, hcur⟩, rfl⟩ (fun K hK => ?_)
      go_simp
      refine hK _ ?_
      clear hK K
      refine wpAnyY_take 3 rfl (by kernel_rfl) (fun _ _ _ _ h => h) ⟨⟨_, hcur⟩, rfl⟩ (fun K hK => ?_)
      go_simp
      refine hK _ ?_
      clear hK K
      refine wpAnyY_take 4 rfl (by kernel_rfl) (fun _ _ _ _ h => h) ⟨⟨_, hcur⟩, rfl⟩ (fun K hK => ?_)
      go_simp
      refine hK _ ?_
      clear hK K
      refine wpAnyY_take 5 rfl (by kernel_rfl) (fun _ _ _ _ h => h) ⟨⟨_, hcur⟩, rfl⟩ (fun K hK => ?_)
      go_simp
      refine hK _ ?_
      clear hK K
      refine wpAnyY_take 6 rfl (by kernel_rfl) (fun _ _ _ _ h => h) ⟨⟨_, hcur⟩, rfl⟩ (fun K hK => ?_)
      go_simp
      refine hK _ ?_
      clear hK K
      refine wpAnyY_take 7 rfl (by kernel_rfl) (fun _ _ _ _ h => h) ⟨⟨_, hcur⟩, rfl⟩ (fun K hK => ?_)
      go_simp
      refine hK _ ?_
      clear hK K
      refine wpAnyY_take 8 rfl (by kernel_rfl) (fun _ _ _ _ h => h) ⟨⟨_, hcur⟩, rfl⟩ (fun K hK => ?_)
      go_simp
      refine hK _ ?_
      clear hK K
      refine wpAnyY_take 9 rfl (by kernel_rfl) (fun _ _ _ _ h => h) ⟨⟨_, hcur⟩, rfl⟩ (fun K hK => ?_)
      go_simp
      refine hK _ ?_
      clear hK K
      refine wpAnyY_take 10 rfl (by kernel_rfl) (fun _ _ _ _ h => h) ⟨⟨_, hcur⟩, rfl⟩ (fun K hK => ?_)
      go_simp
      refine hK _ ?_
      clear hK K
      refine wpAnyY_take 11 rfl (by kernel_rfl) (fun _ _ _ _ h => h) ⟨⟨_, hcur⟩, rfl⟩ (fun K hK => ?_)
      go_simp
      refine hK _ ?_
      clear hK K
      refine wpAnyY_one 12 rfl (by kernel_rfl) ?_
      go_wp2_with fail
      refine (fcompare23 x x pa qa pc qc _ HMPD.out HNPD.out hpl).mono ?_
      rintro e w3 ⟨rfl, hb3⟩
      rw [cmpF_self]
      clear hcur
      go_wp2
      have hcur := hb3
      refine ⟨⟨⟨_, hcur⟩, rfl⟩, ?_⟩
      refine wpAnyY_one 13 rfl (by kernel_rfl) ?_
      go_wp2
      refine ⟨⟨⟨_, hcur⟩, rfl⟩, ?_⟩
      refine wpAnyY_one 14 rfl (by kernel_rfl) ?_
      go_wp2
      refine ⟨⟨⟨_, hcur⟩, rfl⟩, ?_⟩
      refine wpAnyY_take 15 rfl (by kernel_rfl) (fun _ _ _ _ h => h) ⟨⟨_, hcur⟩, rfl⟩ (fun K hK => ?_)
      go_simp
      refine hK _ ?_
      clear hK K
      refine wpAnyY_take 16 rfl (by kernel_rfl) (fun _ _ _ _ h => h) ⟨⟨_, hcur⟩, rfl⟩ (fun K hK => ?_)
      go_simp
      refine hK _ ?_
      clear hK K
      refine wpAnyY_take 17 rfl (by kernel_rfl) (fun _ _ _ _ h => h) ⟨⟨_, hcur⟩, rfl⟩ (fun K hK => ?_)
      go_simp
      refine hK _ ?_
      clear hK K
      refine wpAnyY_take 18 rfl (by kernel_rfl) (fun _ _ _ _ h => h) ⟨⟨_, hcur⟩, rfl⟩ (fun K hK => ?_)
      go_simp
      refine hK _ ?_
      clear hK K
      refine wpAnyY_take 19 rfl (by kernel_rfl) (fun _ _ _ _ h => h) ⟨⟨_, hcur⟩, rfl⟩ (fun K hK => ?_)
      go_simp
      refine hK _ ?_
      clear hK K
      refine wpAnyY_take 20 rfl (by kernel_rfl) (fun _ _ _ _ h => h) ⟨⟨_, hcur⟩, rfl⟩ (fun K hK => ?_)
      go_simp
      refine hK _ ?_
      clear hK K
      refine wpAnyY_take 21 rfl (by kernel_rfl) (fun _ _ _ _ h => h) ⟨⟨_, hcur⟩, rfl⟩ (fun K hK => ?_)
      go_simp
      refine hK _ ?_
      clear hK K
      refine wpAnyY_take 22 rfl (by kernel_rfl) (fun _ _ _ _ h => h) ⟨⟨_, hcur⟩, rfl⟩ (fun K hK => ?_)
      go_simp
      refine hK _ ?_
      clear hK K
      refine wpAnyY_take 23 rfl (by kernel_rfl) (fun _ _ _ _ h => h) ⟨⟨_, hcur⟩, rfl⟩ (fun K hK => ?_)
      go_simp
      refine hK _ ?_
      clear hK K
      refine wpAnyY_take 24 rfl (by kernel_rfl) (fun _ _ _ _ h => h) ⟨⟨_, hcur⟩, rfl⟩ (fun K hK => ?_)
      go_simp
      refine hK _ ?_
      clear hK K
      refine wpAnyY_take 25 rfl (by kernel_rfl) (fun _ _ _ _ h => h) ⟨⟨_, hcur⟩, rfl⟩ (fun K hK => ?_)
      go_simp
      refine hK _ ?_
      clear hK K
      refine wpAnyY_take 26 rfl (by kernel_rfl) (fun _ _ _ _ h => h) ⟨⟨_, hcur⟩, rfl⟩ (fun K hK => ?_)
      go_simp
      refine hK _ ?_
      clear hK K
      refine wpAnyY_take 27 rfl (by kernel_rfl) (fun _ _ _ _ h => h) ⟨⟨_, hcur⟩, rfl⟩ (fun K hK => ?_)
      go_simp
      refine hK _ ?_
      clear hK K
      refine wpAnyY_take 28 rfl (by kernel_rfl) (fun _ _ _ _ h => h) ⟨⟨_, hcur⟩, rfl⟩ (fun K hK => ?_)
      go_simp
      refine hK _ ?_
      clear hK K
      refine wpAnyY_done (by kernel_rfl) ?_ _
      have HB3 := Lib.hid (HBD.out.trans (hcur.mono HBD.out.size))
      have C1E := Lib.hid (C1D.out.below hcur)
      have C2E := Lib.hid (C2D.out.below hcur)
      clear HBD C1D C2D hne hb3 hcur HMPD HNPD k1 k2 ka0 ka1 ka2 ka3 ka4 ka5 ka6 kb0 kb1 kb2 kb3 kb4 kb5 kb6
      go_wp2
      go_roundw
      case rel => exact ⟨k + 1, by omega, by go_num, HB3.out, C1E.out, C2E.out⟩
      case measure => simp [intOf]; omega
    · obtain rfl : k = H.length := by omega
      go_wp2
      clear c1 d1 hk hlt
      obtain ⟨wo, rfl⟩ : ∃ wo : World, wo = wr := ⟨_, rfl⟩
      go_loopw [6] (fun i wr => ∃ k n : Nat, k ≤ U.length ∧ i = .int .i64 k ∧ wr = wo.drewN n) (fun i _ => U.length - (intOf i).toNat)
      case atStart => exact ⟨0, 0, Nat.zero_le _, rfl, rfl⟩
      case round =>
        obtain ⟨k, n, hk, rfl, rfl⟩ := hrel
        have c2 : wo.cell? ⟨w.heap.size, 2, none⟩ = some (.slice au U.length cu) := C1.out.cell 2 (by simp)
        have d2 : wo.cell? ⟨w.heap.size + 1, 2, none⟩ = some (.slice bu U.length du) := C2.out.cell 2 (by simp)
        by_cases hlt : k < U.length
        · obtain ⟨g1, o1, rfl, m0⟩ := HU1.out.below HB.out k hlt
          obtain ⟨g2, o2, rfl, n0⟩ := HU2.out.below HB.out k hlt
          generalize U[k] = x at *
          go_wp2
          go_quiet (fail)
          go_wp2
          go_roundw
          case rel => exact ⟨k + 1, n + nq, by omega, by go_num, by simp⟩
          case measure => simp [intOf]; omega
        · obtain rfl : k = U.length := by omega
          go_wp2
          go_ret
          exact ⟨rfl, below_drewN' HB.out _⟩
end Go.Proofs.YtpgmjfnjdgdmcaaDoor
