/-
  Apply of the program.
-/
import Derived.Test.YtpgmjfnjdgdmcaaDoorP30
namespace Go.Proofs.YtpgmjfnjdgdmcaaDoor
open Go.RowKit Go.Sort

theorem AS.start {w wr : World} (h : L1 w wr) (n : Nat) :
    AS w ((wr.alloc (.cells #[.slice none 0 0, .slice none 0 0, .slice none 0 0] 46)).alloc (.cells (Array.replicate n (Value.bool false)) 4)) wr.heap.size (wr.heap.size + 1) (.slice none 0 0) (.slice none 0 0) (.slice none 0 0) [] [] [] (List.replicate n false) := by
  have hlt := h.res.lt
  have e : ((List.replicate n false).map Value.bool).toArray = Array.replicate n (Value.bool false) := by simp
  have b2 := blk_new (wr.alloc (.cells #[.slice none 0 0, .slice none 0 0, .slice none 0 0] 46)) (Array.replicate n (Value.bool false)) 4
  simp only [World.size_alloc] at b2
  refine ⟨((h.alloc _).alloc _).hb, hlt, by omega, ((h.alloc _).alloc _).res, ?_, by rw [e]; exact b2, World.ownsRow_nil _ _ _ _, World.ownsRow_nil _ _ _ _, World.ownsRow_nil _ _ _ _, fun x hx => by simp at hx, fun x hx => by simp at hx⟩
  exact (blk_new wr _ 46).below ((Below.refl _ _).alloc (Nat.le_refl _) _)
theorem AS.fin {w wr : World} {gr gu : Nat} {vO vH vU : Value} {O : List FdX} {H : List (FdX × Int)} {U : List Nat} {us : List Bool} (h : AS w wr gr gu vO vH vU O H U us) (cs : Array Value) :
    (wr.setRow w.heap.size cs).ownsRow w.heap.size 28 6 vO O.length (fdCells O) ∧ (wr.setRow w.heap.size cs).ownsRow w.heap.size 53 7 vH H.length (hdCells H) ∧ (wr.setRow w.heap.size cs).ownsRow w.heap.size 3 1 vU U.length (inCells U) ∧
    (∀ x ∈ O, PlsK w (wr.setRow w.heap.size cs) x.pa x.f.path) ∧ (∀ x ∈ H, PlsK w (wr.setRow w.heap.size cs) x.1.pa x.1.f.path) := by
  have hg := grown_row wr w.heap.size cs
  have hrow : ∀ g, some w.heap.size = some g → ∃ cs t fr, wr.heap[g]? = some (.cells cs t fr) ∧ t ≠ 25 := fun g e => by
    simp only [Option.some.injEq] at e
    subst e
    exact ⟨_, 46, _, h.res, by decide⟩
  exact ⟨h.oO.kept hg (.inr (Ne.symm (owns_ne h.oO h.res (by decide)))), h.oH.kept hg (.inr (Ne.symm (owns_ne h.oH h.res (by decide)))), h.oU.kept hg (.inr (Ne.symm (owns_ne h.oU h.res (by decide)))), fun x hx => (h.pO x hx).grown hg hrow, fun x hx => (h.pH x hx).grown hg hrow⟩
theorem fd_set (x : Fd) (pa pb : Option Addr) (pc qc : Nat) : (fdA x pa pc).setIfInBounds 5 (.slice pb x.path.length qc) = fdA x pb qc := rfl

set_option maxRecDepth 100000 in
set_option maxHeartbeats 8000000 in
theorem apply19 (l : List Fd) (notes : List Nt) (a : Option Addr) (c : Nat) (b : Option Addr) (d : Nat) (w : World) (hk : KW w) (hl : FdsAt w a l) (hn : NtsAt w b notes) (hp : ∀ f ∈ l, f.path.length ≤ 1000000) (hll : l.length ≤ 1000000) (hnl : notes.length ≤ 1000000) :
    Calls Tryd.prog 19 #[.slice a l.length c, .slice b notes.length d] w (APost l notes w) := by
  have HK := Lib.hid hk; clear hk
  have HL := Lib.hid hl; clear hl
  have HN := Lib.hid hn; clear hn
  have HP := Lib.hid hp; clear hp
  have S0 := Lib.hid (L1.start w)
  unfold zeroRep at S0
  by_cases hbig : 1000 < l.length ∨ 200 < notes.length
  · have HF := Lib.hid (appE_big hbig)
    have S1 := Lib.hid (S0.out.setRow zeroRep)
    unfold zeroRep at S1
    rcases hbig with h | h
    · go_enter Tryd.func19, Tryd.ntmps19
      go_wp2_with (refine store46 rfl _ _ rfl w.heap.size none none none 0 0 0 0 0 0 rfl rfl _ S0.out.res rfl ?_)
      refine bodyPost_ret (v := .tuple #[.agg zeroRep, .int .i64 3]) (results_c2 Tryd.results19 _ _ w.heap.size _ _ _ rfl rfl S1.out.2 Tryd.underlying46 rfl (by kernel_rfl)) rfl ?_
      exact ⟨S1.out.1, .inl ⟨by rw [HF.out]; decide, by rw [HF.out]⟩⟩
    · by_cases h1 : 1000 < l.length
      · go_enter Tryd.func19, Tryd.ntmps19
        go_wp2_with (refine store46 rfl _ _ rfl w.heap.size none none none 0 0 0 0 0 0 rfl rfl _ S0.out.res rfl ?_)
        refine bodyPost_ret (v := .tuple #[.agg zeroRep, .int .i64 3]) (results_c2 Tryd.results19 _ _ w.heap.size _ _ _ rfl rfl S1.out.2 Tryd.underlying46 rfl (by kernel_rfl)) rfl ?_
        exact ⟨S1.out.1, .inl ⟨by rw [HF.out]; decide, by rw [HF.out]⟩⟩
      · go_enter Tryd.func19, Tryd.ntmps19
        go_wp2_with (refine store46 rfl _ _ rfl w.heap.size none none none 0 0 0 0 0 0 rfl rfl _ S0.out.res rfl ?_)
        refine bodyPost_ret (v := .tuple #[.agg zeroRep, .int .i64 3]) (results_c2 Tryd.results19 _ _ w.heap.size _ _ _ rfl rfl S1.out.2 Tryd.underlying46 rfl (by kernel_rfl)) rfl ?_
        exact ⟨S1.out.1, .inl ⟨by rw [HF.out]; decide, by rw [HF.out]⟩⟩
  have hl1 : l.length ≤ 1000 := by omega
  have hn1 : notes.length ≤ 200 := by omega
  have HBIG := Lib.hid hbig; clear hbig
  go_enter Tryd.func19, Tryd.ntmps19
  go_wp2
  go_loopw [30] (fun i wr => ∃ k : Nat, k ≤ l.length ∧ i = .int .i64 k ∧ Hid (∀ n ∈ l.take k, findE n = 0) ∧ Hid (L1 w wr)) (fun i _ => l.length - (intOf i).toNat)
  case atStart => exact ⟨0, Nat.zero_le _, rfl, (fun n hn => by simp at hn), S0.out⟩
  case round =>
    clear S0
    obtain ⟨k, hk, rfl, HI, S0⟩ := hrel
    by_cases hlt : k < l.length
    · obtain ⟨g1, o1, pa, pc, rfl, m0, m1, m2, m3, m4, m5, mp, mn⟩ := HL.out.below S0.out.hb k hlt
      have HX : Hid (l.take (k + 1) = l.take k ++ [l[k]]) := List.take_succ_eq_append_getElem hlt
      have HER := Lib.hid (firstE_at (E := findE) hlt HI.out)
      have hpl := HP.out _ (List.getElem_mem hlt)
      have HMP := Lib.hid mp; clear mp mn
      generalize l[k] = x at *
      go_wp2_with fail
      have S1 := Lib.hid (S0.out.alloc (.cells #[.int .i64 x.kind, .string x.pl.cls, .string x.pl.meth, .int .i64 x.pl.instr, .string x.what, .slice pa x.path.length pc] 28))
      have hb1 : Below wr.heap.size wr (wr.alloc (.cells #[.int .i64 x.kind, .string x.pl.cls, .string x.pl.meth, .int .i64 x.pl.instr, .string x.what, .slice pa x.path.length pc] 28)) := (Below.refl _ _).alloc (Nat.le_refl _) _
      have HMP1 := Lib.hid (HMP.out.below hb1)
      clear hb1
      refine (fcheck40 x pa pc _ (HK.out.below S1.out.hb) HMP1.out hpl).mono ?_
      rintro e w2 ⟨rfl, hb2⟩
      have S2 := Lib.hid (S1.out.below hb2)
      clear hb2 m0 m1 m2 m3 m4 m5 S1 HMP1
      by_cases h0 : findE x = 0
      · have t0 : (findE x != 0) = false := by simp [h0]
        have H0 := Lib.hid h0; clear h0
        go_wp2
        go_roundw
        case rel =>
          refine ⟨k + 1, by omega, by go_num, ?_, S2.out⟩
          show ∀ n ∈ l.take (k + 1), findE n = 0
          rw [HX.out]
          intro n hn
          rcases List.mem_append.1 hn with h | h
          · exact HI.out n h
          · rw [List.mem_singleton.1 h]; exact H0.out
        case measure => simp [intOf]; omega
      · have t0 : (findE x != 0) = true := by simpa using h0
        have HF : Hid (appE l notes = findE x) := by
          show _ = _
          rw [appE_find HBIG.out (by rw [HER.out h0]; exact h0), HER.out h0]
        have H0 := Lib.hid h0; clear h0
        have S3 := Lib.hid (S2.out.setRow zeroRep)
        unfold zeroRep at S3
        go_wp2_with (refine store46 rfl _ _ rfl w.heap.size none none none 0 0 0 0 0 0 rfl rfl _ S2.out.res rfl ?_)
        refine bodyPost_ret (v := .tuple #[.agg zeroRep, .int .i64 (findE x)]) (results_c2 Tryd.results19 _ _ w.heap.size _ _ _ rfl rfl S3.out.2 Tryd.underlying46 rfl (by kernel_rfl)) rfl ?_
        exact ⟨S3.out.1, .inl ⟨by rw [HF.out]; exact H0.out, by rw [HF.out]⟩⟩
    · obtain rfl : k = l.length := by omega
      have HFE : Hid (firstE findE l = 0) := by
        have h1 := HI.out
        rw [List.take_of_length_le (Nat.le_refl _)] at h1
        exact firstE_all h1
      clear HI
      go_wp2
      obtain ⟨wo, rfl⟩ : ∃ wo : World, wo = wr := ⟨_, rfl⟩
      go_loopw [9] (fun i wr => ∃ k : Nat, 1 ≤ k ∧ k ≤ l.length + 1 ∧ i = .int .i64 k ∧ Hid (Asc l k) ∧ Hid (L1 w wr)) (fun i _ => l.length - (intOf i).toNat)
      case atStart => exact ⟨1, Nat.le_refl _, by omega, rfl, Asc.one l, S0.out⟩
      case round =>
        clear S0
        obtain ⟨k, hk1, hk2, rfl, HA, S0⟩ := hrel
        by_cases hlt : k < l.length
        · have hlt0 : k - 1 < l.length := by omega
          obtain ⟨g1, o1, pa, pc, rfl, m0, m1, m2, m3, m4, m5, mp, _⟩ := HL.out.below S0.out.hb (k - 1) hlt0
          obtain ⟨g2, o2, qa, qc, hq, n0, n1, n2, n3, n4, n5, np, _⟩ := HL.out.below S0.out.hb k hlt
          simp only [Option.some.injEq, Addr.mk.injEq] at hq
          obtain ⟨rfl, rfl, _⟩ := hq
          have hpl := HP.out _ (List.getElem_mem hlt0)
          have HMP := Lib.hid mp
          have HNP := Lib.hid np
          have HAS := Lib.hid (HA.out.succ' hk1 hlt)
          have HAN := Lib.hid (Asc.not' hk1 hlt)
          clear mp np
          generalize l[k - 1] = x at *
          generalize l[k] = y at *
          obtain ⟨j, hj⟩ : ∃ j, j = k - 1 := ⟨_, rfl⟩
          rw [← hj] at m0 m1 m2 m3 m4 m5 hlt0
          have hwr : IntKind.i64.wrap ((k : Int) - 1) = (j : Int) := by rw [IntWalk.i64_in _ (by omega)]; omega
          clear hj
          go_wp2
          go_still_tail 9, (by kernel_rfl)
          have SD := Lib.hid S0.out.drew
          have HMPD : Hid (PlsAt wr.drew pa x.path) := HMP.out
          have HNPD : Hid (PlsAt wr.drew qa y.path) := HNP.out
          change wpList _ _ _ _ _ wr.drew
          clear m0 m1 m2 m3 m4 m5 n0 n1 n2 n3 n4 n5 S0 HMP HNP
          generalize wr.drew = w2 at *
          go_wp2_with fail
          refine (fcompare41 x y pa qa pc qc _ HMPD.out HNPD.out hpl).mono ?_
          rintro e w3 ⟨rfl, hb3⟩
          have S3 := Lib.hid (SD.out.below hb3)
          clear hb3 SD HMPD HNPD
          by_cases h0 : cmpF x y < 0
          · have t0 : decide ((0 : Int) ≤ cmpF x y) = false := decide_eq_false (by omega)
            have HA2 := Lib.hid (HAS.out h0)
            clear h0 HAS HAN
            go_wp2
            go_roundw
            case rel => exact ⟨k + 1, by omega, by omega, by go_num, HA2.out, S3.out⟩
            case measure => simp [intOf]; omega
          · have t0 : decide ((0 : Int) ≤ cmpF x y) = true := decide_eq_true (by omega)
            have HF := Lib.hid (appE_ord (notes := notes) HBIG.out HFE.out (HAN.out (by omega)))
            clear h0 HAS HAN
            have S4 := Lib.hid (S3.out.setRow zeroRep)
            unfold zeroRep at S4
            go_wp2_with (refine store46 rfl _ _ rfl w.heap.size none none none 0 0 0 0 0 0 rfl rfl _ S3.out.res rfl ?_)
            refine bodyPost_ret (v := .tuple #[.agg zeroRep, .int .i64 13]) (results_c2 Tryd.results19 _ _ w.heap.size _ _ _ rfl rfl S4.out.2 Tryd.underlying46 rfl (by kernel_rfl)) rfl ?_
            exact ⟨S4.out.1, .inl ⟨by rw [HF.out]; decide, by rw [HF.out]⟩⟩
        · have HAA := Lib.hid (HA.out.all' (by omega))
          have HEN := Lib.hid (appE_note (notes := notes) HBIG.out HFE.out HAA.out)
          clear HA HAA
          go_wp2
          clear hlt hk1 hk2
          obtain ⟨wo2, rfl⟩ : ∃ wo2 : World, wo2 = wr := ⟨_, rfl⟩
          go_loopw [61] (fun i wr => ∃ k : Nat, k ≤ notes.length ∧ i = .int .i64 k ∧ Hid (∀ n ∈ notes.take k, noteE n = 0) ∧ Hid (L1 w wr)) (fun i _ => notes.length - (intOf i).toNat)
          case atStart => exact ⟨0, Nat.zero_le _, rfl, (fun n hn => by simp at hn), S0.out⟩
          case round =>
            clear S0
            obtain ⟨k, hk, rfl, HI, S0⟩ := hrel
            by_cases hlt : k < notes.length
            · obtain ⟨g1, o1, rfl, m0, m1, m2, m3, m4⟩ := HN.out.below S0.out.hb k hlt
              have HX : Hid (notes.take (k + 1) = notes.take k ++ [notes[k]]) := List.take_succ_eq_append_getElem hlt
              have HER := Lib.hid (firstE_at (E := noteE) hlt HI.out)
              generalize notes[k] = x at *
              go_wp2_with fail
              have S1 := Lib.hid (S0.out.alloc (.cells #[.int .i64 x.kind, .string x.cls, .string x.meth, .string x.what, .string x.reason] 23))
              refine (check8 x _ (HK.out.below S1.out.hb)).mono ?_
              rintro e w2 ⟨rfl, hb2⟩
              have S2 := Lib.hid (S1.out.below hb2)
              clear hb2 m0 m1 m2 m3 m4 S1
              by_cases h0 : noteE x = 0
              · have t0 : (noteE x != 0) = false := by simp [h0]
                have H0 := Lib.hid h0; clear h0
                go_wp2
                go_roundw
                case rel =>
                  refine ⟨k + 1, by omega, by go_num, ?_, S2.out⟩
                  show ∀ n ∈ notes.take (k + 1), noteE n = 0
                  rw [HX.out]
                  intro n hn
                  rcases List.mem_append.1 hn with h | h
                  · exact HI.out n h
                  · rw [List.mem_singleton.1 h]; exact H0.out
                case measure => simp [intOf]; omega
              · have t0 : (noteE x != 0) = true := by simpa using h0
                have HF : Hid (appE l notes = noteE x) := by
                  show _ = _
                  rw [HEN.out, HER.out h0]
                have H0 := Lib.hid h0; clear h0
                have S3 := Lib.hid (S2.out.setRow zeroRep)
                unfold zeroRep at S3
                go_wp2_with (refine store46 rfl _ _ rfl w.heap.size none none none 0 0 0 0 0 0 rfl rfl _ S2.out.res rfl ?_)
                refine bodyPost_ret (v := .tuple #[.agg zeroRep, .int .i64 (noteE x)]) (results_c2 Tryd.results19 _ _ w.heap.size _ _ _ rfl rfl S3.out.2 Tryd.underlying46 rfl (by kernel_rfl)) rfl ?_
                exact ⟨S3.out.1, .inl ⟨by rw [HF.out]; exact H0.out, by rw [HF.out]⟩⟩
            · obtain rfl : k = notes.length := by omega
              have HZ : Hid (appE l notes = 0) := by
                have h1 := HI.out
                rw [List.take_of_length_le (Nat.le_refl _)] at h1
                exact HEN.out.trans (firstE_all h1)
              clear HI HEN
              have hmk := make78 notes.length (by omega)
              go_wp2
              clear hmk
              have A0 := Lib.hid (AS.start S0.out notes.length)
              rw [← usedOf_nil] at A0
              generalize (wr.alloc (.cells #[.slice none 0 0, .slice none 0 0, .slice none 0 0] 46)).alloc (.cells (Array.replicate notes.length (Value.bool false)) 4) = W0 at *
              obtain ⟨gu, hgu⟩ : ∃ gu, gu = wr.heap.size + 1 := ⟨_, rfl⟩
              rw [← hgu] at A0 ⊢
              clear hgu
              generalize wr.heap.size = gr at *
              clear S0 hk hlt
              obtain ⟨wo3, rfl⟩ : ∃ wo3 : World, wo3 = wr := ⟨_, rfl⟩
              go_loopw [77] (fun i wr => ∃ (k : Nat) (vO vH : Value) (O : List FdX) (H : List (FdX × Int)), k ≤ l.length ∧ i = .int .i64 k ∧ Hid (AS w wr gr gu vO vH (.slice none 0 0) O H [] (usedOf notes (l.take k))) ∧ Hid (O.map (·.f) = openOf notes (l.take k)) ∧ Hid (H.map (fun x => (x.1.f, x.2)) = hidOf notes (l.take k))) (fun i _ => l.length - (intOf i).toNat)
              case atStart => exact ⟨0, _, _, [], [], Nat.zero_le _, rfl, A0.out, rfl, rfl⟩
              case round =>
                clear A0
                obtain ⟨k, vO, vH, O, H, hk, rfl, A0, HO, HH⟩ := hrel
                by_cases hlt : k < l.length
                · obtain ⟨g1, o1, pa, pc, rfl, m0, m1, m2, m3, m4, m5, mp, mn⟩ := HL.out.below A0.out.hb k hlt
                  have HX : Hid (l.take (k + 1) = l.take k ++ [l[k]]) := List.take_succ_eq_append_getElem hlt
                  have hpl := HP.out _ (List.getElem_mem hlt)
                  have HMP := Lib.hid mp
                  have HMN := Lib.hid mn
                  clear mp mn
                  generalize l[k] = x at *
                  have B1 : Hid (Blk (wr.alloc (.cells (fdA x pa pc) 28)) wr.heap.size (fdA x pa pc) 28) := blk_new _ _ _
                  have HB1 : Hid (Below wr.heap.size wr (wr.alloc (.cells (fdA x pa pc) 28))) := (Below.refl _ _).alloc (Nat.le_refl _) _
                  go_wp2_with fail
                  refine (indexFunc42 notes x b d pa pc wr.heap.size _ (HN.out.below (A0.out.below HB1.out).hb) hnl B1.out).mono ?_
                  rintro e w2 ⟨rfl, hb2⟩
                  have B2 := Lib.hid (B1.out.below hb2)
                  have HB2 := Lib.hid (HB1.out.trans (hb2.mono HB1.out.size))
                  clear hb2 m0 m1 m2 m3 m4 m5 B1 HB1
                  have c5 : w2.cell? ⟨wr.heap.size, 5, none⟩ = some (.slice pa x.path.length pc) := B2.out.cell 5 (by simp [fdA])
                  go_wp2_with fail
                  refine (clone44 x.path pa pc _ (HMP.out.below HB2.out) hpl HMN.out).mono ?_
                  rintro e w3 ⟨hb3, qa, qc, rfl, hpt⟩
                  have B3 := Lib.hid (B2.out.below hb3)
                  have HB3 := Lib.hid (HB2.out.trans (hb3.mono HB2.out.size))
                  have HPT := Lib.hid hpt
                  clear hb3 B2 HB2 c5 hpt
                  have c5 : w3.cell? ⟨wr.heap.size, 5, none⟩ = some (.slice pa x.path.length pc) := B3.out.cell 5 (by simp [fdA])
                  have f5 : w3.frozen? ⟨wr.heap.size, 5, none⟩ = false := B3.out.free 5
                  go_upto_region 29 with (fail)
                  have B4 : Hid (Blk (w3.setCell ⟨wr.heap.size, 5, none⟩ (.slice qa x.path.length qc)) wr.heap.size (fdA x qa qc) 28) := by
                    have := B3.out.set 5 (.slice qa x.path.length qc)
                    rw [fd_set] at this
                    exact this
                  have HB4 : Hid (Below wr.heap.size wr (w3.setCell ⟨wr.heap.size, 5, none⟩ (.slice qa x.path.length qc))) := HB3.out.grown (grown_set w3 wr.heap.size 5 _) HB3.out.size (fun k hk => by simp only [Option.some.injEq] at hk; omega)
                  have HPT4 : Hid (PlsT (w3.setCell ⟨wr.heap.size, 5, none⟩ (.slice qa x.path.length qc)) qa x.path) := HPT.out.grown (grown_set w3 wr.heap.size 5 _) (fun g hg => by
                    simp only [Option.some.injEq] at hg
                    subst hg
                    exact ⟨_, 28, _, B3.out, by decide⟩)
                  clear B3 HB3 HPT c5 f5
                  generalize w3.setCell ⟨wr.heap.size, 5, none⟩ (.slice qa x.path.length qc) = w4 at *
                  have A4 := Lib.hid (A0.out.below HB4.out)
                  generalize wr.heap.size = gf at *
                  obtain ⟨ao, co, hvo⟩ := owns_slice A0.out.oO
                  obtain ⟨ah, ch, hvh⟩ := owns_slice A0.out.oH
                  subst hvo hvh
                  have hlO : O.length ≤ 1000000 := by
                    have h1 := congrArg List.length HO.out
                    rw [List.length_map] at h1
                    have h2 := openOf_le notes (l.take k)
                    simp at h2
                    omega
                  have hlH : H.length ≤ 1000000 := by
                    have h1 := congrArg List.length HH.out
                    rw [List.length_map] at h1
                    have h2 := hidOf_le notes (l.take k)
                    simp at h2
                    omega
                  have c0 : w4.cell? ⟨gf, 0, none⟩ = some (.int .i64 x.kind) := B4.out.cell 0 (by simp [fdA])
                  have c1 : w4.cell? ⟨gf, 1, none⟩ = some (.string x.pl.cls) := B4.out.cell 1 (by simp [fdA])
                  have c2 : w4.cell? ⟨gf, 2, none⟩ = some (.string x.pl.meth) := B4.out.cell 2 (by simp [fdA])
                  have c3 : w4.cell? ⟨gf, 3, none⟩ = some (.int .i64 x.pl.instr) := B4.out.cell 3 (by simp [fdA])
                  have c4 : w4.cell? ⟨gf, 4, none⟩ = some (.string x.what) := B4.out.cell 4 (by simp [fdA])
                  have c5 : w4.cell? ⟨gf, 5, none⟩ = some (.slice qa x.path.length qc) := B4.out.cell 5 (by simp [fdA])
                  have HPN : Hid (qa = none → x.path = []) := fun e => by
                    by_cases hx : x.path = []
                    · exact hx
                    · obtain ⟨_, _, _, h1, _⟩ := HPT4.out.2 hx
                      rw [e] at h1; cases h1
                  rcases fstN_range notes x with hneg | ⟨hpos, hlt2⟩
                  · have hop : isOpen notes x = true := by unfold isOpen; rw [hneg]; rfl
                    have HO2 : Hid ((O ++ [(⟨x, qa, qc⟩ : FdX)]).map (fun y => y.f) = openOf notes (l.take (k + 1))) := by
                      show _ = _
                      rw [HX.out, openOf_snoc, if_pos hop, ← HO.out, List.map_append]; rfl
                    have HH2 : Hid (H.map (fun x => (x.1.f, x.2)) = hidOf notes (l.take (k + 1))) := by
                      show _ = _
                      rw [HX.out, hidOf_snoc, if_pos hop, HH.out]
                    have HU2 : Hid (usedOf notes (l.take (k + 1)) = usedOf notes (l.take k)) := by
                      show _ = _
                      rw [HX.out, usedOf_open _ _ _ (by omega)]
                    have tn : decide (fstN notes x < 0) = true := by rw [hneg]; rfl
                    clear hop hneg
                    have r0 : w4.cell? ⟨gr, 0, none⟩ = some (.slice ao O.length co) := A4.out.r.cell 0 (by simp)
                    have A5 := Lib.hid (A4.out.below ((Below.refl _ _).alloc (Nat.le_refl _) (.cells (fdA x qa qc) 28)))
                    have B5 : Hid (Blk (w4.alloc (.cells (fdA x qa qc) 28)) w4.heap.size (fdA x qa qc) 28) := blk_new _ _ _
                    have HPK : Hid (PlsK w (w4.alloc (.cells (fdA x qa qc) 28)) qa x.path) := ⟨.inl (HPT4.out.below ((Below.refl _ _).alloc (Nat.le_refl _) _)), HPN.out⟩
                    unfold fdA at A5 B5 HPK
                    go_wp2_with (at_builtin; refine app_fd rfl _ _ rfl w.heap.size _ O rfl A5.out.oO w4.heap.size ⟨x, qa, qc⟩ rfl B5.out hlO A5.out.hb.size ?_)
                    intro v' w6 hown hgrow
                    have R6 := Lib.hid (A5.out.r.grown hgrow (owns_ne A5.out.oO A5.out.r (by decide)))
                    have A6 := Lib.hid (A5.out.addO (x := ⟨x, qa, qc⟩) (by rw [List.length_append]; exact hown) hgrow HPK.out)
                    obtain ⟨ap, cp, hvp⟩ := owns_slice hown
                    subst hvp
                    clear hown hgrow A5 B5 HPK A4 B4 HB4 HPT4 c0 c1 c2 c3 c4 c5 r0
                    have r0 : w6.cell? ⟨gr, 0, none⟩ = some (.slice ao O.length co) := R6.out.cell 0 (by simp)
                    have f0 : w6.frozen? ⟨gr, 0, none⟩ = false := R6.out.free 0
                    go_wp2
                    rw [set_row R6.out]
                    clear r0 f0 R6
                    go_roundw
                    case rel => exact ⟨k + 1, _, _, O ++ [(⟨x, qa, qc⟩ : FdX)], H, by omega, by go_num, by rw [HU2.out]; exact A6.out, HO2.out, HH2.out⟩
                    case measure => simp [intOf]; omega
                  · have hop : ¬ isOpen notes x = true := by unfold isOpen; simp; omega
                    have HO2 : Hid (O.map (fun y => y.f) = openOf notes (l.take (k + 1))) := by
                      show _ = _
                      rw [HX.out, openOf_snoc, if_neg hop, ← HO.out]
                    have HH2 : Hid ((H ++ [((⟨x, qa, qc⟩ : FdX), fstN notes x)]).map (fun x => (x.1.f, x.2)) = hidOf notes (l.take (k + 1))) := by
                      show _ = _
                      rw [HX.out, hidOf_snoc, if_neg hop, ← HH.out, List.map_append]; rfl
                    obtain ⟨n, hn⟩ : ∃ n : Nat, fstN notes x = n := ⟨(fstN notes x).toNat, by omega⟩
                    have HU2 : Hid (usedOf notes (l.take (k + 1)) = (usedOf notes (l.take k)).set n true) := by
                      show _ = _
                      rw [HX.out, usedOf_set _ _ _ n hn]
                    have hul := usedOf_len notes (l.take k)
                    rw [hn] at HH2 hlt2
                    have hnlt : n < notes.length := by omega
                    rw [hn]
                    clear hop hn hpos hlt2
                    have hul2 : n < (usedOf notes (l.take k)).length := by omega
                    have u0 : w4.cell? ⟨gu, n, none⟩ = some (.bool (usedOf notes (l.take k))[n]) := by
                      rw [A4.out.u.cell n (by simp; omega)]; simp
                    have uf : w4.frozen? ⟨gu, n, none⟩ = false := A4.out.u.free n
                    generalize (usedOf notes (l.take k))[n] = ub at u0
                    clear hul hul2
                    go_upto_region 32 with (fail)
                    have hne : gu ≠ gf := by
                      rintro rfl
                      have h1 := A4.out.u
                      have h2 := B4.out
                      unfold Blk at h1 h2
                      rw [h1] at h2
                      simp at h2
                    have A5 := Lib.hid (A4.out.use n)
                    have B5 : Hid (Blk (w4.setCell ⟨gu, n, none⟩ (.bool true)) gf (fdA x qa qc) 28) := B4.out.other hne _ _
                    have HPT5 : Hid (PlsT (w4.setCell ⟨gu, n, none⟩ (.bool true)) qa x.path) := HPT4.out.grown (grown_set w4 gu n _) (fun g hg => by
                      simp only [Option.some.injEq] at hg
                      subst hg
                      exact ⟨_, 4, _, A4.out.u, by decide⟩)
                    clear u0 uf A4 B4 HB4 HPT4 hne c0 c1 c2 c3 c4 c5
                    generalize w4.setCell ⟨gu, n, none⟩ (.bool true) = w5 at *
                    have c0 : w5.cell? ⟨gf, 0, none⟩ = some (.int .i64 x.kind) := B5.out.cell 0 (by simp [fdA])
                    have c1 : w5.cell? ⟨gf, 1, none⟩ = some (.string x.pl.cls) := B5.out.cell 1 (by simp [fdA])
                    have c2 : w5.cell? ⟨gf, 2, none⟩ = some (.string x.pl.meth) := B5.out.cell 2 (by simp [fdA])
                    have c3 : w5.cell? ⟨gf, 3, none⟩ = some (.int .i64 x.pl.instr) := B5.out.cell 3 (by simp [fdA])
                    have c4 : w5.cell? ⟨gf, 4, none⟩ = some (.string x.what) := B5.out.cell 4 (by simp [fdA])
                    have c5 : w5.cell? ⟨gf, 5, none⟩ = some (.slice qa x.path.length qc) := B5.out.cell 5 (by simp [fdA])
                    have r1 : w5.cell? ⟨gr, 1, none⟩ = some (.slice ah H.length ch) := A5.out.r.cell 1 (by simp)
                    have A6 := Lib.hid (A5.out.below ((Below.refl _ _).alloc (Nat.le_refl _) (.cells (hdA (⟨x, qa, qc⟩, (n : Int))) 53)))
                    have B6 : Hid (Blk (w5.alloc (.cells (hdA (⟨x, qa, qc⟩, (n : Int))) 53)) w5.heap.size (hdA (⟨x, qa, qc⟩, (n : Int))) 53) := blk_new _ _ _
                    have HPK : Hid (PlsK w (w5.alloc (.cells (hdA (⟨x, qa, qc⟩, (n : Int))) 53)) qa x.path) := ⟨.inl (HPT5.out.below ((Below.refl _ _).alloc (Nat.le_refl _) _)), HPN.out⟩
                    unfold hdA hdC at A6 B6 HPK
                    go_wp2_with (at_builtin; refine app_hd rfl _ _ rfl w.heap.size _ H rfl A6.out.oH w5.heap.size (⟨x, qa, qc⟩, (n : Int)) rfl B6.out hlH A6.out.hb.size ?_)
                    intro v' w6 hown hgrow
                    have R6 := Lib.hid (A6.out.r.grown hgrow (owns_ne A6.out.oH A6.out.r (by decide)))
                    have A7 := Lib.hid (A6.out.addH (x := (⟨x, qa, qc⟩, (n : Int))) (by rw [List.length_append]; exact hown) hgrow HPK.out)
                    obtain ⟨ap, cp, hvp⟩ := owns_slice hown
                    subst hvp
                    clear hown hgrow A5 A6 B5 B6 HPK HPT5 c0 c1 c2 c3 c4 c5 r1
                    have r1 : w6.cell? ⟨gr, 1, none⟩ = some (.slice ah H.length ch) := R6.out.cell 1 (by simp)
                    have f1 : w6.frozen? ⟨gr, 1, none⟩ = false := R6.out.free 1
                    go_wp2
                    rw [set_row R6.out]
                    clear r1 f1 R6
                    go_roundw
                    case rel => exact ⟨k + 1, _, _, O, H ++ [((⟨x, qa, qc⟩ : FdX), (n : Int))], by omega, by go_num, by rw [HU2.out]; exact A7.out, HO2.out, HH2.out⟩
                    case measure => simp [intOf]; omega
                · obtain rfl : k = l.length := by omega
                  rw [List.take_of_length_le (Nat.le_refl _)] at A0 HO HH
                  go_wp2
                  clear hk hlt
                  obtain ⟨wo4, rfl⟩ : ∃ wo4 : World, wo4 = wr := ⟨_, rfl⟩
                  go_loopw [110] (fun i wr => ∃ (k : Nat) (vU : Value) (U : List Nat), k ≤ notes.length ∧ i = .int .i64 k ∧ Hid (AS w wr gr gu vO vH vU O H U (usedOf notes l)) ∧ Hid (U = unusedTo notes l k)) (fun i _ => notes.length - (intOf i).toNat)
                  case atStart => exact ⟨0, _, [], Nat.zero_le _, rfl, A0.out, rfl⟩
                  case round =>
                    clear A0
                    obtain ⟨k, vU, U, hk, rfl, A0, HU⟩ := hrel
                    obtain ⟨ao, co, hvo⟩ := owns_slice A0.out.oO
                    obtain ⟨ah, ch, hvh⟩ := owns_slice A0.out.oH
                    obtain ⟨au, cu, hvu⟩ := owns_slice A0.out.oU
                    subst hvo hvh hvu
                    by_cases hlt : k < notes.length
                    · have hul := usedOf_len notes l
                      have hul2 : k < (usedOf notes l).length := by omega
                      have u0 : wr.cell? ⟨gu, k, none⟩ = some (.bool (hits notes l k)) := by
                        rw [A0.out.u.cell k (by simp; omega)]; simp [usedOf_get]
                      have HS := Lib.hid (unusedTo_succ notes l k)
                      have hlU : U.length ≤ 1000000 := by
                        have := unusedTo_le notes l k
                        rw [← HU.out] at this
                        omega
                      clear hul hul2
                      cases hh : hits notes l k
                      · rw [hh] at u0
                        rw [hh, if_neg (by simp), ← HU.out] at HS
                        clear hh
                        have r2 : wr.cell? ⟨gr, 2, none⟩ = some (.slice au U.length cu) := A0.out.r.cell 2 (by simp)
                        have A5 := Lib.hid (A0.out.below ((Below.refl _ _).alloc (Nat.le_refl _) (.cells #[.int .i64 (k : Int)] 3)))
                        have B5 : Hid (Blk (wr.alloc (.cells #[.int .i64 (k : Int)] 3)) wr.heap.size #[.int .i64 (k : Int)] 3) := blk_new _ _ _
                        go_wp2_with (at_builtin; refine app_in rfl _ _ rfl w.heap.size _ U rfl A5.out.oU wr.heap.size k rfl B5.out hlU A5.out.hb.size ?_)
                        intro v' w6 hown hgrow
                        have R6 := Lib.hid (A5.out.r.grown hgrow (owns_ne A5.out.oU A5.out.r (by decide)))
                        have A6 := Lib.hid (A5.out.addU (x := k) (by rw [List.length_append]; exact hown) hgrow)
                        obtain ⟨ap, cp, hvp⟩ := owns_slice hown
                        subst hvp
                        clear hown hgrow A5 B5 r2 u0
                        have r2 : w6.cell? ⟨gr, 2, none⟩ = some (.slice au U.length cu) := R6.out.cell 2 (by simp)
                        have f2 : w6.frozen? ⟨gr, 2, none⟩ = false := R6.out.free 2
                        go_wp2
                        rw [set_row R6.out]
                        clear r2 f2 R6
                        go_roundw
                        case rel => exact ⟨k + 1, _, U ++ [k], by omega, by go_num, A6.out, HS.out.symm⟩
                        case measure => simp [intOf]; omega
                      · rw [hh] at u0
                        rw [hh, if_pos rfl, ← HU.out] at HS
                        clear hh
                        go_wp2
                        go_roundw
                        case rel => exact ⟨k + 1, _, U, by omega, by go_num, A0.out, HS.out.symm⟩
                        case measure => simp [intOf]; omega
                    · obtain rfl : k = notes.length := by omega
                      have r0 : wr.cell? ⟨gr, 0, none⟩ = some (.slice ao O.length co) := A0.out.r.cell 0 (by simp)
                      have r1 : wr.cell? ⟨gr, 1, none⟩ = some (.slice ah H.length ch) := A0.out.r.cell 1 (by simp)
                      have r2 : wr.cell? ⟨gr, 2, none⟩ = some (.slice au U.length cu) := A0.out.r.cell 2 (by simp)
                      have S1 := Lib.hid ((L1.mk A0.out.hb A0.out.res).setRow #[.slice ao O.length co, .slice ah H.length ch, .slice au U.length cu])
                      have FIN := Lib.hid (A0.out.fin #[.slice ao O.length co, .slice ah H.length ch, .slice au U.length cu])
                      have HFD := Lib.hid (fds_of S1.out.1 FIN.out.1 FIN.out.2.2.2.1)
                      have HHD := Lib.hid (hids_of S1.out.1 FIN.out.2.1 FIN.out.2.2.2.2)
                      have HID := Lib.hid (ints_of FIN.out.2.2.1)
                      rw [HO.out] at HFD
                      rw [HH.out] at HHD
                      replace HID : Hid (IntsAt (wr.setRow w.heap.size #[.slice ao O.length co, .slice ah H.length ch, .slice au U.length cu]) au (unusedTo notes l notes.length)) := HU.out ▸ HID.out
                      have e1 : O.length = (openOf notes l).length := by rw [← HO.out, List.length_map]
                      have e2 : H.length = (hidOf notes l).length := by rw [← HH.out, List.length_map]
                      have e3 : U.length = (unusedTo notes l notes.length).length := by rw [HU.out]
                      have E1 := Lib.hid e1
                      have E2 := Lib.hid e2
                      have E3 := Lib.hid e3
                      clear e1 e2 e3
                      go_wp2_with (refine store46 rfl _ _ rfl w.heap.size _ _ _ _ _ _ _ _ _ rfl rfl _ A0.out.res rfl ?_)
                      refine bodyPost_ret (v := .tuple #[.agg #[.slice ao O.length co, .slice ah H.length ch, .slice au U.length cu], .int .i64 0]) (results_c2 Tryd.results19 _ _ w.heap.size _ _ _ rfl rfl S1.out.2 Tryd.underlying46 rfl (by kernel_rfl)) rfl ?_
                      refine ⟨S1.out.1, .inr ⟨HZ.out, hl1, hn1, ao, co, ah, ch, au, cu, by rw [E1.out, E2.out, E3.out], ?_, ?_, ?_⟩⟩
                      · exact HFD.out
                      · exact HHD.out
                      · exact HID.out
end Go.Proofs.YtpgmjfnjdgdmcaaDoor
