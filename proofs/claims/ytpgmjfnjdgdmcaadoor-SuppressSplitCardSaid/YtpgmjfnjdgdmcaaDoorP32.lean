/-
  Apply of the reference.
-/
import Derived.Test.YtpgmjfnjdgdmcaaDoorP31
import Derived.Test.YtpgmjfnjdgdmcaaDoorRegz
namespace Go.Proofs.YtpgmjfnjdgdmcaaDoor
open Go.RowKit Go.Sort

/-- a world in which these cells hold these values -/
structure WCL (L : List (Addr × Value)) where
  u : World
  h : ∀ p ∈ L, u.cell? p.1 = some p.2
theorem cl_grown {w w' : World} {row : Option Nat} {L : List (Addr × Value)} (hg : w.grownBy w' row) (hr : ∀ p ∈ L, some p.1.block ≠ row) (h : ∀ p ∈ L, w.cell? p.1 = some p.2) : ∀ p ∈ L, w'.cell? p.1 = some p.2 := fun p hp => by
  rw [World.cell?_of_block (w := w) (hg.block _ (World.block_lt_of_cell? w _ (h p hp)) (hr p hp))]
  exact h p hp

set_option maxRecDepth 100000 in
set_option maxHeartbeats 8000000 in
theorem apply20 (l : List Fd) (notes : List Nt) (a : Option Addr) (c : Nat) (b : Option Addr) (d : Nat) (w : World) (hl : FdsAt w a l) (hn : NtsAt w b notes) (hwf : ∀ f ∈ l, f.what.size ≤ 9223372036854775807) (hwn : ∀ n ∈ notes, n.what.size ≤ 9223372036854775807) (hp : ∀ f ∈ l, f.path.length ≤ 1000000) (hll : l.length ≤ 1000000) (hnl : notes.length ≤ 1000000) :
    Calls Tryd.prog 20 #[.slice a l.length c, .slice b notes.length d] w (APost l notes w) := by
  have HWF := Lib.hid hwf; clear hwf
  have HWN := Lib.hid hwn; clear hwn
  have HL := Lib.hid hl; clear hl
  have HN := Lib.hid hn; clear hn
  have HP := Lib.hid hp; clear hp
  have S0 := Lib.hid (L1.start w)
  unfold zeroRep at S0
  by_cases hbig : 1000 < l.length ∨ 200 < notes.length
  · have HF := Lib.hid (appE_big hbig)
    have S1 := Lib.hid (S0.out.setRow zeroRep)
    unfold zeroRep at S1
    rcases hbig with h | h
    · go_enter Tryd.func20, Tryd.ntmps20
      go_wp2_with (refine store46 rfl _ _ rfl w.heap.size none none none 0 0 0 0 0 0 rfl rfl _ S0.out.res rfl ?_)
      refine bodyPost_ret (v := .tuple #[.agg zeroRep, .int .i64 3]) (results_c2 Tryd.results20 _ _ w.heap.size _ _ _ rfl rfl S1.out.2 Tryd.underlying46 rfl (by kernel_rfl)) rfl ?_
      exact ⟨S1.out.1, .inl ⟨by rw [HF.out]; decide, by rw [HF.out]⟩⟩
    · by_cases h1 : 1000 < l.length
      · go_enter Tryd.func20, Tryd.ntmps20
        go_wp2_with (refine store46 rfl _ _ rfl w.heap.size none none none 0 0 0 0 0 0 rfl rfl _ S0.out.res rfl ?_)
        refine bodyPost_ret (v := .tuple #[.agg zeroRep, .int .i64 3]) (results_c2 Tryd.results20 _ _ w.heap.size _ _ _ rfl rfl S1.out.2 Tryd.underlying46 rfl (by kernel_rfl)) rfl ?_
        exact ⟨S1.out.1, .inl ⟨by rw [HF.out]; decide, by rw [HF.out]⟩⟩
      · go_enter Tryd.func20, Tryd.ntmps20
        go_wp2_with (refine store46 rfl _ _ rfl w.heap.size none none none 0 0 0 0 0 0 rfl rfl _ S0.out.res rfl ?_)
        refine bodyPost_ret (v := .tuple #[.agg zeroRep, .int .i64 3]) (results_c2 Tryd.results20 _ _ w.heap.size _ _ _ rfl rfl S1.out.2 Tryd.underlying46 rfl (by kernel_rfl)) rfl ?_
        exact ⟨S1.out.1, .inl ⟨by rw [HF.out]; decide, by rw [HF.out]⟩⟩
  have hl1 : l.length ≤ 1000 := by omega
  have hn1 : notes.length ≤ 200 := by omega
  have HBIG := Lib.hid hbig; clear hbig
  go_enter Tryd.func20, Tryd.ntmps20
  go_wp2
  go_loopw [6] (fun i wr => ∃ k : Nat, k ≤ l.length ∧ i = .int .i64 k ∧ Hid (∀ n ∈ l.take k, findE n = 0) ∧ Hid (L1 w wr)) (fun i _ => l.length - (intOf i).toNat)
  case atStart => exact ⟨0, Nat.zero_le _, rfl, (fun n hn => by simp at hn), S0.out⟩
  case round =>
    clear S0
    obtain ⟨k, hk, rfl, HI, S0⟩ := hrel
    by_cases hlt : k < l.length
    · obtain ⟨g1, o1, pa, pc, rfl, m0, m1, m2, m3, m4, m5, mp, mn⟩ := HL.out.below S0.out.hb k hlt
      have HX : Hid (l.take (k + 1) = l.take k ++ [l[k]]) := List.take_succ_eq_append_getElem hlt
      have HER := Lib.hid (firstE_at (E := findE) hlt HI.out)
      have hpl := HP.out _ (List.getElem_mem hlt)
      have hwz := HWF.out _ (List.getElem_mem hlt)
      have HMP := Lib.hid mp; clear mp mn
      generalize l[k] = x at *
      go_wp2_with fail
      refine (fcheck45 x pa pc _ hwz HMP.out hpl).mono ?_
      rintro e w2 ⟨rfl, hb2⟩
      have S2 := Lib.hid (S0.out.below hb2)
      clear hb2 m0 m1 m2 m3 m4 m5 HMP
      by_cases h0 : findE x = 0
      · have t0 : (findE x != 0) = false := by simp [h0]
        have H0 := Lib.hid h0; clear h0
        go_wp2
        go_roundw
        case rel =>
          refine ⟨k + 1, by omega, by go_num, ?_, S2.out⟩
          show ∀ n ∈ l.take (k + 1), findE n = 0
          rw [HX.out]
          intro n hn
          rcases List.mem_append.1 hn with h | h
          · exact HI.out n h
          · rw [List.mem_singleton.1 h]; exact H0.out
        case measure => simp [intOf]; omega
      · have t0 : (findE x != 0) = true := by simpa using h0
        have HF : Hid (appE l notes = findE x) := by
          show _ = _
          rw [appE_find HBIG.out (by rw [HER.out h0]; exact h0), HER.out h0]
        have H0 := Lib.hid h0; clear h0
        have S3 := Lib.hid (S2.out.setRow zeroRep)
        unfold zeroRep at S3
        go_wp2_with (refine store46 rfl _ _ rfl w.heap.size none none none 0 0 0 0 0 0 rfl rfl _ S2.out.res rfl ?_)
        refine bodyPost_ret (v := .tuple #[.agg zeroRep, .int .i64 (findE x)]) (results_c2 Tryd.results20 _ _ w.heap.size _ _ _ rfl rfl S3.out.2 Tryd.underlying46 rfl (by kernel_rfl)) rfl ?_
        exact ⟨S3.out.1, .inl ⟨by rw [HF.out]; exact H0.out, by rw [HF.out]⟩⟩
    · obtain rfl : k = l.length := by omega
      have HFE : Hid (firstE findE l = 0) := by
        have h1 := HI.out
        rw [List.take_of_length_le (Nat.le_refl _)] at h1
        exact firstE_all h1
      clear HI
      go_wp2
      obtain ⟨wo, rfl⟩ : ∃ wo : World, wo = wr := ⟨_, rfl⟩
      go_loopw [8] (fun i wr => ∃ k : Nat, 1 ≤ k ∧ k ≤ l.length + 1 ∧ i = .int .i64 k ∧ Hid (Asc l k) ∧ Hid (L1 w wr)) (fun i _ => l.length - (intOf i).toNat)
      case atStart => exact ⟨1, Nat.le_refl _, by omega, rfl, Asc.one l, S0.out⟩
      case round =>
        clear S0
        obtain ⟨k, hk1, hk2, rfl, HA, S0⟩ := hrel
        by_cases hlt : k < l.length
        · have hlt0 : k - 1 < l.length := by omega
          obtain ⟨g1, o1, pa, pc, rfl, m0, m1, m2, m3, m4, m5, mp, _⟩ := HL.out.below S0.out.hb (k - 1) hlt0
          obtain ⟨g2, o2, qa, qc, hq, n0, n1, n2, n3, n4, n5, np, _⟩ := HL.out.below S0.out.hb k hlt
          simp only [Option.some.injEq, Addr.mk.injEq] at hq
          obtain ⟨rfl, rfl, _⟩ := hq
          have hpl := HP.out _ (List.getElem_mem hlt0)
          have HMP := Lib.hid mp
          have HNP := Lib.hid np
          have HAS := Lib.hid (HA.out.succ' hk1 hlt)
          have HAN := Lib.hid (Asc.not' hk1 hlt)
          clear mp np
          generalize l[k - 1] = x at *
          generalize l[k] = y at *
          obtain ⟨j, hj⟩ : ∃ j, j = k - 1 := ⟨_, rfl⟩
          rw [← hj] at m0 m1 m2 m3 m4 m5 hlt0
          have hwr : IntKind.i64.wrap ((k : Int) - 1) = (j : Int) := by rw [IntWalk.i64_in _ (by omega)]; omega
          clear hj
          go_wp2
          go_still_tail 9, (by kernel_rfl)
          have SD := Lib.hid S0.out.drew
          have HMPD : Hid (PlsAt wr.drew pa x.path) := HMP.out
          have HNPD : Hid (PlsAt wr.drew qa y.path) := HNP.out
          change wpList _ _ _ _ _ wr.drew
          clear m0 m1 m2 m3 m4 m5 n0 n1 n2 n3 n4 n5 S0 HMP HNP
          generalize wr.drew = w2 at *
          go_wp2_with fail
          refine (fcompare23 x y pa qa pc qc _ HMPD.out HNPD.out hpl).mono ?_
          rintro e w3 ⟨rfl, hb3⟩
          have S3 := Lib.hid (SD.out.below hb3)
          clear hb3 SD HMPD HNPD
          by_cases h0 : cmpF x y < 0
          · have t0 : decide ((0 : Int) ≤ cmpF x y) = false := decide_eq_false (by omega)
            have HA2 := Lib.hid (HAS.out h0)
            clear h0 HAS HAN
            go_wp2
            go_roundw
            case rel => exact ⟨k + 1, by omega, by omega, by go_num, HA2.out, S3.out⟩
            case measure => simp [intOf]; omega
          · have t0 : decide ((0 : Int) ≤ cmpF x y) = true := decide_eq_true (by omega)
            have HF := Lib.hid (appE_ord (notes := notes) HBIG.out HFE.out (HAN.out (by omega)))
            clear h0 HAS HAN
            have S4 := Lib.hid (S3.out.setRow zeroRep)
            unfold zeroRep at S4
            go_wp2_with (refine store46 rfl _ _ rfl w.heap.size none none none 0 0 0 0 0 0 rfl rfl _ S3.out.res rfl ?_)
            refine bodyPost_ret (v := .tuple #[.agg zeroRep, .int .i64 13]) (results_c2 Tryd.results20 _ _ w.heap.size _ _ _ rfl rfl S4.out.2 Tryd.underlying46 rfl (by kernel_rfl)) rfl ?_
            exact ⟨S4.out.1, .inl ⟨by rw [HF.out]; decide, by rw [HF.out]⟩⟩
        · have HAA := Lib.hid (HA.out.all' (by omega))
          have HEN := Lib.hid (appE_note (notes := notes) HBIG.out HFE.out HAA.out)
          clear HA HAA
          go_wp2
          clear hlt hk1 hk2
          obtain ⟨wo2, rfl⟩ : ∃ wo2 : World, wo2 = wr := ⟨_, rfl⟩
          go_loopw [9] (fun i wr => ∃ k : Nat, k ≤ notes.length ∧ i = .int .i64 k ∧ Hid (∀ n ∈ notes.take k, noteE n = 0) ∧ Hid (L1 w wr)) (fun i _ => notes.length - (intOf i).toNat)
          case atStart => exact ⟨0, Nat.zero_le _, rfl, (fun n hn => by simp at hn), S0.out⟩
          case round =>
            clear S0
            obtain ⟨k, hk, rfl, HI, S0⟩ := hrel
            by_cases hlt : k < notes.length
            · obtain ⟨g1, o1, rfl, m0, m1, m2, m3, m4⟩ := HN.out.below S0.out.hb k hlt
              have HX : Hid (notes.take (k + 1) = notes.take k ++ [notes[k]]) := List.take_succ_eq_append_getElem hlt
              have HER := Lib.hid (firstE_at (E := noteE) hlt HI.out)
              have hwz := HWN.out _ (List.getElem_mem hlt)
              generalize notes[k] = x at *
              go_wp2_with fail
              refine (check9 x _ hwz).mono ?_
              rintro e w2 ⟨rfl, hb2⟩
              have S2 := Lib.hid (S0.out.below hb2)
              clear hb2 m0 m1 m2 m3 m4
              by_cases h0 : noteE x = 0
              · have t0 : (noteE x != 0) = false := by simp [h0]
                have H0 := Lib.hid h0; clear h0
                go_wp2
                go_roundw
                case rel =>
                  refine ⟨k + 1, by omega, by go_num, ?_, S2.out⟩
                  show ∀ n ∈ notes.take (k + 1), noteE n = 0
                  rw [HX.out]
                  intro n hn
                  rcases List.mem_append.1 hn with h | h
                  · exact HI.out n h
                  · rw [List.mem_singleton.1 h]; exact H0.out
                case measure => simp [intOf]; omega
              · have t0 : (noteE x != 0) = true := by simpa using h0
                have HF : Hid (appE l notes = noteE x) := by
                  show _ = _
                  rw [HEN.out, HER.out h0]
                have H0 := Lib.hid h0; clear h0
                have S3 := Lib.hid (S2.out.setRow zeroRep)
                unfold zeroRep at S3
                go_wp2_with (refine store46 rfl _ _ rfl w.heap.size none none none 0 0 0 0 0 0 rfl rfl _ S2.out.res rfl ?_)
                refine bodyPost_ret (v := .tuple #[.agg zeroRep, .int .i64 (noteE x)]) (results_c2 Tryd.results20 _ _ w.heap.size _ _ _ rfl rfl S3.out.2 Tryd.underlying46 rfl (by kernel_rfl)) rfl ?_
                exact ⟨S3.out.1, .inl ⟨by rw [HF.out]; exact H0.out, by rw [HF.out]⟩⟩
            · obtain rfl : k = notes.length := by omega
              have HZ : Hid (appE l notes = 0) := by
                have h1 := HI.out
                rw [List.take_of_length_le (Nat.le_refl _)] at h1
                exact HEN.out.trans (firstE_all h1)
              clear HI HEN
              have hmk := make78 notes.length (by omega)
              go_wp2
              clear hmk
              have A0 := Lib.hid (AS.start S0.out notes.length)
              rw [← usedOf_nil] at A0
              generalize (wr.alloc (.cells #[.slice none 0 0, .slice none 0 0, .slice none 0 0] 46)).alloc (.cells (Array.replicate notes.length (Value.bool false)) 4) = W0 at *
              obtain ⟨gu, hgu⟩ : ∃ gu, gu = wr.heap.size + 1 := ⟨_, rfl⟩
              rw [← hgu] at A0 ⊢
              clear hgu
              generalize wr.heap.size = gr at *
              clear S0 hk hlt
              obtain ⟨wo3, rfl⟩ : ∃ wo3 : World, wo3 = wr := ⟨_, rfl⟩
              go_loopw [13] (fun i wr => ∃ (k : Nat) (vO vH : Value) (O : List FdX) (H : List (FdX × Int)), k ≤ l.length ∧ i = .int .i64 k ∧ Hid (AS w wr gr gu vO vH (.slice none 0 0) O H [] (usedOf notes (l.take k))) ∧ Hid (O.map (·.f) = openOf notes (l.take k)) ∧ Hid (H.map (fun x => (x.1.f, x.2)) = hidOf notes (l.take k))) (fun i _ => l.length - (intOf i).toNat)
              case atStart => exact ⟨0, _, _, [], [], Nat.zero_le _, rfl, A0.out, rfl, rfl⟩
              case round =>
                clear A0
                obtain ⟨k, vO, vH, O, H, hk, rfl, A0, HO, HH⟩ := hrel
                by_cases hlt : k < l.length
                · obtain ⟨g1, o1, pa, pc, rfl, m0, m1, m2, m3, m4, m5, mp, mn⟩ := HL.out k hlt
                  have HX : Hid (l.take (k + 1) = l.take k ++ [l[k]]) := List.take_succ_eq_append_getElem hlt
                  have HPK0 : Hid (∀ w', PlsK w w' pa l[k].path) := fun w' => ⟨.inr mp, mn⟩
                  clear mp mn
                  generalize l[k] = x at *
                  have hg1 : g1 < w.heap.size := World.block_lt_of_cell? w _ m0
                  have HG1 := Lib.hid hg1; clear hg1
                  have p0 := cell_below A0.out.hb m0
                  have p1 := cell_below A0.out.hb m1
                  have p2 := cell_below A0.out.hb m2
                  have p3 := cell_below A0.out.hb m3
                  have p4 := cell_below A0.out.hb m4
                  have p5 := cell_below A0.out.hb m5
                  clear m0 m1 m2 m3 m4 m5
                  go_wp2_with fail
                  refine (first22 notes x b d pa pc _ (HN.out.below A0.out.hb) hnl).mono ?_
                  rintro e w2 ⟨rfl, hb2⟩
                  have A4 := Lib.hid (A0.out.below hb2)
                  have c0 := cell_below hb2 p0
                  have c1 := cell_below hb2 p1
                  have c2 := cell_below hb2 p2
                  have c3 := cell_below hb2 p3
                  have c4 := cell_below hb2 p4
                  have c5 := cell_below hb2 p5
                  clear hb2 p0 p1 p2 p3 p4 p5
                  obtain ⟨ao, co, hvo⟩ := owns_slice A0.out.oO
                  obtain ⟨ah, ch, hvh⟩ := owns_slice A0.out.oH
                  subst hvo hvh
                  clear A0
                  have hlO : O.length ≤ 1000000 := by
                    have h1 := congrArg List.length HO.out
                    rw [List.length_map] at h1
                    have h2 := openOf_le notes (l.take k)
                    simp at h2
                    omega
                  have hlH : H.length ≤ 1000000 := by
                    have h1 := congrArg List.length HH.out
                    rw [List.length_map] at h1
                    have h2 := hidOf_le notes (l.take k)
                    simp at h2
                    omega
                  rcases fstN_range notes x with hneg | ⟨hpos, hlt2⟩
                  · have hop : isOpen notes x = true := by unfold isOpen; rw [hneg]; rfl
                    have HO2 : Hid ((O ++ [(⟨x, pa, pc⟩ : FdX)]).map (fun y => y.f) = openOf notes (l.take (k + 1))) := by
                      show _ = _
                      rw [HX.out, openOf_snoc, if_pos hop, ← HO.out, List.map_append]; rfl
                    have HH2 : Hid (H.map (fun x => (x.1.f, x.2)) = hidOf notes (l.take (k + 1))) := by
                      show _ = _
                      rw [HX.out, hidOf_snoc, if_pos hop, HH.out]
                    have HU2 : Hid (usedOf notes (l.take (k + 1)) = usedOf notes (l.take k)) := by
                      show _ = _
                      rw [HX.out, usedOf_open _ _ _ (by omega)]
                    have tn : decide (fstN notes x < 0) = true := by rw [hneg]; rfl
                    clear hop hneg
                    go_wp2
                    have r0 : w2.cell? ⟨gr, 0, none⟩ = some (.slice ao O.length co) := A4.out.r.cell 0 (by simp)
                    obtain ⟨CL, hCL⟩ : ∃ CL : List (Addr × Value), CL = [(⟨gr, 0, none⟩, .slice ao O.length co), (⟨g1, o1 + k * 6, none⟩, .int .i64 x.kind), (⟨g1, o1 + k * 6 + 1, none⟩, .string x.pl.cls), (⟨g1, o1 + k * 6 + 2, none⟩, .string x.pl.meth), (⟨g1, o1 + k * 6 + 3, none⟩, .int .i64 x.pl.instr), (⟨g1, o1 + k * 6 + 4, none⟩, .string x.what), (⟨g1, o1 + k * 6 + 5, none⟩, .slice pa x.path.length pc)] := ⟨_, rfl⟩
                    have k0 : ∀ q : WCL CL, q.u.cell? ⟨gr, 0, none⟩ = some (.slice ao O.length co) := fun q => q.h (⟨gr, 0, none⟩, .slice ao O.length co) (by rw [hCL]; simp)
                    have k1 : ∀ q : WCL CL, q.u.cell? ⟨g1, o1 + k * 6, none⟩ = some (.int .i64 x.kind) := fun q => q.h (⟨g1, o1 + k * 6, none⟩, .int .i64 x.kind) (by rw [hCL]; simp)
                    have k2 : ∀ q : WCL CL, q.u.cell? ⟨g1, o1 + k * 6 + 1, none⟩ = some (.string x.pl.cls) := fun q => q.h (⟨g1, o1 + k * 6 + 1, none⟩, .string x.pl.cls) (by rw [hCL]; simp)
                    have k3 : ∀ q : WCL CL, q.u.cell? ⟨g1, o1 + k * 6 + 2, none⟩ = some (.string x.pl.meth) := fun q => q.h (⟨g1, o1 + k * 6 + 2, none⟩, .string x.pl.meth) (by rw [hCL]; simp)
                    have k4 : ∀ q : WCL CL, q.u.cell? ⟨g1, o1 + k * 6 + 3, none⟩ = some (.int .i64 x.pl.instr) := fun q => q.h (⟨g1, o1 + k * 6 + 3, none⟩, .int .i64 x.pl.instr) (by rw [hCL]; simp)
                    have k5 : ∀ q : WCL CL, q.u.cell? ⟨g1, o1 + k * 6 + 4, none⟩ = some (.string x.what) := fun q => q.h (⟨g1, o1 + k * 6 + 4, none⟩, .string x.what) (by rw [hCL]; simp)
                    have k6 : ∀ q : WCL CL, q.u.cell? ⟨g1, o1 + k * 6 + 5, none⟩ = some (.slice pa x.path.length pc) := fun q => q.h (⟨g1, o1 + k * 6 + 5, none⟩, .slice pa x.path.length pc) (by rw [hCL]; simp)
                    have hu0 : ∀ p ∈ CL, ({ w2 with drawn := w2.drawn + 1 } : World).cell? p.1 = some p.2 := by
                      intro p hp
                      rw [hCL] at hp
                      simp only [List.mem_cons, List.not_mem_nil, or_false] at hp
                      rcases hp with rfl | rfl | rfl | rfl | rfl | rfl | rfl
                      · exact r0
                      · exact c0
                      · exact c1
                      · exact c2
                      · exact c3
                      · exact c4
                      · exact c5
                    have HBK : Hid (∀ p ∈ CL, p.1.block = gr ∨ p.1.block < w.heap.size) := by
                      show ∀ p ∈ CL, _
                      intro p hp
                      rw [hCL] at hp
                      simp only [List.mem_cons, List.not_mem_nil, or_false] at hp
                      rcases hp with rfl | rfl | rfl | rfl | rfl | rfl | rfl
                      · exact .inl rfl
                      · exact .inr HG1.out
                      · exact .inr HG1.out
                      · exact .inr HG1.out
                      · exact .inr HG1.out
                      · exact .inr HG1.out
                      · exact .inr HG1.out
                    clear hCL
                    have hne : Nonempty (WCL CL) := ⟨⟨_, hu0⟩⟩
                    refine wp_region_Z (fun w' => ∃ q : WCL CL, w' = q.u) 9 (by kernel_rfl) ?_
                    clear r0 c0 c1 c2 c3 c4 c5
                    refine wpAnyZ_take 0 rfl (by kernel_rfl) (by kernel_rfl) (fun _ _ _ _ h => h) ⟨⟨_, hu0⟩, rfl⟩ (fun K hK => ?_)
                    go_simp
                    refine hK _ ?_
                    clear hK K
                    refine wpAnyZ_take 1 rfl (by kernel_rfl) (by kernel_rfl) (fun _ _ _ _ h => h) ⟨⟨_, hu0⟩, rfl⟩ (fun K hK => ?_)
                    go_simp
                    refine hK _ ?_
                    clear hK K
                    refine wpAnyZ_take 2 rfl (by kernel_rfl) (by kernel_rfl) (fun _ _ _ _ h => h) ⟨⟨_, hu0⟩, rfl⟩ (fun K hK => ?_)
                    go_simp
                    refine hK _ ?_
                    clear hK K
                    refine wpAnyZ_take 3 rfl (by kernel_rfl) (by kernel_rfl) (fun _ _ _ _ h => h) ⟨⟨_, hu0⟩, rfl⟩ (fun K hK => ?_)
                    go_simp
                    refine hK _ ?_
                    clear hK K
                    refine wpAnyZ_take 4 rfl (by kernel_rfl) (by kernel_rfl) (fun _ _ _ _ h => h) ⟨⟨_, hu0⟩, rfl⟩ (fun K hK => ?_)
                    go_simp
                    refine hK _ ?_
                    clear hK K
                    refine wpAnyZ_take 5 rfl (by kernel_rfl) (by kernel_rfl) (fun _ _ _ _ h => h) ⟨⟨_, hu0⟩, rfl⟩ (fun K hK => ?_)
                    go_simp
                    refine hK _ ?_
                    clear hK K
                    have AD := Lib.hid (A4.out.below (below_drewN' (Below.refl _ _) 1))
                    change wpAnyZ _ _ _ _ _ _ _ _ _ (w2.drewN 1)
                    have hu1 : ∀ p ∈ CL, (w2.drewN 1).cell? p.1 = some p.2 := hu0
                    clear A4 hu0
                    generalize w2.drewN 1 = w8 at *
                    have HBA : Hid (Below w8.heap.size w8 (w8.alloc (.cells (fdA x pa pc) 28))) := (Below.refl _ _).alloc (Nat.le_refl _) _
                    have A5 := Lib.hid (AD.out.below HBA.out)
                    have B5 : Hid (Blk (w8.alloc (.cells (fdA x pa pc) 28)) w8.heap.size (fdA x pa pc) 28) := blk_new _ _ _
                    have hu2 : ∀ p ∈ CL, (w8.alloc (.cells (fdA x pa pc) 28)).cell? p.1 = some p.2 := fun p hp => cell_below HBA.out (hu1 p hp)
                    unfold fdA at A5 B5 hu2
                    refine wpAnyZ_one 6 rfl (by kernel_rfl) ?_
                    go_wp2
                    refine ⟨⟨⟨_, hu2⟩, rfl⟩, ?_⟩
                    refine wpAnyZ_one 7 rfl (by kernel_rfl) ?_
                    simp only [List.getElem_toArray, List.getElem_cons_succ, List.getElem_cons_zero]
                    refine app_fd rfl _ _ rfl w.heap.size _ O rfl A5.out.oO w8.heap.size ⟨x, pa, pc⟩ rfl B5.out hlO A5.out.hb.size ?_
                    intro v' w6 hown hgrow
                    replace hown : w6.ownsRow w.heap.size 28 6 v' (O.length + 1) (fdCells (O ++ [(⟨x, pa, pc⟩ : FdX)])) := by rw [List.length_append] at hown; exact hown
                    have R6 := Lib.hid (A5.out.r.grown hgrow (owns_ne A5.out.oO A5.out.r (by decide)))
                    have A6 := Lib.hid (A5.out.addO (x := (⟨x, pa, pc⟩ : FdX)) (by rw [List.length_append]; exact hown) hgrow (HPK0.out _))
                    have hu3 : ∀ p ∈ CL, w6.cell? p.1 = some p.2 := cl_grown hgrow (fun p hp e => by
                      rcases HBK.out p hp with h | h
                      · rw [h] at e; exact owns_ne A5.out.oO A5.out.r (by decide) e
                      · have := (A5.out.oO.lt _ e.symm).1; omega) hu2
                    obtain ⟨ap, cp, hvp⟩ := owns_slice hown
                    subst hvp
                    clear hown hgrow A5 B5 AD HBA hu2
                    have s0 : w6.cell? ⟨gr, 0, none⟩ = some (.slice ao O.length co) := R6.out.cell 0 (by simp)
                    have f0 : w6.frozen? ⟨gr, 0, none⟩ = false := R6.out.free 0
                    refine wpList_hide (fun K hK => ?_)
                    go_simp
                    refine hK _ _ ?_
                    clear hK K
                    refine ⟨⟨⟨_, hu3⟩, rfl⟩, ?_⟩
                    refine wpAnyZ_one 8 rfl (by kernel_rfl) ?_
                    go_wp2
                    refine ⟨⟨⟨_, hu3⟩, rfl⟩, ?_⟩
                    refine wpAnyZ_last rfl (by kernel_rfl) ?_
                    go_wp2
                    refine wpAnyZ_done (by kernel_rfl) ?_ _
                    rw [set_row R6.out]
                    clear s0 f0 R6 hu1 hu3 hne k0 k1 k2 k3 k4 k5 k6
                    go_wp2
                    go_roundw
                    case rel => exact ⟨k + 1, _, _, O ++ [(⟨x, pa, pc⟩ : FdX)], H, by omega, by go_num, by rw [HU2.out]; exact A6.out, HO2.out, HH2.out⟩
                    case measure => simp [intOf]; omega
                  · have hop : ¬ isOpen notes x = true := by unfold isOpen; simp; omega
                    have HO2 : Hid (O.map (fun y => y.f) = openOf notes (l.take (k + 1))) := by
                      show _ = _
                      rw [HX.out, openOf_snoc, if_neg hop, ← HO.out]
                    have HH2 : Hid ((H ++ [((⟨x, pa, pc⟩ : FdX), fstN notes x)]).map (fun x => (x.1.f, x.2)) = hidOf notes (l.take (k + 1))) := by
                      show _ = _
                      rw [HX.out, hidOf_snoc, if_neg hop, ← HH.out, List.map_append]; rfl
                    obtain ⟨n, hn⟩ : ∃ n : Nat, fstN notes x = n := ⟨(fstN notes x).toNat, by omega⟩
                    have HU2 : Hid (usedOf notes (l.take (k + 1)) = (usedOf notes (l.take k)).set n true) := by
                      show _ = _
                      rw [HX.out, usedOf_set _ _ _ n hn]
                    have hul := usedOf_len notes (l.take k)
                    rw [hn] at HH2 hlt2
                    have hnlt : n < notes.length := by omega
                    rw [hn]
                    clear hop hn hpos hlt2
                    have hul2 : n < (usedOf notes (l.take k)).length := by omega
                    have u0 : w2.cell? ⟨gu, n, none⟩ = some (.bool (usedOf notes (l.take k))[n]) := by
                      rw [A4.out.u.cell n (by simp; omega)]; simp
                    have uf : w2.frozen? ⟨gu, n, none⟩ = false := A4.out.u.free n
                    generalize (usedOf notes (l.take k))[n] = ub at u0
                    clear hul hul2
                    go_upto_region 29 with (fail)
                    have A5 := Lib.hid (A4.out.use n)
                    have hne : gu ≠ g1 := by have h1 := A4.out.hgu; have h2 := HG1.out; omega
                    have sc : ∀ o, (w2.setCell ⟨gu, n, none⟩ (.bool true)).cell? ⟨g1, o, none⟩ = w2.cell? ⟨g1, o, none⟩ := fun o => World.cell?_setCell_other w2 _ _ _ (fun e => hne (by injection e))
                    have d0 := (sc _).trans c0
                    have d1 := (sc _).trans c1
                    have d2 := (sc _).trans c2
                    have d3 := (sc _).trans c3
                    have d4 := (sc _).trans c4
                    have d5 := (sc _).trans c5
                    clear u0 uf A4 hne c0 c1 c2 c3 c4 c5 sc
                    generalize w2.setCell ⟨gu, n, none⟩ (.bool true) = w5 at *
                    have r1 : w5.cell? ⟨gr, 1, none⟩ = some (.slice ah H.length ch) := A5.out.r.cell 1 (by simp)
                    obtain ⟨CL, hCL⟩ : ∃ CL : List (Addr × Value), CL = [(⟨gr, 1, none⟩, .slice ah H.length ch), (⟨g1, o1 + k * 6, none⟩, .int .i64 x.kind), (⟨g1, o1 + k * 6 + 1, none⟩, .string x.pl.cls), (⟨g1, o1 + k * 6 + 2, none⟩, .string x.pl.meth), (⟨g1, o1 + k * 6 + 3, none⟩, .int .i64 x.pl.instr), (⟨g1, o1 + k * 6 + 4, none⟩, .string x.what), (⟨g1, o1 + k * 6 + 5, none⟩, .slice pa x.path.length pc)] := ⟨_, rfl⟩
                    have k0 : ∀ q : WCL CL, q.u.cell? ⟨gr, 1, none⟩ = some (.slice ah H.length ch) := fun q => q.h (⟨gr, 1, none⟩, .slice ah H.length ch) (by rw [hCL]; simp)
                    have k1 : ∀ q : WCL CL, q.u.cell? ⟨g1, o1 + k * 6, none⟩ = some (.int .i64 x.kind) := fun q => q.h (⟨g1, o1 + k * 6, none⟩, .int .i64 x.kind) (by rw [hCL]; simp)
                    have k2 : ∀ q : WCL CL, q.u.cell? ⟨g1, o1 + k * 6 + 1, none⟩ = some (.string x.pl.cls) := fun q => q.h (⟨g1, o1 + k * 6 + 1, none⟩, .string x.pl.cls) (by rw [hCL]; simp)
                    have k3 : ∀ q : WCL CL, q.u.cell? ⟨g1, o1 + k * 6 + 2, none⟩ = some (.string x.pl.meth) := fun q => q.h (⟨g1, o1 + k * 6 + 2, none⟩, .string x.pl.meth) (by rw [hCL]; simp)
                    have k4 : ∀ q : WCL CL, q.u.cell? ⟨g1, o1 + k * 6 + 3, none⟩ = some (.int .i64 x.pl.instr) := fun q => q.h (⟨g1, o1 + k * 6 + 3, none⟩, .int .i64 x.pl.instr) (by rw [hCL]; simp)
                    have k5 : ∀ q : WCL CL, q.u.cell? ⟨g1, o1 + k * 6 + 4, none⟩ = some (.string x.what) := fun q => q.h (⟨g1, o1 + k * 6 + 4, none⟩, .string x.what) (by rw [hCL]; simp)
                    have k6 : ∀ q : WCL CL, q.u.cell? ⟨g1, o1 + k * 6 + 5, none⟩ = some (.slice pa x.path.length pc) := fun q => q.h (⟨g1, o1 + k * 6 + 5, none⟩, .slice pa x.path.length pc) (by rw [hCL]; simp)
                    have hu0 : ∀ p ∈ CL, ({ w5 with drawn := w5.drawn + 1 } : World).cell? p.1 = some p.2 := by
                      intro p hp
                      rw [hCL] at hp
                      simp only [List.mem_cons, List.not_mem_nil, or_false] at hp
                      rcases hp with rfl | rfl | rfl | rfl | rfl | rfl | rfl
                      · exact r1
                      · exact d0
                      · exact d1
                      · exact d2
                      · exact d3
                      · exact d4
                      · exact d5
                    have HBK : Hid (∀ p ∈ CL, p.1.block = gr ∨ p.1.block < w.heap.size) := by
                      show ∀ p ∈ CL, _
                      intro p hp
                      rw [hCL] at hp
                      simp only [List.mem_cons, List.not_mem_nil, or_false] at hp
                      rcases hp with rfl | rfl | rfl | rfl | rfl | rfl | rfl
                      · exact .inl rfl
                      · exact .inr HG1.out
                      · exact .inr HG1.out
                      · exact .inr HG1.out
                      · exact .inr HG1.out
                      · exact .inr HG1.out
                      · exact .inr HG1.out
                    clear hCL
                    have hne : Nonempty (WCL CL) := ⟨⟨_, hu0⟩⟩
                    refine wp_region_Z (fun w' => ∃ q : WCL CL, w' = q.u) 11 (by kernel_rfl) ?_
                    clear r1 d0 d1 d2 d3 d4 d5
                    refine wpAnyZ_take 0 rfl (by kernel_rfl) (by kernel_rfl) (fun _ _ _ _ h => h) ⟨⟨_, hu0⟩, rfl⟩ (fun K hK => ?_)
                    go_simp
                    refine hK _ ?_
                    clear hK K
                    refine wpAnyZ_take 1 rfl (by kernel_rfl) (by kernel_rfl) (fun _ _ _ _ h => h) ⟨⟨_, hu0⟩, rfl⟩ (fun K hK => ?_)
                    go_simp
                    refine hK _ ?_
                    clear hK K
                    refine wpAnyZ_take 2 rfl (by kernel_rfl) (by kernel_rfl) (fun _ _ _ _ h => h) ⟨⟨_, hu0⟩, rfl⟩ (fun K hK => ?_)
                    go_simp
                    refine hK _ ?_
                    clear hK K
                    refine wpAnyZ_take 3 rfl (by kernel_rfl) (by kernel_rfl) (fun _ _ _ _ h => h) ⟨⟨_, hu0⟩, rfl⟩ (fun K hK => ?_)
                    go_simp
                    refine hK _ ?_
                    clear hK K
                    refine wpAnyZ_take 4 rfl (by kernel_rfl) (by kernel_rfl) (fun _ _ _ _ h => h) ⟨⟨_, hu0⟩, rfl⟩ (fun K hK => ?_)
                    go_simp
                    refine hK _ ?_
                    clear hK K
                    refine wpAnyZ_take 5 rfl (by kernel_rfl) (by kernel_rfl) (fun _ _ _ _ h => h) ⟨⟨_, hu0⟩, rfl⟩ (fun K hK => ?_)
                    go_simp
                    refine hK _ ?_
                    clear hK K
                    refine wpAnyZ_take 6 rfl (by kernel_rfl) (by kernel_rfl) (fun _ _ _ _ h => h) ⟨⟨_, hu0⟩, rfl⟩ (fun K hK => ?_)
                    go_simp
                    refine hK _ ?_
                    clear hK K
                    refine wpAnyZ_take 7 rfl (by kernel_rfl) (by kernel_rfl) (fun _ _ _ _ h => h) ⟨⟨_, hu0⟩, rfl⟩ (fun K hK => ?_)
                    go_simp
                    refine hK _ ?_
                    clear hK K
                    have AD := Lib.hid (A5.out.below (below_drewN' (Below.refl _ _) 1))
                    change wpAnyZ _ _ _ _ _ _ _ _ _ (w5.drewN 1)
                    have hu1 : ∀ p ∈ CL, (w5.drewN 1).cell? p.1 = some p.2 := hu0
                    clear A5 hu0
                    generalize w5.drewN 1 = w8 at *
                    have HBA : Hid (Below w8.heap.size w8 (w8.alloc (.cells (hdA ((⟨x, pa, pc⟩ : FdX), (n : Int))) 53))) := (Below.refl _ _).alloc (Nat.le_refl _) _
                    have A5 := Lib.hid (AD.out.below HBA.out)
                    have B5 : Hid (Blk (w8.alloc (.cells (hdA ((⟨x, pa, pc⟩ : FdX), (n : Int))) 53)) w8.heap.size (hdA ((⟨x, pa, pc⟩ : FdX), (n : Int))) 53) := blk_new _ _ _
                    have hu2 : ∀ p ∈ CL, (w8.alloc (.cells (hdA ((⟨x, pa, pc⟩ : FdX), (n : Int))) 53)).cell? p.1 = some p.2 := fun p hp => cell_below HBA.out (hu1 p hp)
                    unfold hdA hdC at A5 B5 hu2
                    refine wpAnyZ_one 8 rfl (by kernel_rfl) ?_
                    go_wp2
                    refine ⟨⟨⟨_, hu2⟩, rfl⟩, ?_⟩
                    refine wpAnyZ_one 9 rfl (by kernel_rfl) ?_
                    simp only [List.getElem_toArray, List.getElem_cons_succ, List.getElem_cons_zero]
                    refine app_hd rfl _ _ rfl w.heap.size _ H rfl A5.out.oH w8.heap.size (⟨x, pa, pc⟩, (n : Int)) rfl B5.out hlH A5.out.hb.size ?_
                    intro v' w6 hown hgrow
                    replace hown : w6.ownsRow w.heap.size 53 7 v' (H.length + 1) (hdCells (H ++ [((⟨x, pa, pc⟩ : FdX), (n : Int))])) := by rw [List.length_append] at hown; exact hown
                    have R6 := Lib.hid (A5.out.r.grown hgrow (owns_ne A5.out.oH A5.out.r (by decide)))
                    have A7 := Lib.hid (A5.out.addH (x := ((⟨x, pa, pc⟩ : FdX), (n : Int))) (by rw [List.length_append]; exact hown) hgrow (HPK0.out _))
                    have hu3 : ∀ p ∈ CL, w6.cell? p.1 = some p.2 := cl_grown hgrow (fun p hp e => by
                      rcases HBK.out p hp with h | h
                      · rw [h] at e; exact owns_ne A5.out.oH A5.out.r (by decide) e
                      · have := (A5.out.oH.lt _ e.symm).1; omega) hu2
                    obtain ⟨ap, cp, hvp⟩ := owns_slice hown
                    subst hvp
                    clear hown hgrow A5 B5 AD HBA hu2
                    have s0 : w6.cell? ⟨gr, 1, none⟩ = some (.slice ah H.length ch) := R6.out.cell 1 (by simp)
                    have f0 : w6.frozen? ⟨gr, 1, none⟩ = false := R6.out.free 1
                    refine wpList_hide (fun K hK => ?_)
                    go_simp
                    refine hK _ _ ?_
                    clear hK K
                    refine ⟨⟨⟨_, hu3⟩, rfl⟩, ?_⟩
                    refine wpAnyZ_one 10 rfl (by kernel_rfl) ?_
                    go_wp2
                    refine ⟨⟨⟨_, hu3⟩, rfl⟩, ?_⟩
                    refine wpAnyZ_last rfl (by kernel_rfl) ?_
                    go_wp2
                    refine wpAnyZ_done (by kernel_rfl) ?_ _
                    rw [set_row R6.out]
                    clear s0 f0 R6 hu1 hu3 hne k0 k1 k2 k3 k4 k5 k6
                    go_wp2
                    go_roundw
                    case rel => exact ⟨k + 1, _, _, O, H ++ [((⟨x, pa, pc⟩ : FdX), (n : Int))], by omega, by go_num, by rw [HU2.out]; exact A7.out, HO2.out, HH2.out⟩
                    case measure => simp [intOf]; omega
                · obtain rfl : k = l.length := by omega
                  rw [List.take_of_length_le (Nat.le_refl _)] at A0 HO HH
                  go_wp2
                  clear hk hlt
                  obtain ⟨wo4, rfl⟩ : ∃ wo4 : World, wo4 = wr := ⟨_, rfl⟩
                  go_loopw [15] (fun i wr => ∃ (k : Nat) (vU : Value) (U : List Nat), k ≤ notes.length ∧ i = .int .i64 k ∧ Hid (AS w wr gr gu vO vH vU O H U (usedOf notes l)) ∧ Hid (U = unusedTo notes l k)) (fun i _ => notes.length - (intOf i).toNat)
                  case atStart => exact ⟨0, _, [], Nat.zero_le _, rfl, A0.out, rfl⟩
                  case round =>
                    clear A0
                    obtain ⟨k, vU, U, hk, rfl, A0, HU⟩ := hrel
                    obtain ⟨ao, co, hvo⟩ := owns_slice A0.out.oO
                    obtain ⟨ah, ch, hvh⟩ := owns_slice A0.out.oH
                    obtain ⟨au, cu, hvu⟩ := owns_slice A0.out.oU
                    subst hvo hvh hvu
                    by_cases hlt : k < notes.length
                    · have hul := usedOf_len notes l
                      have hul2 : k < (usedOf notes l).length := by omega
                      have u0 : wr.cell? ⟨gu, k, none⟩ = some (.bool (hits notes l k)) := by
                        rw [A0.out.u.cell k (by simp; omega)]; simp [usedOf_get]
                      have HS := Lib.hid (unusedTo_succ notes l k)
                      have hlU : U.length ≤ 1000000 := by
                        have := unusedTo_le notes l k
                        rw [← HU.out] at this
                        omega
                      clear hul hul2
                      cases hh : hits notes l k
                      · rw [hh] at u0
                        rw [hh, if_neg (by simp), ← HU.out] at HS
                        clear hh
                        have r2 : wr.cell? ⟨gr, 2, none⟩ = some (.slice au U.length cu) := A0.out.r.cell 2 (by simp)
                        have A5 := Lib.hid (A0.out.below ((Below.refl _ _).alloc (Nat.le_refl _) (.cells #[.int .i64 (k : Int)] 3)))
                        have B5 : Hid (Blk (wr.alloc (.cells #[.int .i64 (k : Int)] 3)) wr.heap.size #[.int .i64 (k : Int)] 3) := blk_new _ _ _
                        go_wp2_with (at_builtin; refine app_in rfl _ _ rfl w.heap.size _ U rfl A5.out.oU wr.heap.size k rfl B5.out hlU A5.out.hb.size ?_)
                        intro v' w6 hown hgrow
                        have R6 := Lib.hid (A5.out.r.grown hgrow (owns_ne A5.out.oU A5.out.r (by decide)))
                        have A6 := Lib.hid (A5.out.addU (x := k) (by rw [List.length_append]; exact hown) hgrow)
                        obtain ⟨ap, cp, hvp⟩ := owns_slice hown
                        subst hvp
                        clear hown hgrow A5 B5 r2 u0
                        have r2 : w6.cell? ⟨gr, 2, none⟩ = some (.slice au U.length cu) := R6.out.cell 2 (by simp)
                        have f2 : w6.frozen? ⟨gr, 2, none⟩ = false := R6.out.free 2
                        go_wp2
                        rw [set_row R6.out]
                        clear r2 f2 R6
                        go_roundw
                        case rel => exact ⟨k + 1, _, U ++ [k], by omega, by go_num, A6.out, HS.out.symm⟩
                        case measure => simp [intOf]; omega
                      · rw [hh] at u0
                        rw [hh, if_pos rfl, ← HU.out] at HS
                        clear hh
                        go_wp2
                        go_roundw
                        case rel => exact ⟨k + 1, _, U, by omega, by go_num, A0.out, HS.out.symm⟩
                        case measure => simp [intOf]; omega
                    · obtain rfl : k = notes.length := by omega
                      have r0 : wr.cell? ⟨gr, 0, none⟩ = some (.slice ao O.length co) := A0.out.r.cell 0 (by simp)
                      have r1 : wr.cell? ⟨gr, 1, none⟩ = some (.slice ah H.length ch) := A0.out.r.cell 1 (by simp)
                      have r2 : wr.cell? ⟨gr, 2, none⟩ = some (.slice au U.length cu) := A0.out.r.cell 2 (by simp)
                      have S1 := Lib.hid ((L1.mk A0.out.hb A0.out.res).setRow #[.slice ao O.length co, .slice ah H.length ch, .slice au U.length cu])
                      have FIN := Lib.hid (A0.out.fin #[.slice ao O.length co, .slice ah H.length ch, .slice au U.length cu])
                      have HFD := Lib.hid (fds_of S1.out.1 FIN.out.1 FIN.out.2.2.2.1)
                      have HHD := Lib.hid (hids_of S1.out.1 FIN.out.2.1 FIN.out.2.2.2.2)
                      have HID := Lib.hid (ints_of FIN.out.2.2.1)
                      rw [HO.out] at HFD
                      rw [HH.out] at HHD
                      replace HID : Hid (IntsAt (wr.setRow w.heap.size #[.slice ao O.length co, .slice ah H.length ch, .slice au U.length cu]) au (unusedTo notes l notes.length)) := HU.out ▸ HID.out
                      have e1 : O.length = (openOf notes l).length := by rw [← HO.out, List.length_map]
                      have e2 : H.length = (hidOf notes l).length := by rw [← HH.out, List.length_map]
                      have e3 : U.length = (unusedTo notes l notes.length).length := by rw [HU.out]
                      have E1 := Lib.hid e1
                      have E2 := Lib.hid e2
                      have E3 := Lib.hid e3
                      clear e1 e2 e3
                      go_wp2_with (refine store46 rfl _ _ rfl w.heap.size _ _ _ _ _ _ _ _ _ rfl rfl _ A0.out.res rfl ?_)
                      refine bodyPost_ret (v := .tuple #[.agg #[.slice ao O.length co, .slice ah H.length ch, .slice au U.length cu], .int .i64 0]) (results_c2 Tryd.results20 _ _ w.heap.size _ _ _ rfl rfl S1.out.2 Tryd.underlying46 rfl (by kernel_rfl)) rfl ?_
                      refine ⟨S1.out.1, .inr ⟨HZ.out, hl1, hn1, ao, co, ah, ch, au, cu, by rw [E1.out, E2.out, E3.out], ?_, ?_, ?_⟩⟩
                      · exact HFD.out
                      · exact HHD.out
                      · exact HID.out
end Go.Proofs.YtpgmjfnjdgdmcaaDoor
