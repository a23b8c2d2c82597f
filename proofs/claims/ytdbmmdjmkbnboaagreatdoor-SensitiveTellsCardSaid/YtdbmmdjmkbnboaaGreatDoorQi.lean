/-
  The reference's Contexts.
-/
import Derived.Test.YtdbmmdjmkbnboaaGreatDoorQo
import Derived.Test.YtdbmmdjmkbnboaaGreatDoorQh
namespace Go.Proofs.YtdbmmdjmkbnboaaGreatDoor
open Go.RowKit Go.Unit0

theorem sl_same {D : List Sli} {c : List Int} {k : Nat} (h : ∀ j (hj : j < D.length), j < k → cmpL D[j].l c < 0) (hk : k < D.length) (e : D[k].l = c) : oPut ltL (D.map (·.l)) c = D.map (·.l) :=
  oPut_same ordL c _ k (fun j hj hjk => by simpa using h j (by simpa using hj) hjk) (by simpa using hk) (by simpa using e)
theorem sl_new {D : List Sli} (y : Sli) {k : Nat} (h : ∀ j (hj : j < D.length), j < k → cmpL D[j].l y.l < 0) (hk : k ≤ D.length) (hn : ∀ hk : k < D.length, ¬ cmpL D[k].l y.l < 0 ∧ D[k].l ≠ y.l) : oPut ltL (D.map (·.l)) y.l = (D.take k ++ [y] ++ D.drop k).map (·.l) := by
  rw [oPut_new y.l _ k (fun j hj hjk => by simpa using h j (by simpa using hj) hjk) (by simpa using hk) (fun hk => by simpa using hn (by simpa using hk))]
  simp
def ctxF (r : Ctr) (f : Int) (k : Nat) : List (List Int) := oPuts ltL [] (ctxQ r f k)
theorem ctxF_t {r : Ctr} {f : Int} {k : Nat} (hk : k < r.insts.length) (h : r.insts[k].fn = f) : ctxF r f (k + 1) = oPut ltL (ctxF r f k) r.insts[k].ctx := by
  unfold ctxF; rw [ctxQ_t hk h, oPuts_snoc]
theorem ctxF_f {r : Ctr} {f : Int} {k : Nat} (hk : k < r.insts.length) (h : ¬ r.insts[k].fn = f) : ctxF r f (k + 1) = ctxF r f k := by
  unfold ctxF; rw [ctxQ_f hk h]
theorem ctxF_len (r : Ctr) (f : Int) (k : Nat) : (ctxF r f k).length ≤ k := by
  have h1 := oPuts_len (lt := ltL) (ctxQ r f k) []
  have h2 := ctxQ_len r f k
  unfold ctxF
  simp at h1; omega
set_option maxRecDepth 100000 in
set_option maxHeartbeats 16000000 in
theorem contextsR23 (r : Ctr) (p : CP) (f : Int) (w : World) (h : CtrAt w p r) (hk : FewC r) :
    Calls Tryz.prog 11 #[ctV r p, .int .i64 f] w (RowsLie (ctxF r f r.insts.length) w) := by
  have S0 := Lib.hid (CB8.start h)
  have HM := Lib.hid h
  have HX := Lib.hid hk.ix
  have hi := hk.i
  have HT : Hid (∀ k (hk : k < r.insts.length), r.insts[k].fn = f → ctxF r f (k + 1) = oPut ltL (ctxF r f k) r.insts[k].ctx) := fun k hk e => ctxF_t hk e
  have HF : Hid (∀ k (hk : k < r.insts.length), ¬ r.insts[k].fn = f → ctxF r f (k + 1) = ctxF r f k) := fun k hk e => ctxF_f hk e
  have HL : Hid (∀ k, (ctxF r f k).length ≤ k) := fun k => ctxF_len r f k
  have H0 : Hid (ctxF r f 0 = []) := rfl
  clear h hk
  generalize ctxF r f = F at *
  unfold ctV
  go_enter Tryz.func11, Tryz.ntmps11
  go_upto_region 1 with (fail)
  generalize w.alloc _ = W at *
  go_wp2
  go_loopw [5, 6] (fun v i wr => ∃ (k : Nat) (D : List Sli) (oa : Option Addr) (oc : Nat), k ≤ r.insts.length ∧ v = .slice oa D.length oc ∧ i = .int .i64 k ∧ Hid (CB8 r p w wr) ∧ Hid (wr.ownsRow w.heap.size 38 1 (.slice oa D.length oc) D.length (D.map encS)) ∧ Hid (D.map (·.l) = F k) ∧ Hid (∀ x ∈ D, IntsAt w x.a x.l ∧ x.l.length ≤ 8000)) (fun _ i _ => r.insts.length - (intOf i).toNat)
  case atStart => exact ⟨0, [], none, 0, Nat.zero_le _, rfl, rfl, S0.out, World.ownsRow_nil _ _ _ _, by rw [H0.out]; rfl, fun x hx => by cases hx⟩
  case round =>
    clear S0 H0
    obtain ⟨k, D, oa, oc, hk, rfl, rfl, S, OW, HD, HI⟩ := hrel
    obtain ⟨z0, z1, z2⟩ := S.out.cells
    by_cases hlt : k < r.insts.length
    case neg =>
      obtain rfl : k = r.insts.length := by omega
      clear HT HF HL
      go_wp2
      go_ret
      rw [← HD.out]
      have ho := owns_slis' OW.out
      exact ⟨S.out.hb, oa, oc, by simp, by simpa using ho.1, rows_of ho.2 fun x hx => (HI.out x hx).1.below S.out.hb⟩
    have hdl : D.length ≤ 150 := by
      have h1 := HL.out k
      rw [← HD.out] at h1
      simp at h1; omega
    obtain ⟨b, off, ca, cc, he, c0, c1, hcx⟩ := HM.out.i k hlt
    replace c0 := cell_below S.out.hb c0
    replace c1 := cell_below S.out.hb c1
    rw [he] at z0
    have HTk := Lib.hid (HT.out k hlt)
    have HFk := Lib.hid (HF.out k hlt)
    have hxl := HX.out _ (List.getElem_mem hlt)
    have HCX := Lib.hid hcx
    clear hcx he HT HF HX HL
    generalize r.insts[k].fn = fn at *
    generalize r.insts[k].ctx = cx at *
    by_cases hf : fn = f
    case neg =>
      have HE := Lib.hid (HFk.out hf)
      clear HTk HFk
      go_wp2
      go_roundw
      case rel => exact ⟨k + 1, D, oa, oc, by omega, rfl, by go_num, S.out, OW.out, by rw [HE.out]; exact HD.out, HI.out⟩
      case measure => simp [intOf]; omega
    subst hf
    have HE := Lib.hid (HTk.out rfl)
    clear HTk HFk
    obtain ⟨wv, hwv⟩ : ∃ wv, wv = wr := ⟨_, rfl⟩
    subst hwv
    have HOC : Hid (∀ wx, Below wv.heap.size wv wx → D.length ≤ oc ∧ SlisAt wx oa D) := fun wx hx => ⟨(owns_slis' OW.out).1, (owns_slis' OW.out).2.below hx⟩
    have Z0 := Lib.hid z0
    have C1 := Lib.hid c1
    have HCM : Hid (∀ m (hm : m < D.length) wx, Below wv.heap.size wv wx → Calls Tryz.prog 27 #[.slice D[m].a D[m].l.length D[m].c, .slice ca cx.length cc] wx (Ret wx (.int .i64 (cmpL D[m].l cx)))) := fun m hm wx hx => by
      have hb := S.out.hb.trans (hx.mono S.out.hb.size)
      have h1 := HI.out _ (List.getElem_mem hm)
      exact compareR22 _ _ _ _ _ _ _ (h1.1.below hb) (HCX.out.below hb) (by omega) (by omega)
    go_upto_block 2 with (fail)
    clear z1 z2 z0 c0 c1
    go_cut [7] (fun v wx => ∃ m : Nat, m ≤ D.length ∧ v = .int .i64 m ∧ Hid (Below wv.heap.size wv wx) ∧ Hid (∀ j (hj : j < D.length), j < m → cmpL D[j].l cx < 0) ∧ Hid (∀ hm : m < D.length, ¬ cmpL D[m].l cx < 0))
    case first =>
      clear HE HD HI HM
      go_wp2
      go_loopw [7] (fun v wr => ∃ m : Nat, m ≤ D.length ∧ v = .int .i64 m ∧ Hid (Below wv.heap.size wv wr) ∧ Hid (∀ j (hj : j < D.length), j < m → cmpL D[j].l cx < 0)) (fun v _ => D.length - (intOf v).toNat)
      case atStart => exact ⟨0, Nat.zero_le _, rfl, Below.refl _ _, fun j _ h => absurd h (by omega)⟩
      case round =>
        obtain ⟨m, hm, rfl, HB, HJ⟩ := hrel
        have z0 := cell_below HB.out Z0.out
        have c1 := cell_below HB.out C1.out
        have hne : Nonempty (WB wr) := ⟨⟨wr, Below.refl _ _⟩⟩
        have k0 : ∀ o : WB wr, o.u.cell? ⟨w.heap.size, 0, none⟩ = some (.slice (some ⟨b, off, none⟩) r.insts.length p.ic) := fun o => cell_below o.h z0
        have k1 : ∀ o : WB wr, o.u.cell? ⟨b, off + k * 2 + 1, none⟩ = some (.slice ca cx.length cc) := fun o => cell_below o.h c1
        clear z0 c1
        by_cases hml : m < D.length
        case neg =>
          have HK : Hid (∀ hm : m < D.length, ¬ cmpL D[m].l cx < 0) := fun h => absurd h hml
          have t1 : decide ((m : Int) < (D.length : Int)) = false := by simp; omega
          go_upto_region 7 with (fail)
          refine wp_region_WB wr (by kernel_rfl) ?_
          repeat (go_big_quiet_step (fail))
          refine wpQuiet_nil ?_
          intro _ hw'
          obtain ⟨o, rfl⟩ := hw'
          have HB3 := Lib.hid (HB.out.trans (o.h.mono HB.out.size))
          clear k0 k1
          go_wp2
          go_meet
          exact ⟨m, hm, rfl, HB3.out, HJ.out, HK.out⟩
        have t1 : decide ((m : Int) < (D.length : Int)) = true := by simp; omega
        obtain ⟨ob, oo, heo, o0⟩ := (HOC.out wr HB.out).2 m hml
        have HCm : Hid (∀ o : WB wr, Calls Tryz.prog 27 #[.slice D[m].a D[m].l.length D[m].c, .slice ca cx.length cc] o.u (Ret o.u (.int .i64 (cmpL D[m].l cx)))) := fun o => HCM.out m hml o.u (HB.out.trans (o.h.mono HB.out.size))
        have HJN : Hid (cmpL D[m].l cx < 0 → ∀ j (hj : j < D.length), j < m + 1 → cmpL D[j].l cx < 0) := fun e j hj hjk => by
          by_cases e2 : j < m
          · exact HJ.out j hj e2
          · obtain rfl : j = m := by omega
            exact e
        have HKN : Hid (¬ cmpL D[m].l cx < 0 → ∀ hm : m < D.length, ¬ cmpL D[m].l cx < 0) := fun e _ => e
        unfold encS at o0
        subst heo
        generalize cmpL D[m].l cx = cv at *
        generalize D[m].a = da at *
        generalize D[m].l.length = dl at *
        generalize D[m].c = dc at *
        have k2 : ∀ o : WB wr, o.u.cell? ⟨ob, oo + m, none⟩ = some (.slice da dl dc) := fun o => cell_below o.h o0
        clear o0
        by_cases hcv : cv < 0
        · have t2 := decide_eq_true hcv
          have HJ2 := Lib.hid (HJN.out hcv)
          clear hcv HJN HKN HJ
          go_upto_region 7 with (fail)
          refine wp_region_WB wr (by kernel_rfl) ?_
          repeat (go_big_quiet_step ((rename_i o; exact (HCm.out o).mono (fun _ _ h => Ret.inB h))))
          refine wpQuiet_nil ?_
          intro _ hw'
          obtain ⟨o, rfl⟩ := hw'
          have HB3 := Lib.hid (HB.out.trans (o.h.mono HB.out.size))
          clear k0 k1 k2
          go_wp2
          go_roundw
          case rel => exact ⟨m + 1, by omega, by go_num, HB3.out, HJ2.out⟩
          case measure => simp [intOf]; omega
        · have t2 := decide_eq_false hcv
          have HK := Lib.hid (HKN.out hcv)
          clear hcv HJN HKN
          go_upto_region 7 with (fail)
          refine wp_region_WB wr (by kernel_rfl) ?_
          repeat (go_big_quiet_step ((rename_i o; exact (HCm.out o).mono (fun _ _ h => Ret.inB h))))
          refine wpQuiet_nil ?_
          intro _ hw'
          obtain ⟨o, rfl⟩ := hw'
          have HB3 := Lib.hid (HB.out.trans (o.h.mono HB.out.size))
          clear k0 k1 k2
          go_wp2
          go_meet
          exact ⟨m, hm, rfl, HB3.out, HJ.out, HK.out⟩
    case rest =>
      obtain ⟨wq, hwq⟩ : ∃ wq, wq = wc := ⟨_, rfl⟩
      subst hwq
      obtain ⟨m, hm, rfl, HB, HJ, HK⟩ := hcut
      have z0 := cell_below HB.out Z0.out
      have c1 := cell_below HB.out C1.out
      have hne : Nonempty (WB wq) := ⟨⟨wq, Below.refl _ _⟩⟩
      have k0 : ∀ o : WB wq, o.u.cell? ⟨w.heap.size, 0, none⟩ = some (.slice (some ⟨b, off, none⟩) r.insts.length p.ic) := fun o => cell_below o.h z0
      have k1 : ∀ o : WB wq, o.u.cell? ⟨b, off + k * 2 + 1, none⟩ = some (.slice ca cx.length cc) := fun o => cell_below o.h c1
      clear z0 c1
      by_cases hf : ∃ hml : m < D.length, D[m].l = cx
      case pos =>
        obtain ⟨hml, e1⟩ := hf
        have HE2 : Hid (F (k + 1) = D.map (·.l)) := by
          show _ = _
          rw [HE.out, ← HD.out]
          exact sl_same HJ.out hml e1
        have t1 : decide ((m : Int) < (D.length : Int)) = true := by simp; omega
        obtain ⟨ob, oo, heo, o0⟩ := (HOC.out wq HB.out).2 m hml
        have HCm : Hid (∀ o : WB wq, Calls Tryz.prog 27 #[.slice D[m].a D[m].l.length D[m].c, .slice ca cx.length cc] o.u (Ret o.u (.int .i64 0))) := fun o => by
          have := HCM.out m hml o.u (HB.out.trans (o.h.mono HB.out.size))
          rw [e1, cmpL_refl] at this
          rw [e1]
          exact this
        unfold encS at o0
        have hoa := heo
        rw [heo]
        generalize D[m].a = da at *
        generalize D[m].l.length = dl at *
        generalize D[m].c = dc at *
        have k2 : ∀ o : WB wq, o.u.cell? ⟨ob, oo + m, none⟩ = some (.slice da dl dc) := fun o => cell_below o.h o0
        clear o0 e1 HJ HK HCM
        go_upto_region 9 with (fail)
        refine wp_region_WB wq (by kernel_rfl) ?_
        repeat (go_big_quiet_step ((rename_i o; exact (HCm.out o).mono (fun _ _ h => Ret.inB h))))
        refine wpQuiet_nil ?_
        intro _ hw'
        obtain ⟨o, rfl⟩ := hw'
        have HB3 := Lib.hid (HB.out.trans (o.h.mono HB.out.size))
        clear k0 k1 k2
        have S3 := Lib.hid (S.out.below HB3.out)
        have O3 := Lib.hid (owns_below OW.out HB3.out)
        go_wp2
        go_roundw
        case rel => exact ⟨k + 1, D, oa, oc, by omega, by rw [hoa], by go_num, S3.out, O3.out, HE2.out.symm, HI.out⟩
        case measure => simp [intOf]; omega
      case neg =>
        have HE2 : Hid (F (k + 1) = (D.take m ++ [(⟨ca, cc, cx⟩ : Sli)] ++ D.drop m).map (·.l)) := by
          show _ = _
          rw [HE.out, ← HD.out]
          exact sl_new ⟨ca, cc, cx⟩ HJ.out hm fun h => ⟨HK.out h, fun e => hf ⟨h, e⟩⟩
        go_upto_region 9 with (fail)
        go_cut [61] (fun v wx => v = .bool false ∧ Hid (Below wq.heap.size wq wx))
        case first =>
          clear HE HE2 HD HI HM
          by_cases hml : m < D.length
          · have t1 : decide ((m : Int) < (D.length : Int)) = true := by simp; omega
            obtain ⟨ob, oo, heo, o0⟩ := (HOC.out wq HB.out).2 m hml
            have HCm : Hid (∀ o : WB wq, Calls Tryz.prog 27 #[.slice D[m].a D[m].l.length D[m].c, .slice ca cx.length cc] o.u (Ret o.u (.int .i64 (cmpL D[m].l cx)))) := fun o => HCM.out m hml o.u (HB.out.trans (o.h.mono HB.out.size))
            have t2 : (cmpL D[m].l cx == 0) = false := beq_eq_false_iff_ne.2 (fun e => hf ⟨hml, cmpL_eq e⟩)
            unfold encS at o0
            subst heo
            clear hf HCM HOC HJ HK
            generalize cmpL D[m].l cx = cv at *
            generalize D[m].a = da at *
            generalize D[m].l.length = dl at *
            generalize D[m].c = dc at *
            have k2 : ∀ o : WB wq, o.u.cell? ⟨ob, oo + m, none⟩ = some (.slice da dl dc) := fun o => cell_below o.h o0
            clear o0
            refine wp_region_WB wq (by kernel_rfl) ?_
            repeat (go_big_quiet_step ((rename_i o; exact (HCm.out o).mono (fun _ _ h => Ret.inB h))))
            refine wpQuiet_nil ?_
            intro _ hw'
            obtain ⟨o, rfl⟩ := hw'
            have HB3 := Lib.hid o.h
            clear k0 k1 k2
            go_wp2
            go_meet
            exact ⟨rfl, HB3.out⟩
          · have t1 : decide ((m : Int) < (D.length : Int)) = false := by simp; omega
            clear hf
            refine wp_region_WB wq (by kernel_rfl) ?_
            repeat (go_big_quiet_step (fail))
            refine wpQuiet_nil ?_
            intro _ hw'
            obtain ⟨o, rfl⟩ := hw'
            have HB3 := Lib.hid o.h
            clear k0 k1
            go_wp2
            go_meet
            exact ⟨rfl, HB3.out⟩
        case rest =>
          obtain ⟨rfl, HB2⟩ := hcut
          have HBw := Lib.hid (HB.out.trans (HB2.out.mono HB.out.size))
          have S2 := Lib.hid (S.out.below HBw.out)
          have A2 := Lib.hid (HOC.out wc HBw.out)
          have z0 := cell_below HBw.out Z0.out
          have c1 := cell_below HBw.out C1.out
          clear hf HJ HK HCM HB HB2 HBw k0 k1 hne S OW HOC HE HM HD Z0 C1
          obtain ⟨m1, m2, hl12, hk1⟩ : ∃ m1 m2 : List Sli, D = m1 ++ m2 ∧ m = m1.length := ⟨D.take m, D.drop m, (List.take_append_drop m D).symm, by simp; omega⟩
          subst hk1
          have HR : Hid (F (k + 1) = (m1 ++ [(⟨ca, cc, cx⟩ : Sli)] ++ m2).map (·.l)) := by
            show _ = _
            rw [HE2.out, hl12, List.take_left' rfl, List.drop_left' rfl]
          have HIN : Hid (∀ x ∈ m1 ++ [(⟨ca, cc, cx⟩ : Sli)] ++ m2, IntsAt w x.a x.l ∧ x.l.length ≤ 8000) := fun x hx => by
            rcases List.mem_append.1 hx with hx | hx
            · rcases List.mem_append.1 hx with hx | hx
              · exact HI.out x (by rw [hl12]; exact List.mem_append_left _ hx)
              · rw [List.mem_singleton.1 hx]; exact ⟨HCX.out, hxl⟩
            · exact HI.out x (by rw [hl12]; exact List.mem_append_right _ hx)
          have HLN : Hid (D.length = m1.length + m2.length) := by show _ = _; rw [hl12, List.length_append]
          have hm1 : m1.length ≤ 1000000 := by have := HLN.out; omega
          have hm2 : m2.length ≤ 1000000 := by have := HLN.out; omega
          have HA1 : Hid (∀ wx, SlisAt wx oa D → SlisAt wx oa m1) := fun wx h => by
            have := slisAt_take h m1.length
            rw [hl12, List.take_left' rfl] at this
            exact this
          obtain ⟨a2, hsl, hdr⟩ := slLo oa D.length oc m1.length hm A2.out.1
          have HA2 : Hid (∀ wx, SlisAt wx oa D → SlisAt wx a2 m2) := fun wx h => by
            have := hdr wx D rfl h
            rw [hl12, List.drop_left' rfl] at this
            exact this
          have hd : D.length - m1.length = m2.length := by have := HLN.out; omega
          rw [hd] at hsl
          have hs1 := slHi oa D.length oc m1.length (by have := A2.out.1; omega)
          clear hdr hd hl12 HE2 HI HCX
          have OA : Hid (wc.ownsRow wc.heap.size 38 1 (.slice none 0 0) ([] : List Sli).length (([] : List Sli).map encS)) := World.ownsRow_nil _ _ _ _
          have AT := Lib.hid (HA1.out _ A2.out.2)
          have h01 : ([] : List Sli).length ≤ 1000000 := by simp
          go_upto_region 12 with (at_builtin; refine app_slis rfl _ _ rfl wc.heap.size _ [] rfl OA.out oa oc m1 rfl AT.out h01 hm1 (Nat.le_refl _) ?_; intro v3 w3 own3 hg3)
          rw [List.nil_append] at own3
          obtain ⟨-, oa3, oc3, rfl, -, -⟩ := owns_slis own3
          have S3 := Lib.hid (grow_below (Below.refl wc.heap.size wc) OA.out hg3)
          have O3 := Lib.hid own3
          clear own3 hg3 OA AT hs1
          replace z0 := cell_below S3.out z0
          replace c1 := cell_below S3.out c1
          have O4 := Lib.hid (owns_below O3.out (one_below w3 (.cells #[.slice ca cx.length cc] 38)))
          have B4 : Hid (Blk (w3.alloc (.cells #[.slice ca cx.length cc] 38)) w3.heap.size #[encS ⟨ca, cc, cx⟩] 38) := blk_new ..
          have S4 := Lib.hid (S3.out.trans ((one_below w3 (.cells #[.slice ca cx.length cc] 38)).mono S3.out.size))
          have hb4 := S4.out.size
          go_upto_region 13 with (at_builtin; refine app_sl1 rfl _ _ rfl wc.heap.size _ m1 rfl O4.out w3.heap.size ⟨ca, cc, cx⟩ rfl B4.out hm1 hb4 ?_; intro v5 w5 own5 hg5)
          have H5 := Lib.hid (grow_below S4.out O4.out hg5)
          obtain ⟨-, oa5, oc5, rfl, -, -⟩ := owns_slis own5
          have O5 := Lib.hid own5
          clear own5 hg5 S4 B4 O4 O3 S3 z0 c1
          have AT5 := Lib.hid (HA2.out _ (A2.out.2.below H5.out))
          have hb5 := H5.out.size
          have h04 : (m1 ++ [(⟨ca, cc, cx⟩ : Sli)]).length ≤ 1000000 := by have := HLN.out; simp; omega
          go_wp2_with (at_builtin; refine app_slis rfl _ _ rfl wc.heap.size _ (m1 ++ [(⟨ca, cc, cx⟩ : Sli)]) rfl O5.out a2 (oc - m1.length) m2 rfl AT5.out h04 hm2 hb5 ?_; intro v7 w7 own7 hg7)
          have H7 := Lib.hid (grow_below H5.out O5.out hg7)
          obtain ⟨-, oa7, oc7, rfl, -, -⟩ := owns_slis own7
          have S7 := Lib.hid (S2.out.below H7.out)
          have O7 := Lib.hid (owns_mono own7 S2.out.hb.size)
          clear own7 hg7 O5 AT5 H5 H7 hsl
          go_wp2
          go_roundw
          case rel => exact ⟨k + 1, m1 ++ [(⟨ca, cc, cx⟩ : Sli)] ++ m2, oa7, oc7, by omega, rfl, by go_num, S7.out, O7.out, HR.out.symm, HIN.out⟩
          case measure => simp [intOf]; omega
end Go.Proofs.YtdbmmdjmkbnboaaGreatDoor
