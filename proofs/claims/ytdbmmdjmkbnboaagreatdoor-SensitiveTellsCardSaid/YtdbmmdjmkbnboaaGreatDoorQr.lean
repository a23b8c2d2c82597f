/-
  The reference's Of.
-/
import Derived.Test.YtdbmmdjmkbnboaaGreatDoorQg
namespace Go.Proofs.YtdbmmdjmkbnboaaGreatDoor
open Go.RowKit Go.Unit0

theorem iPuts_len (a b : List Int) : (iPuts a b).length ≤ a.length + b.length := oPuts_len b a
set_option maxRecDepth 100000 in
set_option maxHeartbeats 16000000 in
theorem ofR23 (r : Ctr) (p : CP) (f v : Int) (w : World) (h : CtrAt w p r) (hk : FewC r) :
    Calls Tryz.prog 14 #[ctV r p, .int .i64 f, .int .i64 v] w (IntsLie (iPuts [] (ofQ r f v r.vars.length)) w) := by
  have S0 := Lib.hid (CB8.start h)
  have HM := Lib.hid h
  have hv := hk.v
  have HL : Hid (∀ k, (iPuts [] (ofQ r f v k)).length ≤ 8000) := fun k => by
    have h0 := iPuts_len [] (ofQ r f v k)
    have h1 := ofQ_len r f v k
    have h2 := sumR_le r.vars k
    have h3 := hk.vr
    simp at h0; omega
  have HRL : Hid (∀ k (hk : k < r.vars.length), r.vars[k].refs.length ≤ 8000) := fun k hlt => by
    have h1 := sumR_snoc hlt
    have h2 := sumR_le r.vars (k + 1)
    have h3 := hk.vr
    omega
  have HT : Hid (∀ k (hk : k < r.vars.length), r.vars[k].inn.fn = f ∧ r.vars[k].var = v → iPuts [] (ofQ r f v (k + 1)) = iPuts (iPuts [] (ofQ r f v k)) (r.vars[k].refs.map (·.fn))) := fun k hk e => by rw [ofQ_succ hk, refL, if_pos e]; exact oPuts_app _ _ _
  have HF : Hid (∀ k (hk : k < r.vars.length), ¬ (r.vars[k].inn.fn = f ∧ r.vars[k].var = v) → iPuts [] (ofQ r f v (k + 1)) = iPuts [] (ofQ r f v k)) := fun k hk e => by rw [ofQ_succ hk, refL, if_neg e, List.append_nil]
  have H0 : Hid (iPuts [] (ofQ r f v 0) = []) := rfl
  have HIN : Hid (∀ (l : List Int) (x : Int) (la : Option Addr) (lc : Nat) (w : World), IntsAt w la l → l.length ≤ lc → l.length ≤ 900000 → Calls Tryz.prog 30 #[.slice la l.length lc, .int .i64 x] w (IntsLie (iPut l x) w)) := fun l x la lc w h1 h2 h3 => insertR23 l x la lc w h1 h2 h3
  clear h hk
  obtain ⟨G, hG⟩ : ∃ G : Nat → List Int, G = fun k => iPuts [] (ofQ r f v k) := ⟨_, rfl⟩
  have HG : Hid (∀ k, iPuts [] (ofQ r f v k) = G k) := fun k => by rw [hG]
  clear hG
  simp only [HG.out] at HL HT HF H0
  rw [HG.out]
  clear HG
  unfold ctV
  go_enter Tryz.func14, Tryz.ntmps14
  go_upto_region 1 with (fail)
  generalize w.alloc _ = W at *
  go_wp2
  go_loopw [7, 8] (fun s i wr => ∃ (k : Nat) (oa : Option Addr) (oc : Nat), k ≤ r.vars.length ∧ s = .slice oa (G k).length oc ∧ i = .int .i64 k ∧ Hid (CB8 r p w wr) ∧ Hid ((G k).length ≤ oc ∧ IntsAt wr oa (G k))) (fun _ i _ => r.vars.length - (intOf i).toNat)
  case atStart => exact ⟨0, none, 0, Nat.zero_le _, by rw [H0.out]; rfl, rfl, S0.out, by rw [H0.out]; exact ⟨Nat.le_refl _, fun k hk => by simp at hk⟩⟩
  case round =>
    clear S0 H0
    obtain ⟨k, oa, oc, hk, rfl, rfl, S, OW⟩ := hrel
    obtain ⟨z0, z1, z2⟩ := S.out.cells
    by_cases hlt : k < r.vars.length
    case neg =>
      obtain rfl : k = r.vars.length := by omega
      clear HT HF HRL HL HIN
      go_wp2
      go_ret
      exact ⟨S.out.hb, oa, oc, rfl, OW.out.1, OW.out.2⟩
    obtain ⟨b, off, ca, cc, ra, rc, he, c0, c1, c2, c3, hrf⟩ := HM.out.v k hlt
    rw [he] at z2
    have Z2 := Lib.hid (cell_below S.out.hb c3)
    have C3 := Lib.hid c3
    replace c0 := cell_below S.out.hb c0
    replace c2 := cell_below S.out.hb c2
    replace c3 := cell_below S.out.hb c3
    have HTk := Lib.hid (HT.out k hlt)
    have HFk := Lib.hid (HF.out k hlt)
    have HLk := HL.out k
    have hrl := HRL.out k hlt
    have HRF := Lib.hid hrf
    have HPA := Lib.hid he
    clear hrf he Z2 HT HF HRL HL c1
    generalize r.vars[k].inn.fn = fn at *
    generalize r.vars[k].var = vr at *
    generalize r.vars[k].refs = L at *
    by_cases hm : fn = f ∧ vr = v
    case neg =>
      have HE := Lib.hid (HFk.out hm)
      by_cases hf : fn = f
      · subst hf
        have t2 : ¬ vr = v := fun e => hm ⟨rfl, e⟩
        clear hm HTk HFk
        go_wp2
        go_roundw
        case rel => exact ⟨k + 1, oa, oc, by omega, by rw [HE.out], by go_num, S.out, by rw [HE.out]; exact OW.out⟩
        case measure => simp [intOf]; omega
      · clear hm HTk HFk
        go_wp2
        go_roundw
        case rel => exact ⟨k + 1, oa, oc, by omega, by rw [HE.out], by go_num, S.out, by rw [HE.out]; exact OW.out⟩
        case measure => simp [intOf]; omega
    have HE := Lib.hid (HTk.out hm)
    obtain ⟨rfl, rfl⟩ := hm
    clear HTk HFk
    go_wp2
    clear z0 z1 z2 c0 c2 c3
    obtain ⟨PF, hPF⟩ : ∃ PF : Nat → List Int, PF = fun j => iPuts (G k) ((L.take j).map (·.fn)) := ⟨_, rfl⟩
    have P0 : Hid (PF 0 = G k) := by show _ = _; rw [hPF]; rfl
    have PS : Hid (∀ j (hj : j < L.length), PF (j + 1) = iPut (PF j) L[j].fn) := fun j hj => by
      rw [hPF]
      show iPuts (G k) _ = _
      rw [List.take_succ_eq_append_getElem hj, List.map_append]
      exact oPuts_snoc _ _ _
    have PE : Hid (PF L.length = G (k + 1)) := by show _ = _; rw [hPF, HE.out]; simp
    have PL : Hid (∀ j, (PF j).length ≤ 16000) := fun j => by
      rw [hPF]
      have := iPuts_len (G k) ((L.take j).map (·.fn))
      show (iPuts (G k) _).length ≤ _
      simp at this ⊢; omega
    clear hPF HE
    go_loopw [7, 9] (fun s i wr => ∃ (j : Nat) (oa : Option Addr) (oc : Nat), j ≤ L.length ∧ s = .slice oa (PF j).length oc ∧ i = .int .i64 j ∧ Hid (CB8 r p w wr) ∧ Hid ((PF j).length ≤ oc ∧ IntsAt wr oa (PF j))) (fun _ i _ => L.length - (intOf i).toNat)
    case atStart => exact ⟨0, oa, oc, Nat.zero_le _, by rw [P0.out], rfl, S.out, by rw [P0.out]; exact OW.out⟩
    case round =>
      clear S OW P0
      obtain ⟨j, oa, oc, hj, rfl, rfl, S, OW⟩ := hrel
      obtain ⟨z0, z1, z2⟩ := S.out.cells
      rw [HPA.out] at z2
      have c3 := cell_below S.out.hb C3.out
      by_cases hjl : j < L.length
      case neg =>
        obtain rfl : j = L.length := by omega
        rw [PE.out] at OW
        rw [PE.out]
        go_wp2
        go_roundw
        case rel => exact ⟨k + 1, oa, oc, by omega, rfl, by go_num, S.out, OW.out⟩
        case measure => simp [intOf]; omega
      obtain ⟨b3, off3, ca3, cc3, he3, d0, -, -⟩ := HRF.out.below S.out.hb j hjl
      have PSj := Lib.hid (PS.out j hjl)
      have hpl := PL.out j
      rw [he3] at c3
      generalize L[j].fn = st at *
      have HIj : Hid (Calls Tryz.prog 30 #[.slice oa (PF j).length oc, .int .i64 st] wr (IntsLie (iPut (PF j) st) wr)) := HIN.out (PF j) st oa oc wr OW.out.2 OW.out.1 (by omega)
      rw [← PSj.out] at HIj
      go_wp2_with (go_at_call 30; refine HIj.out.mono ?_; rintro e w2 ⟨hb2, qa, qc, rfl, hq, hat⟩)
      have S2 := Lib.hid (S.out.below hb2)
      have O2 : Hid ((PF (j + 1)).length ≤ qc ∧ IntsAt w2 qa (PF (j + 1))) := ⟨hq, hat⟩
      clear hb2 hq hat S OW HIj PSj z0 z1 z2 c3 d0
      go_roundw
      case rel => exact ⟨j + 1, qa, qc, by omega, rfl, by go_num, S2.out, O2.out⟩
      case measure => simp [intOf]; omega
end Go.Proofs.YtdbmmdjmkbnboaaGreatDoor
