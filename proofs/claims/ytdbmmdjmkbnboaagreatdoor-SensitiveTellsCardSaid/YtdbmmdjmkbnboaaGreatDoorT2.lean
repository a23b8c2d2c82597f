/-
  pack(of, ctx), as the evaluator takes it.
-/
import Derived.Test.YtdbmmdjmkbnboaaGreatDoorT1
import Derived.Test.YtdbmmdjmkbnboaaGreatDoorLive0
import Derived.Test.YtdbmmdjmkbnboaaGreatDoorLift
namespace Go.Proofs.YtdbmmdjmkbnboaaGreatDoor
open Go Go.AM Go.RowKit
theorem packPrim_ok (hen : ∀ args w, (callFunc 95 args).run Tryz.prog w = .ok (.enter 95 args) w) (B : Bds) : CallOk1 Tryz.prog B 95 packPrim := by
  intro xs st outs E w args h hs hB hl
  refine ⟨hen _ _, ?_⟩
  unfold packPrim at h
  obtain ⟨x, m, rfl, h⟩ := asC_inv h
  obtain ⟨y, m2, rfl, h⟩ := asC_inv (show asC m _ = some outs from h)
  obtain ⟨h0, h⟩ := must_inv h
  obtain rfl := isNl_eq h0
  obtain ⟨q0, n0, rfl, h⟩ := asI_inv h
  obtain ⟨h0, h⟩ := must_inv h
  obtain rfl := eqk_eq h0
  simp only [LRel] at hl
  obtain ⟨v, _, rfl, hv, v2, _, rfl, hv2, rfl⟩ := hl
  have hv : v = .int .i64 n0 := by simpa only [VRel] using hv
  subst hv
  have fin : ∀ (l : List Int) (a : Option Addr) (c : Nat), v2 = .slice a l.length c → IntsAt w a l → l.length ≤ 2 → outs = [(.a (.cn (.i .i64 n0) (.cn (.i .i64 (.ofNat l.length)) (.cn (.i .i64 (l.getD 0 0)) (.cn (.i .i64 (l.getD 1 0)) .nl)))), st)] →
      Calls Tryz.prog 95 #[.int .i64 n0, v2] w (AM.Ends B E w outs) := by
    rintro l a c rfl hat h2 rfl
    refine (pack95 n0 l a c w hat h2).mono ?_
    rintro e w' ⟨rfl, hb⟩
    refine ⟨_, _, st, E, rfl, List.mem_singleton.2 rfl, Env'.le_refl E, hs.below hb, ?_, ⟨hb.os, hb.tape, hb.output, hb.size, fun k hk => hb.block k (hB.lt k hk)⟩⟩
    unfold keyOf key0
    simp only [VRel, LRel]
    exact ⟨_, rfl, _, _, rfl, rfl, _, _, rfl, rfl, _, _, rfl, rfl, _, _, rfl, rfl, rfl⟩
  rcases asL_inv h with ⟨rfl, h⟩ | ⟨rs, o, n, rfl, h⟩
  · simp only [VRel] at hv2
    cases h
    exact fin [] none 0 hv2 (fun k hk => absurd hk (by simp)) (by simp) rfl
  · obtain ⟨b2, k2, e, sz, len, els, h, hq, hvia⟩ := obW_inv h
    obtain ⟨hc, g1⟩ := must_inv h
    clear h
    rw [Bool.and_eq_true] at hc
    obtain rfl := Nat.eq_of_beq_eq_true hc.1
    have h := g1
    clear g1
    have hlen : k2 + o + n ≤ len := Nat.le_of_ble_eq_true hc.2
    rw [seqN_eq] at h
    obtain ⟨l2, off, c, hE, ho, hsz, hcap, hoff, rfl, hnc⟩ := hs.view hv2 hvia hq
    obtain ⟨cc, fr, hh, _, _, ⟨hlc, hl5⟩, _, hel⟩ := ho
    have one : ∀ j, j < n → ∀ z, T.get (pth (k2 + o + j)) els = some (.i .i64 z) → ∃ b off', (some ⟨l2.blk, off, none⟩ : Option Addr) = some ⟨b, off', none⟩ ∧ w.cell? ⟨b, off' + j, none⟩ = some (.int .i64 z) := fun j hj z hz => by
      obtain ⟨lv, h1, h2, h3⟩ := hel (k2 + o + j) (by omega) _ hz
      rcases h2 with ⟨_, he, _⟩ | ⟨_, v, rfl, hv⟩
      · cases he
      have hv : v = .int .i64 z := by simpa only [VRel] using hv
      subst hv
      refine ⟨l2.blk, off, rfl, ?_⟩
      rw [cell_of_row _ _ _ _ _ _ hh, hoff (by omega)]
      have := h3 0 (by omega)
      simpa [Nat.add_assoc] using this
    have e0 : Nat.add k2 o = k2 + o := rfl
    unfold pad2 at h
    rw [e0] at h
    rcases iff_inv h with ⟨hn0, h⟩ | ⟨_, h⟩
    · obtain rfl := Nat.eq_of_beq_eq_true hn0
      obtain ⟨qa, na, e1, h⟩ := asI_inv h
      obtain ⟨_, h⟩ := must_inv h
      obtain ⟨qb, nb, e2, h⟩ := asI_inv h
      obtain ⟨_, h⟩ := must_inv h
      cases e1
      cases e2
      cases h
      exact fin [] _ c rfl (fun k hk => absurd hk (by simp)) (by simp) rfl
    rcases iff_inv h with ⟨hn1, h⟩ | ⟨_, h⟩
    · obtain rfl := Nat.eq_of_beq_eq_true hn1
      obtain ⟨x1, hx1, h⟩ := el_inv h
      obtain ⟨qa, na, rfl, h⟩ := asI_inv h
      obtain ⟨h0, h⟩ := must_inv h
      obtain rfl := eqk_eq h0
      obtain ⟨qb, nb, e2, h⟩ := asI_inv h
      obtain ⟨_, h⟩ := must_inv h
      cases e2
      cases h
      refine fin [na] _ c rfl (fun k hk => ?_) (by simp) rfl
      obtain rfl : k = 0 := by simpa using hk
      exact one 0 (by omega) na hx1
    · obtain ⟨hn2, h⟩ := must_inv h
      obtain rfl := Nat.eq_of_beq_eq_true hn2
      obtain ⟨x1, hx1, h⟩ := el_inv h
      obtain ⟨x2, hx2, h⟩ := el_inv h
      obtain ⟨qa, na, rfl, h⟩ := asI_inv h
      obtain ⟨h0, h⟩ := must_inv h
      obtain rfl := eqk_eq h0
      obtain ⟨qb, nb, rfl, h⟩ := asI_inv h
      obtain ⟨h0, h⟩ := must_inv h
      obtain rfl := eqk_eq h0
      cases h
      refine fin [na, nb] _ c rfl (fun k hk => ?_) (by simp) rfl
      have hk : k < 2 := by simpa using hk
      have : k = 0 ∨ k = 1 := by omega
      rcases this with rfl | rfl
      · exact one 0 (by omega) na hx1
      · exact one 1 (by omega) nb hx2
end Go.Proofs.YtdbmmdjmkbnboaaGreatDoor
