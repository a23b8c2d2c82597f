import Derived.Test.YtpgmjfnjdgdmcaaDoorP23
namespace Go.Proofs.YtpgmjfnjdgdmcaaDoor
open Go.RowKit Go.Sort

theorem neq_self (x : Int) : (x != x) = false := by simp
theorem neqs_self (x : List UInt8) : (x != x) = false := by simp
theorem eqs_self (x : List UInt8) : (x == x) = true := by simp
theorem goN_bad : ∀ (f : Nat) (acc : List Nt) (x : List UInt8) (ln e : Int), goN f acc x = .bad ln e → e ≠ 0
  | 0, _, _, _, _, h => by cases h
  | f + 1, acc, x, ln, e, h => by
    rw [goN] at h
    split at h
    · cases h
    split at h
    · simp only [Res.bad.injEq] at h; omega
    split at h
    · simp only [Res.bad.injEq] at h; omega
    split at h
    · rename_i hc
      simp only [Res.bad.injEq] at h
      exact h.2 ▸ hc
    · exact goN_bad f _ _ ln e h
theorem parse_bad {s : ByteArray} {ln e : Int} (h : parseN s = .bad ln e) : e ≠ 0 := by
  unfold parseN at h
  split at h
  · simp only [Res.bad.injEq] at h; omega
  · exact goN_bad _ _ _ ln e h
theorem nts_nil (w : World) (a : Option Addr) : NtsAt w a [] := fun k h => absurd h (by simp)

set_option maxRecDepth 100000 in
set_option maxHeartbeats 2000000 in
theorem back4 (l : List Nt) (a : Option Addr) (c : Nat) (ad : Addr) (m : Int) (w : World) (hk : KW w) (hm : w.cell? ⟨2, 0, none⟩ = some (.int .i64 m)) (hE : w.cell? ⟨0, 0, none⟩ = some (.iface 134 (.pointer (some ad)))) (hn : NtsAt w a l) (hw : ∀ n ∈ l, n.what.size ≤ 9223372036854775807) :
    Calls Tryd.prog 4 #[.slice a l.length c] w (Ret w (.bool true)) := by
  have HK := Lib.hid hk; clear hk
  have HM := Lib.hid hm; clear hm
  have HE := Lib.hid hE; clear hE
  have HN := Lib.hid hn; clear hn
  have HW := Lib.hid hw; clear hw
  by_cases hA : 250 < l.length
  · go_enter Tryd.func4, Tryd.ntmps4
    go_wp2_with fail
    refine (awake12 ad m _ HK.out HM.out HE.out).mono ?_
    rintro e w1 ⟨rfl, hb⟩
    have HB := Lib.hid hb; clear hb
    go_wp2
    go_ret
    exact ⟨rfl, HB.out⟩
  have hl : l.length ≤ 250 := by omega
  go_enter Tryd.func4, Tryd.ntmps4
  go_wp2_with fail
  refine (text13 l a c _ HN.out (by omega) HK.out).mono ?_
  rintro e w1 ⟨rfl, hb⟩
  have HB1 := Lib.hid hb; clear hb
  obtain ⟨tx, er, hv, hcase⟩ : ∃ tx er, textV l = .tuple #[.string tx, .int .i64 er] ∧ (er ≠ 0 ∨ er = 0 ∧ l.length ≤ 200 ∧ errN l = 0 ∧ tx = linesR l) := by
    unfold textV
    by_cases h1 : 200 < l.length
    · exact ⟨_, _, if_pos h1, .inl (by omega)⟩
    rw [if_neg h1]
    by_cases h2 : errN l = 0
    · exact ⟨_, _, if_neg (by simpa using h2), .inr ⟨rfl, by omega, h2, rfl⟩⟩
    · exact ⟨_, _, if_pos h2, .inl h2⟩
  have HV := Lib.hid hv; clear hv
  have HCASE := Lib.hid hcase; clear hcase
  rw [HV.out]
  go_wp2_with fail
  refine (text14 l a c _ (HN.out.below HB1.out) (by omega) HW.out).mono ?_
  rintro e w2 ⟨rfl, hb⟩
  have HB2 := Lib.hid (HB1.out.trans (hb.mono HB1.out.size)); clear hb HB1
  rw [HV.out]
  have e1 := neq_self er
  have e2 := neqs_self tx.toList
  rcases HCASE.out with he | ⟨rfl, hl2, h0, htx⟩
  · have e3 : (er != 0) = true := by simpa using he
    clear he
    go_wp2_with fail
    refine (awake12 ad m _ (HK.out.below HB2.out) (cell_below HB2.out HM.out) (cell_below HB2.out HE.out)).mono ?_
    rintro e w1 ⟨rfl, hb⟩
    have HB := Lib.hid (HB2.out.trans (hb.mono HB2.out.size)); clear hb
    go_wp2
    go_ret
    exact ⟨rfl, HB.out⟩
  by_cases hs : 65536 < tx.size
  · clear h0 htx
    go_wp2_with fail
    refine (awake12 ad m _ (HK.out.below HB2.out) (cell_below HB2.out HM.out) (cell_below HB2.out HE.out)).mono ?_
    rintro e w1 ⟨rfl, hb⟩
    have HB := Lib.hid (HB2.out.trans (hb.mono HB2.out.size)); clear hb
    go_wp2
    go_ret
    exact ⟨rfl, HB.out⟩
  have HP : Hid (parseN tx = .good l) := by
    show _ = _
    rw [htx] at hs ⊢
    exact text_parse hl2 h0 (by omega)
  clear h0 htx HCASE HV
  go_wp2_with fail
  refine (parse15 ad tx m w2 (HK.out.below HB2.out) (cell_below HB2.out HM.out) (cell_below HB2.out HE.out)).mono ?_
  rintro e w3 ⟨hb, hpost⟩
  rw [HP.out] at hpost
  obtain ⟨b, d, rfl, hat⟩ := hpost
  have HAT := Lib.hid hat; clear hat
  have HB3 := Lib.hid (HB2.out.trans (hb.mono HB2.out.size)); clear hb
  go_wp2_with fail
  refine (same16 l a c b d _ (HN.out.below HB3.out) HAT.out (by omega)).mono ?_
  rintro e w4 ⟨rfl, hb⟩
  have HB4 := Lib.hid (HB3.out.trans (hb.mono HB3.out.size)); clear hb
  go_wp2_with fail
  refine (awake12 ad m _ (HK.out.below HB4.out) (cell_below HB4.out HM.out) (cell_below HB4.out HE.out)).mono ?_
  rintro e w5 ⟨rfl, hb⟩
  have HB := Lib.hid (HB4.out.trans (hb.mono HB4.out.size)); clear hb
  go_wp2
  go_ret
  exact ⟨rfl, HB.out⟩

set_option maxRecDepth 100000 in
set_option maxHeartbeats 2000000 in
theorem parses5 (s : ByteArray) (ad : Addr) (m : Int) (w : World) (hk : KW w) (hm : w.cell? ⟨2, 0, none⟩ = some (.int .i64 m)) (hE : w.cell? ⟨0, 0, none⟩ = some (.iface 134 (.pointer (some ad)))) :
    Calls Tryd.prog 5 #[.string s] w (Ret w (.bool true)) := by
  have HK := Lib.hid hk; clear hk
  have HM := Lib.hid hm; clear hm
  have HE := Lib.hid hE; clear hE
  by_cases hA : 20000 < s.size
  · go_enter Tryd.func5, Tryd.ntmps5
    go_wp2_with fail
    refine (awake12 ad m _ HK.out HM.out HE.out).mono ?_
    rintro e w1 ⟨rfl, hb⟩
    have HB := Lib.hid hb; clear hb
    go_wp2
    go_ret
    exact ⟨rfl, HB.out⟩
  have hP17 : ∀ w, Calls Tryd.prog 17 #[.string s] w (PPost s w) := fun w => by
    have := parse17 s.data.toList w
    rwa [mkB_self] at this
  have HP17 := Lib.hid hP17; clear hP17
  go_enter Tryd.func5, Tryd.ntmps5
  go_wp2_with fail
  refine (parse15 ad s m w HK.out HM.out HE.out).mono ?_
  rintro e w1 ⟨hb, hpost⟩
  have HB1 := Lib.hid hb; clear hb
  cases hp : parseN s with
  | bad ln er =>
    rw [hp] at hpost
    obtain rfl := hpost
    have hne := parse_bad hp
    have e1 := neq_self er
    have e2 := neq_self ln
    have e3 : (er == 0) = false := by simpa using hne
    have HPN := Lib.hid hp; clear hp hne
    go_wp2_with fail
    refine (HP17.out _).mono ?_
    rintro e w2 ⟨hb, hpost⟩
    rw [HPN.out] at hpost
    obtain rfl := hpost
    have HB2 := Lib.hid (HB1.out.trans (hb.mono HB1.out.size)); clear hb
    go_wp2_with fail
    refine (same16 [] none 0 none 0 _ (nts_nil _ _) (nts_nil _ _) (by simp)).mono ?_
    rintro e w3 ⟨rfl, hb⟩
    have HB3 := Lib.hid (HB2.out.trans (hb.mono HB2.out.size)); clear hb
    go_wp2_with fail
    refine (awake12 ad m _ (HK.out.below HB3.out) (cell_below HB3.out HM.out) (cell_below HB3.out HE.out)).mono ?_
    rintro e w5 ⟨rfl, hb⟩
    have HB := Lib.hid (HB3.out.trans (hb.mono HB3.out.size)); clear hb
    go_wp2
    go_ret
    exact ⟨rfl, HB.out⟩
  | good l =>
    rw [hp] at hpost
    obtain ⟨a, c, rfl, hat⟩ := hpost
    have HAT := Lib.hid hat; clear hat
    obtain ⟨hl, h0, hR, _⟩ := parse_text hp
    have HV : Hid (textV l = .tuple #[.string s, .int .i64 0]) := by
      show _ = _
      unfold textV
      rw [if_neg (by omega), if_neg (by simpa using h0), hR]
    have HPN := Lib.hid hp; clear hp h0 hR
    go_wp2_with fail
    refine (HP17.out _).mono ?_
    rintro e w2 ⟨hb, hpost⟩
    rw [HPN.out] at hpost
    obtain ⟨b, d, rfl, hat⟩ := hpost
    have HAT1 := Lib.hid (HAT.out.below hb)
    have HAT2 := Lib.hid hat; clear hat
    have HB2 := Lib.hid (HB1.out.trans (hb.mono HB1.out.size)); clear hb
    go_wp2_with fail
    refine (same16 l a c b d _ HAT1.out HAT2.out (by omega)).mono ?_
    rintro e w3 ⟨rfl, hb⟩
    have HAT3 := Lib.hid (HAT1.out.below hb)
    have HB3 := Lib.hid (HB2.out.trans (hb.mono HB2.out.size)); clear hb
    go_wp2_with fail
    refine (text13 l a c _ HAT3.out (by omega) (HK.out.below HB3.out)).mono ?_
    rintro e w4 ⟨rfl, hb⟩
    have HB4 := Lib.hid (HB3.out.trans (hb.mono HB3.out.size)); clear hb
    rw [HV.out]
    have e2 := eqs_self s.toList
    go_wp2_with fail
    refine (awake12 ad m _ (HK.out.below HB4.out) (cell_below HB4.out HM.out) (cell_below HB4.out HE.out)).mono ?_
    rintro e w5 ⟨rfl, hb⟩
    have HB := Lib.hid (HB4.out.trans (hb.mono HB4.out.size)); clear hb
    go_wp2
    go_ret
    exact ⟨rfl, HB.out⟩
end Go.Proofs.YtpgmjfnjdgdmcaaDoor
