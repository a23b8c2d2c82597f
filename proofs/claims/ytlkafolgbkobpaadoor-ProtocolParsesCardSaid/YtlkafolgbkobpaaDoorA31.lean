import Derived.Test.YtlkafolgbkobpaaDoorA30
namespace Go.Proofs.YtlkafolgbkobpaaDoor
open Go.RowKit Go.Sort

theorem neq_self (x : Int) : (x != x) = false := by simp
theorem neqs_self (x : List UInt8) : (x != x) = false := by simp
theorem fin_bad {st : PSt} {n : Nat} {r : List UInt8} {l e : Int} (h : finP st n r = .bad l e) : e ≠ 0 := by
  unfold finP at h
  split at h
  · simp only [Res.bad.injEq] at h; omega
  split at h
  · simp only [Res.bad.injEq] at h; omega
  split at h
  · rename_i hc
    simp only [Res.bad.injEq] at h
    exact h.2 ▸ hc
  · cases h
theorem go_bad : ∀ (ls : List (List UInt8)) (st : PSt) (n : Nat) (l e : Int), goP st n ls = .bad l e → e ≠ 0
  | [], _, _, _, _, h => fin_bad h
  | [_], _, _, _, _, h => fin_bad h
  | x :: y :: ls, st, n, l, e, h => by
    simp only [goP] at h
    split at h
    · exact go_bad (y :: ls) _ _ l e h
    · rename_i hc
      simp only [Res.bad.injEq] at h
      exact h.2 ▸ hc
theorem parse_bad {s : ByteArray} {l e : Int} (h : parseT s = .bad l e) : e ≠ 0 := by
  unfold parseT at h
  split at h
  · simp only [Res.bad.injEq] at h; omega
  · exact go_bad _ _ _ l e h
theorem box_of {W : World} {g : Nat} {p : Pr} {a1 : Option Addr} {c1 : Nat} {a2 : Option Addr} {c2 : Nat} {t : TypeId} (h : Blk W g #[.string p.cls, .slice a1 p.sts.length c1, .int .i64 p.start, .int .i64 p.err, .slice a2 p.mvs.length c2] t) : Box W g p a1 c1 a2 c2 :=
  ⟨h.cell 0 (by simp), h.cell 1 (by simp), h.cell 2 (by simp), h.cell 3 (by simp), h.cell 4 (by simp)⟩
set_option maxRecDepth 100000 in
set_option maxHeartbeats 2000000 in
theorem back6 (p : Pr) (a1 : Option Addr) (c1 : Nat) (a2 : Option Addr) (c2 : Nat) (m : Int) (w : World) (hk : KW w) (hmc : w.cell? ⟨1, 0, none⟩ = some (.int .i64 m)) (hs : StrsAt w a1 p.sts) (hm : MvsAt w a2 p.mvs) (hc : p.sts.length ≤ c1) :
    Calls Tryd.prog 6 #[PrV p a1 c1 a2 c2] w (Ret w (.bool true)) := by
  unfold PrV
  have HK := Lib.hid hk; clear hk
  have HS := Lib.hid hs; clear hs
  have HM := Lib.hid hm; clear hm
  have HMC := Lib.hid hmc; clear hmc
  have HB0 := Lib.hid ((Below.refl w.heap.size w).alloc (Nat.le_refl _) (.cells #[.string p.cls, .slice a1 p.sts.length c1, .int .i64 p.start, .int .i64 p.err, .slice a2 p.mvs.length c2] 25))
  by_cases hA : 100 < p.sts.length
  · go_enter Tryd.func6, Tryd.ntmps6
    go_wp2_with fail
    refine (awake8 _ (HK.out.below HB0.out)).mono ?_
    rintro e w1 ⟨rfl, hb⟩
    have HB := Lib.hid (HB0.out.trans (hb.mono (by simp))); clear hb
    go_wp2
    go_ret
    exact ⟨rfl, HB.out⟩
  by_cases hB : 400 < p.mvs.length
  · go_enter Tryd.func6, Tryd.ntmps6
    go_wp2_with fail
    refine (awake8 _ (HK.out.below HB0.out)).mono ?_
    rintro e w1 ⟨rfl, hb⟩
    have HB := Lib.hid (HB0.out.trans (hb.mono (by simp))); clear hb
    go_wp2
    go_ret
    exact ⟨rfl, HB.out⟩
  have HI : Hid (PIn (w.alloc (.cells #[.string p.cls, .slice a1 p.sts.length c1, .int .i64 p.start, .int .i64 p.err, .slice a2 p.mvs.length c2] 25)) p a1 c1 a2) :=
    ⟨HS.out.below HB0.out, HM.out.below HB0.out, hc, by omega, by omega⟩
  have BX := Lib.hid (blk_new w #[.string p.cls, .slice a1 p.sts.length c1, .int .i64 p.start, .int .i64 p.err, .slice a2 p.mvs.length c2] 25)
  go_enter Tryd.func6, Tryd.ntmps6
  go_wp2_with fail
  refine (text17 p a1 c1 a2 c2 _ (HK.out.below HB0.out) HI.out).mono ?_
  rintro e w1 ⟨rfl, hb⟩
  have HI1 := Lib.hid (HI.out.below hb)
  have BX1 := Lib.hid (BX.out.below hb)
  have HB1 := Lib.hid (HB0.out.trans (hb.mono (by simp))); clear hb
  clear HI BX HB0
  by_cases hck : checkP p = 0
  · have HV : Hid (textV p = .tuple #[.string (textB p), .int .i64 0]) := by show _ = _; unfold textV; rw [if_pos hck]
    have HPT := Lib.hid (text_parse hck)
    clear hck
    rw [HV.out]
    go_wp2_with (refine wload25 rfl _ rfl w.heap.size _ rfl BX1.out rfl ?_)
    refine (text18 p a1 c1 a2 c2 _ HI1.out).mono ?_
    rintro e w2 ⟨rfl, hb⟩
    rw [HV.out]
    have HI2 := Lib.hid (HI1.out.below hb)
    have BX2 := Lib.hid (BX1.out.below hb)
    have HB2 := Lib.hid (HB1.out.trans (hb.mono HB1.out.size)); clear hb HI1 BX1 HB1
    obtain ⟨tx, htx⟩ : ∃ tx, tx = textB p := ⟨_, rfl⟩
    rw [← htx] at HPT ⊢
    clear htx HV
    have e1 := neqs_self tx.toList
    go_wp2_with fail
    refine (parse19 tx m w2 (HK.out.below HB2.out) (by rw [HB2.out.cell (World.block_lt_of_cell? w _ HMC.out)]; exact HMC.out)).mono ?_
    rintro e w3 ⟨hb, hpost⟩
    rw [HPT.out] at hpost
    obtain ⟨b1, d1, b2, d2, rfl, hp⟩ := hpost
    have HI3 := Lib.hid (HI2.out.below hb)
    have BX3 := Lib.hid (BX2.out.below hb)
    have HB3 := Lib.hid (HB2.out.trans (hb.mono HB2.out.size))
    have HP := Lib.hid hp; clear hb hp HI2 BX2 HB2
    unfold PrV
    have hal : Below w3.heap.size w3 (w3.alloc (.cells #[.string p.cls, .slice b1 p.sts.length d1, .int .i64 p.start, .int .i64 p.err, .slice b2 p.mvs.length d2] 25)) := (Below.refl _ _).alloc (Nat.le_refl _) _
    have HI4 := Lib.hid (HI3.out.below hal)
    have HP4 := Lib.hid (HP.out.below hal)
    have BX4 := Lib.hid (BX3.out.below hal)
    have HB4 := Lib.hid (HB3.out.trans (hal.mono HB3.out.size))
    clear HI3 BX3 HB3 HP hal
    obtain ⟨q0, q1, q2, q3, q4⟩ := box_of BX4.out
    go_wp2_with fail
    refine (same20 p a1 c1 a2 c2 b1 d1 b2 d2 _ HI4.out.hs HP4.out.hs HI4.out.hm HP4.out.hm HI4.out.h1 HI4.out.h2).mono ?_
    rintro e w4 ⟨rfl, hb⟩
    have HB5 := Lib.hid (HB4.out.trans (hb.mono HB4.out.size)); clear hb
    go_wp2_with fail
    refine (awake8 _ (HK.out.below HB5.out)).mono ?_
    rintro e w5 ⟨rfl, hb⟩
    have HB := Lib.hid (HB5.out.trans (hb.mono HB5.out.size)); clear hb
    go_wp2
    go_ret
    exact ⟨rfl, HB.out⟩
  · have HV : Hid (textV p = .tuple #[.string ⟨#[]⟩, .int .i64 (checkP p)]) := by show _ = _; unfold textV; rw [if_neg hck]
    rw [HV.out]
    go_wp2_with (refine wload25 rfl _ rfl w.heap.size _ rfl BX1.out rfl ?_)
    refine (text18 p a1 c1 a2 c2 _ HI1.out).mono ?_
    rintro e w2 ⟨rfl, hb⟩
    rw [HV.out]
    have HB2 := Lib.hid (HB1.out.trans (hb.mono HB1.out.size)); clear hb HI1 BX1 HB1
    generalize checkP p = er at *
    have e1 : (er != 0) = true := by simp [hck]
    have e2 := neq_self er
    go_wp2_with fail
    refine (awake8 _ (HK.out.below HB2.out)).mono ?_
    rintro e w5 ⟨rfl, hb⟩
    have HB := Lib.hid (HB2.out.trans (hb.mono HB2.out.size)); clear hb
    go_wp2
    go_ret
    exact ⟨rfl, HB.out⟩

set_option maxRecDepth 100000 in
set_option maxHeartbeats 2000000 in
theorem parses7 (s : ByteArray) (m : Int) (w : World) (hk : KW w) (hmc : w.cell? ⟨1, 0, none⟩ = some (.int .i64 m)) :
    Calls Tryd.prog 7 #[.string s] w (Ret w (.bool true)) := by
  have HK := Lib.hid hk; clear hk
  have HMC := Lib.hid hmc; clear hmc
  by_cases hA : 3000 < s.size
  · go_enter Tryd.func7, Tryd.ntmps7
    go_wp2_with fail
    refine (awake8 _ HK.out).mono ?_
    rintro e w1 ⟨rfl, hb⟩
    have HB := Lib.hid hb; clear hb
    go_wp2
    go_ret
    exact ⟨rfl, HB.out⟩
  go_enter Tryd.func7, Tryd.ntmps7
  go_wp2_with fail
  refine (parse19 s m w HK.out HMC.out).mono ?_
  rintro e w1 ⟨hb, hpost⟩
  have HB1 := Lib.hid hb; clear hb
  cases hp : parseT s with
  | bad line er =>
    rw [hp] at hpost
    simp only at hpost
    subst hpost
    have HPT := Lib.hid hp; clear hp
    unfold PrV
    have hal : Below w1.heap.size w1 (w1.alloc (.cells #[.string st0.p.cls, .slice none st0.p.sts.length 0, .int .i64 st0.p.start, .int .i64 st0.p.err, .slice none st0.p.mvs.length 0] 25)) := (Below.refl _ _).alloc (Nat.le_refl _) _
    have BX := Lib.hid (blk_new w1 #[.string st0.p.cls, .slice none st0.p.sts.length 0, .int .i64 st0.p.start, .int .i64 st0.p.err, .slice none st0.p.mvs.length 0] 25)
    have HB2 := Lib.hid (HB1.out.trans (hal.mono HB1.out.size))
    clear hal HB1
    go_wp2_with fail
    refine (parse21 s _).mono ?_
    rintro e w2 ⟨hb, hpost⟩
    rw [HPT.out] at hpost
    simp only at hpost
    subst hpost
    have BX2 := Lib.hid (BX.out.below hb)
    have HB3 := Lib.hid (HB2.out.trans (hb.mono HB2.out.size))
    have hb' := hb.size
    simp only [World.size_alloc] at hb'
    clear hb BX HB2
    unfold PrV
    have hal : Below w2.heap.size w2 (w2.alloc (.cells #[.string st0.p.cls, .slice none st0.p.sts.length 0, .int .i64 st0.p.start, .int .i64 st0.p.err, .slice none st0.p.mvs.length 0] 25)) := (Below.refl _ _).alloc (Nat.le_refl _) _
    have BX4 := Lib.hid (BX2.out.below hal)
    have HB4 := Lib.hid (HB3.out.trans (hal.mono HB3.out.size))
    clear hal HB3 BX2
    obtain ⟨q0, q1, q2, q3, q4⟩ := box_of BX4.out
    have e1 := neq_self er
    have e2 := neq_self line
    go_wp2_with fail
    refine (same20 st0.p none 0 none 0 none 0 none 0 _ (fun k hk => absurd hk (by simp [st0])) (fun k hk => absurd hk (by simp [st0])) (fun k hk => absurd hk (by simp [st0])) (fun k hk => absurd hk (by simp [st0])) (by simp [st0]) (by simp [st0])).mono ?_
    rintro e w4 ⟨rfl, hb⟩
    have HB5 := Lib.hid (HB4.out.trans (hb.mono HB4.out.size)); clear hb
    have e3 : (er == 0) = false := by have := parse_bad HPT.out; simpa using this
    go_wp2_with fail
    refine (awake8 _ (HK.out.below HB5.out)).mono ?_
    rintro e w5 ⟨rfl, hb⟩
    have HB := Lib.hid (HB5.out.trans (hb.mono HB5.out.size)); clear hb
    go_wp2
    go_ret
    exact ⟨rfl, HB.out⟩
  | good p =>
    rw [hp] at hpost
    obtain ⟨b1, d1, b2, d2, rfl, hq⟩ := hpost
    have HPT := Lib.hid hp; clear hp
    have HQ := Lib.hid hq; clear hq
    unfold PrV
    have hal : Below w1.heap.size w1 (w1.alloc (.cells #[.string p.cls, .slice b1 p.sts.length d1, .int .i64 p.start, .int .i64 p.err, .slice b2 p.mvs.length d2] 25)) := (Below.refl _ _).alloc (Nat.le_refl _) _
    have BX := Lib.hid (blk_new w1 #[.string p.cls, .slice b1 p.sts.length d1, .int .i64 p.start, .int .i64 p.err, .slice b2 p.mvs.length d2] 25)
    have HB2 := Lib.hid (HB1.out.trans (hal.mono HB1.out.size))
    have HQ2 := Lib.hid (HQ.out.below hal)
    clear hal HB1 HQ
    go_wp2_with fail
    refine (parse21 s _).mono ?_
    rintro e w2 ⟨hb, hpost⟩
    rw [HPT.out] at hpost
    obtain ⟨e1, f1, e2, f2, rfl, hr⟩ := hpost
    have HR := Lib.hid hr; clear hr
    have BX2 := Lib.hid (BX.out.below hb)
    have HB3 := Lib.hid (HB2.out.trans (hb.mono HB2.out.size))
    have HQ3 := Lib.hid (HQ2.out.below hb)
    have hb' := hb.size
    simp only [World.size_alloc] at hb'
    clear hb BX HB2 HQ2
    unfold PrV
    have hal : Below w2.heap.size w2 (w2.alloc (.cells #[.string p.cls, .slice e1 p.sts.length f1, .int .i64 p.start, .int .i64 p.err, .slice e2 p.mvs.length f2] 25)) := (Below.refl _ _).alloc (Nat.le_refl _) _
    have BX4 := Lib.hid (BX2.out.below hal)
    have HB4 := Lib.hid (HB3.out.trans (hal.mono HB3.out.size))
    have HQ4 := Lib.hid (HQ3.out.below hal)
    have HR4 := Lib.hid (HR.out.below hal)
    clear hal HB3 BX2 HQ3 HR
    obtain ⟨q0, q1, q2, q3, q4⟩ := box_of BX4.out
    go_wp2_with fail
    refine (same20 p b1 d1 b2 d2 e1 f1 e2 f2 _ HQ4.out.hs HR4.out.hs HQ4.out.hm HR4.out.hm HQ4.out.h1 HQ4.out.h2).mono ?_
    rintro e w4 ⟨rfl, hb⟩
    have HB5 := Lib.hid (HB4.out.trans (hb.mono HB4.out.size))
    have HQ5 := Lib.hid (HQ4.out.below hb)
    have BX5 := Lib.hid (BX4.out.below hb)
    clear hb HB4 HQ4 BX4 HR4 q0 q1 q2 q3 q4
    go_wp2_with (refine wload25 rfl _ rfl w1.heap.size _ rfl BX5.out rfl ?_)
    refine (text17 p b1 d1 b2 d2 _ (HK.out.below HB5.out) HQ5.out).mono ?_
    rintro e w5 ⟨rfl, hb⟩
    have HB6 := Lib.hid (HB5.out.trans (hb.mono HB5.out.size)); clear hb
    obtain ⟨hck, htx⟩ := parse_text HPT.out
    have HV : Hid (textV p = .tuple #[.string s, .int .i64 0]) := by show _ = _; unfold textV; rw [if_pos hck, htx]
    clear hck htx
    rw [HV.out]
    have e3 : (s.toList == s.toList) = true := by simp
    go_wp2_with fail
    refine (awake8 _ (HK.out.below HB6.out)).mono ?_
    rintro e w6 ⟨rfl, hb⟩
    have HB := Lib.hid (HB6.out.trans (hb.mono HB6.out.size)); clear hb
    go_wp2
    go_ret
    exact ⟨rfl, HB.out⟩
end Go.Proofs.YtlkafolgbkobpaaDoor
