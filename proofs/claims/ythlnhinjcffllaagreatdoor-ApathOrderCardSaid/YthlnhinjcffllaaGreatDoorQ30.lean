/-
  The law ApathOrder, walked.
-/
import Derived.Test.YthlnhinjcffllaaGreatDoorQ29
namespace Go.Proofs.YthlnhinjcffllaaGreatDoor
open Go.RowKit

def nextS : ByteArray := ⟨#[110, 101, 120, 116]⟩
theorem next_ok : identB nextS = true := by
  unfold identB kwB nextS
  simp only [ByteArray.toList_eq]
  decide
theorem StrsAt.rowNon {w : World} {a : Option Addr} {l : List ByteArray} {g : Nat} {cs : Array Value} {ty : TypeId} (h : StrsAt w a l) (hg : Blk w g cs ty) (hn : ∀ (i : Nat) (x : ByteArray), cs[i]? ≠ some (Value.string x)) (cs' : Array Value) : StrsAt (w.setRow g cs') a l := by
  intro k hk
  obtain ⟨b, off, rfl, hc⟩ := h k hk
  refine ⟨b, off, rfl, ?_⟩
  have hb : b ≠ g := fun e => by
    subst e
    rw [cell_of_row _ _ _ _ _ _ hg] at hc
    exact hn _ _ hc
  rw [cell_setRow_other w g cs' _ hb]; exact hc
theorem pth_non (r n : Int) (s : Option Addr) (x d : Nat) (st : Bool) : ∀ (i : Nat) (y : ByteArray), (#[Value.int .i64 r, .int .i64 n, .slice s x d, .bool st] : Array Value)[i]? ≠ some (.string y)
  | 0, _, h => by cases h
  | 1, _, h => by cases h
  | 2, _, h => by cases h
  | 3, _, h => by cases h
  | n + 4, _, h => by cases h
set_option maxRecDepth 100000 in
set_option maxHeartbeats 16000000 in
theorem order7 (p q t : Pth) (a b c : Option Addr) (k l m : Nat) (w : World) (hw : AW w) (ha : StrsAt w a p.fs) (hb : StrsAt w b q.fs) (hc : StrsAt w c t.fs) (hpk : p.fs.length ≤ k) (hql : q.fs.length ≤ l) (htm : t.fs.length ≤ m) : Calls Tryz.prog 7 #[pV p a k, pV q b l, pV t c m] w (Ret w (.bool true)) := by
  unfold pV
  obtain ⟨W, hW⟩ : ∃ W, W = ((w.alloc (.cells #[.int .i64 p.root, .int .i64 p.n, .slice a p.fs.length k, .bool p.star] 24)).alloc (.cells #[.int .i64 q.root, .int .i64 q.n, .slice b q.fs.length l, .bool q.star] 24)).alloc (.cells #[.int .i64 t.root, .int .i64 t.n, .slice c t.fs.length m, .bool t.star] 24) := ⟨_, rfl⟩
  have hB : Below w.heap.size w W := by rw [hW]; exact three_below ..
  have HT := three_new w p q t a b c k l m hw.kw ha hb hc
  rw [← hW] at HT
  have S0 : Hid (Cx w W [(w.heap.size, p, a, k), (w.heap.size + 1, q, b, l), (w.heap.size + 1 + 1, t, c, m)]) := ⟨hB, hw.below hB, ⟨ha.below hB, HT.c1, hpk⟩, ⟨hb.below hB, HT.c2, hql⟩, ⟨hc.below hB, HT.c3, htm⟩, trivial⟩
  clear hw ha hb hc hB hpk hql htm HT
  go_enter Tryz.func7, Tryz.ntmps7
  go_upto_region 1 with (fail)
  rw [← hW]
  clear hW
  obtain ⟨x0, x1, x2, x3⟩ := S0.out.bx.1.bk.four
  go_wp2_with fail
  refine (short8 p a k _ S0.out.bx.1.st).mono ?_
  rintro e w1 ⟨rfl, hb⟩
  have S1 := Lib.hid (S0.out.below hb)
  clear hb S0 x0 x1 x2 x3
  cases h1 : shortB p
  case false =>
    go_wp2_with fail
    refine (awake9 _ S1.out.aw).mono ?_
    rintro e w' ⟨rfl, hb⟩
    have HB2 := Lib.hid (S1.out.hb.trans (hb.mono S1.out.hb.size)); clear hb
    go_wp2
    go_ret
    exact ⟨rfl, HB2.out⟩
  obtain ⟨x0, x1, x2, x3⟩ := S1.out.bx.2.1.bk.four
  go_wp2_with fail
  refine (short8 q b l _ S1.out.bx.2.1.st).mono ?_
  rintro e w2 ⟨rfl, hb⟩
  have S2 := Lib.hid (S1.out.below hb)
  clear hb S1 x0 x1 x2 x3
  cases h2 : shortB q
  case false =>
    go_wp2_with fail
    refine (awake9 _ S2.out.aw).mono ?_
    rintro e w' ⟨rfl, hb⟩
    have HB2 := Lib.hid (S2.out.hb.trans (hb.mono S2.out.hb.size)); clear hb
    go_wp2
    go_ret
    exact ⟨rfl, HB2.out⟩
  obtain ⟨x0, x1, x2, x3⟩ := S2.out.bx.2.2.1.bk.four
  go_wp2_with fail
  refine (short8 t c m _ S2.out.bx.2.2.1.st).mono ?_
  rintro e w3 ⟨rfl, hb⟩
  have S3 := Lib.hid (S2.out.below hb)
  clear hb S2 x0 x1 x2 x3
  cases h3 : shortB t
  case false =>
    go_wp2_with fail
    refine (awake9 _ S3.out.aw).mono ?_
    rintro e w' ⟨rfl, hb⟩
    have HB2 := Lib.hid (S3.out.hb.trans (hb.mono S3.out.hb.size)); clear hb
    go_wp2
    go_ret
    exact ⟨rfl, HB2.out⟩
  have HP := Lib.hid (short_len h1)
  have HQ := Lib.hid (short_len h2)
  clear h1 h2 h3
  go_wp2_with fail
  refine (awake9 _ S3.out.aw).mono ?_
  rintro e w4 ⟨rfl, hb⟩
  have S4 := Lib.hid (S3.out.below hb)
  clear hb S3
  go_upto_region 3 with (fail)
  go_cut [67] (fun v wx => v = .bool false ∧ Cx w wx [(w.heap.size, p, a, k), (w.heap.size + 1, q, b, l), (w.heap.size + 1 + 1, t, c, m)])
  case first =>
    have e0 : (covB p p == (chkE p == 0)) = true := by rw [cov_refl]; simp
    obtain ⟨p0, p1, p2, p3⟩ := S4.out.bx.1.all
    obtain ⟨q0, q1, q2, q3⟩ := S4.out.bx.2.1.all
    obtain ⟨t0, t1, t2, t3⟩ := S4.out.bx.2.2.1.all
    have hne : Nonempty (WB w4) := ⟨⟨w4, Below.refl _ _⟩⟩
    have H13 : Hid (covB p q = true → covB q t = true → covB p t = true) := fun h1 h2 => cov_trans h1 h2
    have HAN : Hid (covB p q = true → covB q p = true → sameP p q = true) := fun h1 h2 => by rw [cov_anti h1 h2]; exact sameP_self _
    have HPP : Hid (∀ o : WB w4, Calls Tryz.prog 15 #[pV p a k, pV p a k] o.u (Ret o.u (.bool (covB p p)))) := fun o => covers15 p p a a k k _ (S4.out.aw.kw.below o.h) (S4.out.bx.1.st.below o.h) (S4.out.bx.1.st.below o.h) S4.out.bx.1.le (by have := HP.out; omega)
    have HPQ : Hid (∀ o : WB w4, Calls Tryz.prog 15 #[pV p a k, pV q b l] o.u (Ret o.u (.bool (covB p q)))) := fun o => covers15 p q a b k l _ (S4.out.aw.kw.below o.h) (S4.out.bx.1.st.below o.h) (S4.out.bx.2.1.st.below o.h) S4.out.bx.2.1.le (by have := HP.out; omega)
    have HQT : Hid (∀ o : WB w4, Calls Tryz.prog 15 #[pV q b l, pV t c m] o.u (Ret o.u (.bool (covB q t)))) := fun o => covers15 q t b c l m _ (S4.out.aw.kw.below o.h) (S4.out.bx.2.1.st.below o.h) (S4.out.bx.2.2.1.st.below o.h) S4.out.bx.2.2.1.le (by have := HQ.out; omega)
    have HPT : Hid (∀ o : WB w4, Calls Tryz.prog 15 #[pV p a k, pV t c m] o.u (Ret o.u (.bool (covB p t)))) := fun o => covers15 p t a c k m _ (S4.out.aw.kw.below o.h) (S4.out.bx.1.st.below o.h) (S4.out.bx.2.2.1.st.below o.h) S4.out.bx.2.2.1.le (by have := HP.out; omega)
    have HQP : Hid (∀ o : WB w4, Calls Tryz.prog 15 #[pV q b l, pV p a k] o.u (Ret o.u (.bool (covB q p)))) := fun o => covers15 q p b a l k _ (S4.out.aw.kw.below o.h) (S4.out.bx.2.1.st.below o.h) (S4.out.bx.1.st.below o.h) S4.out.bx.1.le (by have := HQ.out; omega)
    have HCK : Hid (∀ o : WB w4, Calls Tryz.prog 12 #[pV p a k] o.u (Ret o.u (.int .i64 (chkE p)))) := fun o => check12 p a k _ (S4.out.aw.kw.below o.h) (S4.out.bx.1.st.below o.h)
    have HSM : Hid (∀ o : WB w4, Calls Tryz.prog 14 #[pV p a k, pV q b l] o.u (Ret o.u (.bool (sameP p q)))) := fun o => same14 p q a b k l _ (S4.out.bx.1.st.below o.h) (S4.out.bx.2.1.st.below o.h) (by have := HP.out; omega)
    have HS : Hid (∀ o : WB w4, Cx w o.u [(w.heap.size, p, a, k), (w.heap.size + 1, q, b, l), (w.heap.size + 1 + 1, t, c, m)]) := fun o => S4.out.below o.h
    unfold pV at HPP HPQ HQT HPT HQP HCK HSM
    clear S4
    obtain ⟨cpp, hcpp⟩ : ∃ x, x = covB p p := ⟨_, rfl⟩
    rw [← hcpp] at HPP e0
    clear hcpp
    cases c1 : covB p q
    case false =>
      rw [c1] at HPQ
      refine wp_region_WB w4 (by kernel_rfl) ?_
      repeat (go_big_quiet_step ((rename_i o; first
        | (with_reducible refine (HPP.out o).mono ?_; exact fun _ _ h => Ret.inB h)
        | (with_reducible refine (HCK.out o).mono ?_; exact fun _ _ h => Ret.inB h)
        | (with_reducible refine (HPQ.out o).mono ?_; exact fun _ _ h => Ret.inB h))))
      refine wpQuiet_nil ?_
      intro _ hw'
      obtain ⟨o, rfl⟩ := hw'
      go_wp2
      go_meet
      exact ⟨rfl, HS.out o⟩
    case true =>
      rw [c1] at HPQ
      have c3 := fun h => H13.out c1 h
      have c5 := fun h => HAN.out c1 h
      clear H13 HAN c1
      cases c2 : covB q t <;> cases c4 : covB q p
      all_goals
        rw [c2] at HQT
        rw [c4] at HQP
        try rw [c3 c2] at HPT
        try rw [c5 c4] at HSM
        clear c2 c3 c4 c5
        refine wp_region_WB w4 (by kernel_rfl) ?_
        repeat (go_big_quiet_step ((rename_i o; first
          | (with_reducible refine (HPP.out o).mono ?_; exact fun _ _ h => Ret.inB h)
          | (with_reducible refine (HCK.out o).mono ?_; exact fun _ _ h => Ret.inB h)
          | (with_reducible refine (HPQ.out o).mono ?_; exact fun _ _ h => Ret.inB h)
          | (with_reducible refine (HQT.out o).mono ?_; exact fun _ _ h => Ret.inB h)
          | (with_reducible refine (HPT.out o).mono ?_; exact fun _ _ h => Ret.inB h)
          | (with_reducible refine (HQP.out o).mono ?_; exact fun _ _ h => Ret.inB h)
          | (with_reducible refine (HSM.out o).mono ?_; exact fun _ _ h => Ret.inB h))))
        refine wpQuiet_nil ?_
        intro _ hw'
        obtain ⟨o, rfl⟩ := hw'
        go_wp2
        go_meet
        exact ⟨rfl, HS.out o⟩
  case rest =>
  obtain ⟨rfl, hcx⟩ := hcut
  have S5 := Lib.hid hcx
  clear hcx S4
  obtain ⟨x0, x1, x2, x3⟩ := S5.out.bx.1.bk.four
  go_wp2_with fail
  refine (check12 p a k _ S5.out.aw.kw S5.out.bx.1.st).mono ?_
  rintro e w6 ⟨rfl, hb⟩
  have S6 := Lib.hid (S5.out.below hb)
  clear hb S5 x0 x1 x2 x3
  by_cases h0 : chkE p = 0
  case neg =>
    have t1 : (chkE p != 0) = true := by simpa using h0
    clear h0
    go_wp2
    go_ret
    exact ⟨rfl, S6.out.hb⟩
  have t1 : (chkE p != 0) = false := by simp [h0]
  have HC := Lib.hid h0
  have HXE : Hid (extE p nextS = 0) := by show _ = _; unfold extE; rw [if_neg (by simpa using h0), if_pos next_ok]
  have HXR : Hid (extR p nextS = extP p nextS) := by show _ = _; unfold extR; rw [if_pos HXE.out]
  clear h0
  obtain ⟨x0, x1, x2, x3⟩ := S6.out.bx.1.bk.four
  go_wp2_with fail
  refine (extend10 p nextS a k _ S6.out.aw.kw S6.out.bx.1.st).mono ?_
  intro e w7 hpost
  have hout := ext_out hpost
  rw [HXR.out, HXE.out] at hout
  obtain ⟨r1, hr1⟩ : ∃ r, r = extP p nextS := ⟨_, rfl⟩
  rw [← hr1] at hout
  have HR1 := Lib.hid hr1
  obtain ⟨hb, s1, d1, rfl, hs, hd⟩ := hout
  unfold pV
  have S7 := Lib.hid (S6.out.below hb)
  have HS7 := Lib.hid hs
  have HD7 := Lib.hid hd
  clear hpost hb hs hd S6 x0 x1 x2 x3 t1 hr1
  go_upto_region 8 with (refine store24 rfl _ _ rfl w7.heap.size _ _ _ _ _ _ rfl rfl _ (blk_new ..) rfl ?_)
  have S8 := Lib.hid (S7.out.box HS7.out HD7.out)
  clear S7 HS7 HD7
  generalize (w7.alloc (.cells #[.int .i64 0, .int .i64 0, .slice none 0 0, .bool false] 24)).setRow w7.heap.size #[.int .i64 r1.root, .int .i64 r1.n, .slice s1 r1.fs.length d1, .bool r1.star] = w8 at *
  obtain ⟨g7, hg7⟩ : ∃ g, g = w7.heap.size := ⟨_, rfl⟩
  rw [← hg7] at S8
  rw [← hg7]
  clear hg7
  obtain ⟨r2, hr2⟩ : ∃ r, r = repR q p p := ⟨_, rfl⟩
  obtain ⟨ok, hok⟩ : ∃ ok, ok = (repP q p p).isSome := ⟨_, rfl⟩
  have HRL : Hid (r2.fs.length ≤ 1000000) := by rw [hr2]; exact rep_len q p p
  have HRS : Hid (ok = true → r2 = if p.star = true then p else q) := by
    rw [hr2, hok]
    intro h
    obtain ⟨y, hy⟩ := Option.isSome_iff_exists.1 h
    unfold repR
    rw [hy]
    exact rep_self hy
  have HR := Lib.hid hr2; clear hr2
  have HE := Lib.hid hok; clear hok
  obtain ⟨x0, x1, x2, x3⟩ := S8.out.bx.2.1.bk.four
  obtain ⟨y0, y1, y2, y3⟩ := S8.out.bx.2.2.1.bk.four
  go_wp2_with fail
  refine (replace17 q p p b a a l k k _ S8.out.aw.kw S8.out.bx.2.2.1.st S8.out.bx.2.1.st S8.out.bx.2.1.st S8.out.bx.2.2.1.le (by have := HP.out; omega)).mono ?_
  intro e w9 hpost
  have hout := rep_out hpost
  rw [← HR.out, ← HE.out] at hout
  obtain ⟨hb, s2, d2, rfl, hs, hd⟩ := hout
  unfold pV
  have S9 := Lib.hid (S8.out.below hb)
  have hlt9 : w.heap.size + 1 < w9.heap.size := S9.out.bx.2.2.1.bk.lt
  have HS9 := Lib.hid hs
  have HD9 := Lib.hid hd
  clear hpost hb hs hd S8 x0 x1 x2 x3 y0 y1 y2 y3
  go_upto_region 9 with (refine store24 rfl _ _ rfl w9.heap.size _ _ _ _ _ _ rfl rfl _ (blk_new ..) rfl ?_)
  have S10 := Lib.hid (S9.out.box HS9.out HD9.out)
  clear S9 HS9 HD9
  generalize (w9.alloc (.cells #[.int .i64 0, .int .i64 0, .slice none 0 0, .bool false] 24)).setRow w9.heap.size #[.int .i64 r2.root, .int .i64 r2.n, .slice s2 r2.fs.length d2, .bool r2.star] = w10 at *
  obtain ⟨g9, hg9⟩ : ∃ g, g = w9.heap.size := ⟨_, rfl⟩
  rw [← hg9] at S10 hlt9
  rw [← hg9]
  clear hg9
  go_cut [102] (fun v wx => v = .bool false ∧ Cx w wx [(g9, r2, s2, d2), (g7, r1, s1, d1), (w.heap.size, p, a, k), (w.heap.size + 1, q, b, l), (w.heap.size + 1 + 1, t, c, m)])
  case first =>
    obtain ⟨p0, p1, p2, p3⟩ := S10.out.bx.2.2.1.all
    obtain ⟨q0, q1, q2, q3⟩ := S10.out.bx.2.1.all
    have hne : Nonempty (WB w10) := ⟨⟨w10, Below.refl _ _⟩⟩
    have hc1 : covB p r1 = p.star := by rw [HR1.out]; exact cov_ext HC.out next_ok
    have hc2 : covB r1 p = true → r1.star = true := by rw [HR1.out]; exact ext_cov
    have H1 : Hid (∀ o : WB w10, Calls Tryz.prog 15 #[pV p a k, pV r1 s1 d1] o.u (Ret o.u (.bool p.star))) := fun o => by
      rw [← hc1]
      exact covers15 p r1 a s1 k d1 _ (S10.out.aw.kw.below o.h) (S10.out.bx.2.2.1.st.below o.h) (S10.out.bx.2.1.st.below o.h) S10.out.bx.2.1.le (by have := HP.out; omega)
    have hl1 : r1.fs.length ≤ 1000000 := by
      have h1 := HR1.out
      have h2 := HP.out
      rw [h1]
      exact Nat.le_trans (extP_len _ (Nat.le_refl _)) (by omega)
    have H2 : Hid (∀ o : WB w10, Calls Tryz.prog 15 #[pV r1 s1 d1, pV p a k] o.u (Ret o.u (.bool (covB r1 p)))) := fun o =>
      covers15 r1 p s1 a d1 k _ (S10.out.aw.kw.below o.h) (S10.out.bx.2.1.st.below o.h) (S10.out.bx.2.2.1.st.below o.h) S10.out.bx.2.2.1.le hl1
    have HS : Hid (∀ o : WB w10, Cx w o.u [(g9, r2, s2, d2), (g7, r1, s1, d1), (w.heap.size, p, a, k), (w.heap.size + 1, q, b, l), (w.heap.size + 1 + 1, t, c, m)]) := fun o => S10.out.below o.h
    unfold pV at H1 H2
    have e1 : (p.star == p.star) = true := by simp
    clear S10 hc1 hl1
    generalize p.star = ps at *
    cases c1 : covB r1 p
    case false =>
      rw [c1] at H2
      clear c1 hc2
      refine wp_region_WB w10 (by kernel_rfl) ?_
      repeat (go_big_quiet_step ((rename_i o; first
        | (with_reducible refine (H1.out o).mono ?_; exact fun _ _ h => Ret.inB h)
        | (with_reducible refine (H2.out o).mono ?_; exact fun _ _ h => Ret.inB h))))
      refine wpQuiet_nil ?_
      intro _ hw'
      obtain ⟨o, rfl⟩ := hw'
      go_wp2
      go_meet
      exact ⟨rfl, HS.out o⟩
    case true =>
      rw [c1] at H2
      rw [hc2 c1] at q3 H1 H2
      clear c1 hc2
      refine wp_region_WB w10 (by kernel_rfl) ?_
      repeat (go_big_quiet_step ((rename_i o; first
        | (with_reducible refine (H1.out o).mono ?_; exact fun _ _ h => Ret.inB h)
        | (with_reducible refine (H2.out o).mono ?_; exact fun _ _ h => Ret.inB h))))
      refine wpQuiet_nil ?_
      intro _ hw'
      obtain ⟨o, rfl⟩ := hw'
      go_wp2
      go_meet
      exact ⟨rfl, HS.out o⟩
  case rest =>
  obtain ⟨rfl, hcx⟩ := hcut
  have S11 := Lib.hid hcx
  clear hcx S10
  obtain ⟨x0, x1, x2, x3⟩ := S11.out.bx.2.2.1.bk.four
  cases hst : p.star
  case false =>
    have HSS : Hid (ok = true → r2 = q) := fun h => by rw [HRS.out h, hst, if_neg (by simp)]
    rw [hst] at x3
    obtain ⟨y0, y1, y2, y3⟩ := S11.out.bx.2.2.2.1.bk.four
    obtain ⟨z0, z1, z2, z3⟩ := S11.out.bx.1.bk.four
    cases ok
    case false =>
      go_wp2
      go_ret
      exact ⟨rfl, S11.out.hb⟩
    case true =>
      go_wp2_with fail
      refine (same14 r2 q s2 b d2 l _ S11.out.bx.1.st S11.out.bx.2.2.2.1.st HRL.out).mono ?_
      rintro e w12 ⟨rfl, hb⟩
      have HB := Lib.hid (S11.out.hb.trans (hb.mono S11.out.hb.size)); clear hb
      rw [HSS.out (by first | rfl | trivial), sameP_self]
      go_wp2
      go_ret
      exact ⟨rfl, HB.out⟩
  case true =>
    have HSS : Hid (ok = true → r2 = p) := fun h => by rw [HRS.out h, hst, if_pos rfl]
    rw [hst] at x3
    have hbq := S11.out.bx.2.2.2.1.bk
    have D4 : Hid (Blk (wc.setRow (w.heap.size + 1) #[.int .i64 p.root, .int .i64 p.n, .slice a p.fs.length k, .bool true]) (w.heap.size + 1) #[.int .i64 p.root, .int .i64 p.n, .slice a p.fs.length k, .bool true] 24) := hbq.setRow _
    have HB4 := Lib.hid (below_setRow S11.out.hb (show w.heap.size ≤ w.heap.size + 1 by omega) #[.int .i64 p.root, .int .i64 p.n, .slice a p.fs.length k, .bool true])
    have T4 := Lib.hid (S11.out.bx.2.2.1.st.rowNon hbq (pth_non _ _ _ _ _ _) #[.int .i64 p.root, .int .i64 p.n, .slice a p.fs.length k, .bool true])
    have U4 := Lib.hid (S11.out.bx.1.st.rowNon hbq (pth_non _ _ _ _ _ _) #[.int .i64 p.root, .int .i64 p.n, .slice a p.fs.length k, .bool true])
    have HBQ := Lib.hid hbq
    have hg9 : g9 ≠ w.heap.size + 1 := by omega
    have V4 := Lib.hid (S11.out.bx.1.bk.setRow_ne hg9 #[.int .i64 p.root, .int .i64 p.n, .slice a p.fs.length k, .bool true])
    clear hbq
    go_upto_region 13 with (refine store24 rfl _ _ rfl (w.heap.size + 1) _ _ _ _ _ _ rfl rfl _ HBQ.out rfl ?_)
    clear x0 x1 x2 x3 S11
    generalize wc.setRow (w.heap.size + 1) #[.int .i64 p.root, .int .i64 p.n, .slice a p.fs.length k, .bool true] = w12 at *
    obtain ⟨y0, y1, y2, y3⟩ := D4.out.four
    obtain ⟨z0, z1, z2, z3⟩ := V4.out.four
    cases ok
    case false =>
      go_wp2
      go_ret
      exact ⟨rfl, HB4.out⟩
    case true =>
      go_wp2_with fail
      have hsm := same14 r2 p s2 a d2 k _ U4.out T4.out HRL.out
      unfold pV at hsm
      rw [hst] at hsm
      refine hsm.mono ?_
      rintro e w13 ⟨rfl, hb⟩
      have HB := Lib.hid (HB4.out.trans (hb.mono HB4.out.size)); clear hb
      rw [HSS.out (by first | rfl | trivial), sameP_self]
      go_wp2
      go_ret
      exact ⟨rfl, HB.out⟩
end Go.Proofs.YthlnhinjcffllaaGreatDoor
