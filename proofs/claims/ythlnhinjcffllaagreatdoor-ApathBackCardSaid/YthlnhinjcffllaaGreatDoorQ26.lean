/-
  The law ApathPaths, walked.
-/
import Derived.Test.YthlnhinjcffllaaGreatDoorQ25
namespace Go.Proofs.YthlnhinjcffllaaGreatDoor
open Go.RowKit

set_option maxRecDepth 100000 in
set_option maxHeartbeats 8000000 in
theorem paths3 (p q : Pth) (f : ByteArray) (a b : Option Addr) (k l : Nat) (w : World) (hw : AW w) (ha : StrsAt w a p.fs) (hb : StrsAt w b q.fs) (hpk : p.fs.length ≤ k) (hql : q.fs.length ≤ l) : Calls Tryz.prog 3 #[pV p a k, pV q b l, .string f] w (Ret w (.bool true)) := by
  unfold pV
  obtain ⟨W, hW⟩ : ∃ W, W = (w.alloc (.cells #[.int .i64 p.root, .int .i64 p.n, .slice a p.fs.length k, .bool p.star] 24)).alloc (.cells #[.int .i64 q.root, .int .i64 q.n, .slice b q.fs.length l, .bool q.star] 24) := ⟨_, rfl⟩
  have hB : Below w.heap.size w W := by rw [hW]; exact two_below ..
  have S0 : Hid (Cx w W [(w.heap.size, p, a, k), (w.heap.size + 1, q, b, l)]) := ⟨hB, hw.below hB, ⟨ha.below hB, by rw [hW]; exact (blk_new ..).below (one_below ..), hpk⟩, ⟨hb.below hB, by rw [hW]; exact blk_new2 .., hql⟩, trivial⟩
  clear hw ha hb hB hpk hql
  go_enter Tryz.func3, Tryz.ntmps3
  go_upto_region 1 with (fail)
  rw [← hW]
  clear hW
  obtain ⟨x0, x1, x2, x3⟩ := S0.out.bx.1.bk.four
  go_wp2_with fail
  refine (short8 p a k _ S0.out.bx.1.st).mono ?_
  rintro e w1 ⟨rfl, hb⟩
  have S1 := Lib.hid (S0.out.below hb)
  clear hb S0 x0 x1 x2 x3
  cases h1 : shortB p
  case false =>
    go_wp2_with fail
    refine (awake9 _ S1.out.aw).mono ?_
    rintro e w2 ⟨rfl, hb⟩
    have HB2 := Lib.hid (S1.out.hb.trans (hb.mono S1.out.hb.size)); clear hb
    go_wp2
    go_ret
    exact ⟨rfl, HB2.out⟩
  obtain ⟨x0, x1, x2, x3⟩ := S1.out.bx.2.1.bk.four
  go_wp2_with fail
  refine (short8 q b l _ S1.out.bx.2.1.st).mono ?_
  rintro e w2 ⟨rfl, hb⟩
  have S2 := Lib.hid (S1.out.below hb)
  clear hb S1 x0 x1 x2 x3
  cases h2 : shortB q
  case false =>
    go_wp2_with fail
    refine (awake9 _ S2.out.aw).mono ?_
    rintro e w3 ⟨rfl, hb⟩
    have HB2 := Lib.hid (S2.out.hb.trans (hb.mono S2.out.hb.size)); clear hb
    go_wp2
    go_ret
    exact ⟨rfl, HB2.out⟩
  by_cases hf : 100 < f.size
  case pos =>
    have d1 : decide (100 < (f.size : Int)) = true := by simp; omega
    clear hf
    go_wp2_with fail
    refine (awake9 _ S2.out.aw).mono ?_
    rintro e w3 ⟨rfl, hb⟩
    have HB2 := Lib.hid (S2.out.hb.trans (hb.mono S2.out.hb.size)); clear hb
    go_wp2
    go_ret
    exact ⟨rfl, HB2.out⟩
  have d1 : decide (100 < (f.size : Int)) = false := by simp; omega
  have HP := Lib.hid (short_len h1)
  have HQ := Lib.hid (short_len h2)
  clear hf h1 h2
  obtain ⟨r, hr⟩ : ∃ r, r = extR p f := ⟨_, rfl⟩
  obtain ⟨ec, hec⟩ : ∃ ec, ec = extE p f := ⟨_, rfl⟩
  have HR := Lib.hid hr; clear hr
  have HE := Lib.hid hec; clear hec
  obtain ⟨x0, x1, x2, x3⟩ := S2.out.bx.1.bk.four
  go_wp2_with fail
  refine (extend10 p f a k _ S2.out.aw.kw S2.out.bx.1.st).mono ?_
  intro e w3 hpost
  have hout := ext_out hpost
  rw [← HR.out, ← HE.out] at hout
  obtain ⟨hb, s, d, rfl, hs, hd⟩ := hout
  unfold pV
  have S3 := Lib.hid (S2.out.below hb)
  have HS3 := Lib.hid hs
  have HD3 := Lib.hid hd
  clear hpost hb hs hd S2 x0 x1 x2 x3 d1
  go_upto_region 4 with (refine store24 rfl _ _ rfl w3.heap.size _ _ _ _ _ _ rfl rfl _ (blk_new ..) rfl ?_)
  have S4 := Lib.hid (S3.out.box HS3.out HD3.out)
  clear S3 HS3 HD3
  generalize (w3.alloc (.cells #[.int .i64 0, .int .i64 0, .slice none 0 0, .bool false] 24)).setRow w3.heap.size #[.int .i64 r.root, .int .i64 r.n, .slice s r.fs.length d, .bool r.star] = w4 at *
  obtain ⟨g7, hg7⟩ : ∃ g, g = w3.heap.size := ⟨_, rfl⟩
  rw [← hg7] at S4
  rw [← hg7]
  clear hg7
  obtain ⟨x0, x1, x2, x3⟩ := S4.out.bx.2.1.bk.four
  go_wp2_with fail
  refine (extend11 p f a k _ S4.out.bx.2.1.st).mono ?_
  intro e w5 hpost
  have hout := ext_out hpost
  rw [← HR.out, ← HE.out] at hout
  obtain ⟨hb, s2, d2, rfl, hs, hd⟩ := hout
  unfold pV
  have S5 := Lib.hid (S4.out.below hb)
  have HS5 := Lib.hid hs
  have HD5 := Lib.hid hd
  clear hpost hb hs hd S4 x0 x1 x2 x3
  go_upto_region 5 with (refine store24 rfl _ _ rfl w5.heap.size _ _ _ _ _ _ rfl rfl _ (blk_new ..) rfl ?_)
  have S6 := Lib.hid (S5.out.box HS5.out HD5.out)
  clear S5 HS5 HD5
  generalize (w5.alloc (.cells #[.int .i64 0, .int .i64 0, .slice none 0 0, .bool false] 24)).setRow w5.heap.size #[.int .i64 r.root, .int .i64 r.n, .slice s2 r.fs.length d2, .bool r.star] = w6 at *
  obtain ⟨g9, hg9⟩ : ∃ g, g = w5.heap.size := ⟨_, rfl⟩
  rw [← hg9] at S6
  rw [← hg9]
  clear hg9
  obtain ⟨y0, y1, y2, y3⟩ := S6.out.bx.1.all
  obtain ⟨z0, z1, z2, z3⟩ := S6.out.bx.2.1.all
  obtain ⟨p0, p1, p2, p3⟩ := S6.out.bx.2.2.1.all
  obtain ⟨q0, q1, q2, q3⟩ := S6.out.bx.2.2.2.1.all
  have HRL : Hid (r.fs.length ≤ 1000000) := by
    have h1 := HR.out
    have h2 := HP.out
    show _ ≤ _
    rw [h1]; unfold extR; split
    · unfold extP; split
      · omega
      split
      · simp; omega
      · simp; omega
    · exact Nat.zero_le _
  have e1 : (chkE p == chkE p) = true := beq_self_eq_true _
  have e2 : (ec == ec) = true := beq_self_eq_true _
  have e3 : (covB p q == covB p q) = true := beq_self_eq_true _
  have e4 := sameP_self r
  have hne : Nonempty (WB w6) := ⟨⟨w6, Below.refl _ _⟩⟩
  refine wp_region_WB w6 (by kernel_rfl) ?_
  repeat (go_big_quiet_step ((rename_i o; first
    | exact (awake9 _ (S6.out.aw.below o.h)).mono (fun _ _ h => Ret.inB h)
    | exact (check12 p a k _ (S6.out.aw.kw.below o.h) (S6.out.bx.2.2.1.st.below o.h)).mono (fun _ _ h => Ret.inB h)
    | exact (check13 p a k _ (S6.out.bx.2.2.1.st.below o.h)).mono (fun _ _ h => Ret.inB h)
    | exact (same14 r r s s2 d d2 _ (S6.out.bx.2.1.st.below o.h) (S6.out.bx.1.st.below o.h) HRL.out).mono (fun _ _ h => Ret.inB h)
    | exact (covers15 p q a b k l _ (S6.out.aw.kw.below o.h) (S6.out.bx.2.2.1.st.below o.h) (S6.out.bx.2.2.2.1.st.below o.h) S6.out.bx.2.2.2.1.le (by have := HP.out; omega)).mono (fun _ _ h => Ret.inB h)
    | exact (covers16 p q a b k l _ (S6.out.aw.kw.below o.h) (S6.out.bx.2.2.1.st.below o.h) (S6.out.bx.2.2.2.1.st.below o.h) (by have := HP.out; omega)).mono (fun _ _ h => Ret.inB h))))
  refine wpQuiet_nil ?_
  intro _ hw'
  obtain ⟨o, rfl⟩ := hw'
  go_wp2
  go_ret
  exact ⟨rfl, S6.out.hb.trans (o.h.mono S6.out.hb.size)⟩
end Go.Proofs.YthlnhinjcffllaaGreatDoor
