/-
  The law ApathReplace, walked.
-/
import Derived.Test.YthlnhinjcffllaaGreatDoorQ26
namespace Go.Proofs.YthlnhinjcffllaaGreatDoor
open Go.RowKit

theorem extP_len {p : Pth} {f : ByteArray} (n : Nat) (hn : p.fs.length ≤ n) : (extP p f).fs.length ≤ n + 1 := by
  unfold extP; split
  · omega
  split
  · simp; omega
  · simp; omega
theorem rep_len (p q r : Pth) : (repR p q r).fs.length ≤ 1000000 := by
  unfold repR repP
  split
  · rename_i h
    obtain ⟨h1, _, h3, _⟩ := h
    have hp := (chkE_ok.1 h1).2.2.2.2
    have hall : (p.fs.drop q.fs.length).all identB = true := by
      rw [List.all_eq_true] at hp ⊢
      exact fun x hx => hp x (List.mem_of_mem_drop hx)
    have := (chkE_ok.1 (extAll_ok h3 hall)).2.2.2.1
    simp only [Option.getD_some, orStar]
    omega
  · exact Nat.zero_le _
set_option maxRecDepth 100000 in
set_option maxHeartbeats 8000000 in
theorem replace4 (p q t : Pth) (a b c : Option Addr) (k l m : Nat) (w : World) (hw : AW w) (ha : StrsAt w a p.fs) (hb : StrsAt w b q.fs) (hc : StrsAt w c t.fs) (hpk : p.fs.length ≤ k) (hql : q.fs.length ≤ l) (htm : t.fs.length ≤ m) : Calls Tryz.prog 4 #[pV p a k, pV q b l, pV t c m] w (Ret w (.bool true)) := by
  unfold pV
  obtain ⟨W, hW⟩ : ∃ W, W = ((w.alloc (.cells #[.int .i64 p.root, .int .i64 p.n, .slice a p.fs.length k, .bool p.star] 24)).alloc (.cells #[.int .i64 q.root, .int .i64 q.n, .slice b q.fs.length l, .bool q.star] 24)).alloc (.cells #[.int .i64 t.root, .int .i64 t.n, .slice c t.fs.length m, .bool t.star] 24) := ⟨_, rfl⟩
  have hB : Below w.heap.size w W := by rw [hW]; exact three_below ..
  have HT := three_new w p q t a b c k l m hw.kw ha hb hc
  rw [← hW] at HT
  have S0 : Hid (Cx w W [(w.heap.size, p, a, k), (w.heap.size + 1, q, b, l), (w.heap.size + 1 + 1, t, c, m)]) := ⟨hB, hw.below hB, ⟨ha.below hB, HT.c1, hpk⟩, ⟨hb.below hB, HT.c2, hql⟩, ⟨hc.below hB, HT.c3, htm⟩, trivial⟩
  clear hw ha hb hc hB hpk hql htm HT
  go_enter Tryz.func4, Tryz.ntmps4
  go_upto_region 1 with (fail)
  rw [← hW]
  clear hW
  obtain ⟨x0, x1, x2, x3⟩ := S0.out.bx.1.bk.four
  go_wp2_with fail
  refine (short8 p a k _ S0.out.bx.1.st).mono ?_
  rintro e w1 ⟨rfl, hb⟩
  have S1 := Lib.hid (S0.out.below hb)
  clear hb S0 x0 x1 x2 x3
  cases h1 : shortB p
  case false =>
    go_wp2_with fail
    refine (awake9 _ S1.out.aw).mono ?_
    rintro e w' ⟨rfl, hb⟩
    have HB2 := Lib.hid (S1.out.hb.trans (hb.mono S1.out.hb.size)); clear hb
    go_wp2
    go_ret
    exact ⟨rfl, HB2.out⟩
  obtain ⟨x0, x1, x2, x3⟩ := S1.out.bx.2.1.bk.four
  go_wp2_with fail
  refine (short8 q b l _ S1.out.bx.2.1.st).mono ?_
  rintro e w2 ⟨rfl, hb⟩
  have S2 := Lib.hid (S1.out.below hb)
  clear hb S1 x0 x1 x2 x3
  cases h2 : shortB q
  case false =>
    go_wp2_with fail
    refine (awake9 _ S2.out.aw).mono ?_
    rintro e w' ⟨rfl, hb⟩
    have HB2 := Lib.hid (S2.out.hb.trans (hb.mono S2.out.hb.size)); clear hb
    go_wp2
    go_ret
    exact ⟨rfl, HB2.out⟩
  obtain ⟨x0, x1, x2, x3⟩ := S2.out.bx.2.2.1.bk.four
  go_wp2_with fail
  refine (short8 t c m _ S2.out.bx.2.2.1.st).mono ?_
  rintro e w3 ⟨rfl, hb⟩
  have S3 := Lib.hid (S2.out.below hb)
  clear hb S2 x0 x1 x2 x3
  cases h3 : shortB t
  case false =>
    go_wp2_with fail
    refine (awake9 _ S3.out.aw).mono ?_
    rintro e w' ⟨rfl, hb⟩
    have HB2 := Lib.hid (S3.out.hb.trans (hb.mono S3.out.hb.size)); clear hb
    go_wp2
    go_ret
    exact ⟨rfl, HB2.out⟩
  have HQ := Lib.hid (short_len h2)
  clear h1 h2 h3
  obtain ⟨r, hr⟩ : ∃ r, r = repR p q t := ⟨_, rfl⟩
  obtain ⟨ok, hok⟩ : ∃ ok, ok = (repP p q t).isSome := ⟨_, rfl⟩
  have HRL : Hid (r.fs.length ≤ 1000000) := by rw [hr]; exact rep_len p q t
  have HR := Lib.hid hr; clear hr
  have HE := Lib.hid hok; clear hok
  obtain ⟨x0, x1, x2, x3⟩ := S3.out.bx.1.bk.four
  obtain ⟨y0, y1, y2, y3⟩ := S3.out.bx.2.1.bk.four
  obtain ⟨z0, z1, z2, z3⟩ := S3.out.bx.2.2.1.bk.four
  go_wp2_with fail
  refine (replace17 p q t a b c k l m _ S3.out.aw.kw S3.out.bx.1.st S3.out.bx.2.1.st S3.out.bx.2.2.1.st S3.out.bx.1.le (by have := HQ.out; omega)).mono ?_
  intro e w4 hpost
  have hout := rep_out hpost
  rw [← HR.out, ← HE.out] at hout
  obtain ⟨hb, s7, d7, rfl, hs, hd⟩ := hout
  unfold pV
  have S4 := Lib.hid (S3.out.below hb)
  have HS4 := Lib.hid hs
  have HD4 := Lib.hid hd
  clear hpost hb hs hd S3 x0 x1 x2 x3 y0 y1 y2 y3 z0 z1 z2 z3
  go_upto_region 4 with (refine store24 rfl _ _ rfl w4.heap.size _ _ _ _ _ _ rfl rfl _ (blk_new ..) rfl ?_)
  have S5 := Lib.hid (S4.out.box HS4.out HD4.out)
  clear S4 HS4 HD4
  generalize (w4.alloc (.cells #[.int .i64 0, .int .i64 0, .slice none 0 0, .bool false] 24)).setRow w4.heap.size #[.int .i64 r.root, .int .i64 r.n, .slice s7 r.fs.length d7, .bool r.star] = w5 at *
  obtain ⟨g7, hg7⟩ : ∃ g, g = w4.heap.size := ⟨_, rfl⟩
  rw [← hg7] at S5
  rw [← hg7]
  clear hg7
  obtain ⟨x0, x1, x2, x3⟩ := S5.out.bx.2.1.bk.four
  obtain ⟨y0, y1, y2, y3⟩ := S5.out.bx.2.2.1.bk.four
  obtain ⟨z0, z1, z2, z3⟩ := S5.out.bx.2.2.2.1.bk.four
  go_wp2_with fail
  refine (replace18 p q t a b c k l m _ S5.out.aw.kw S5.out.bx.2.1.st S5.out.bx.2.2.1.st S5.out.bx.2.2.2.1.st S5.out.bx.2.2.2.1.le (by have := HQ.out; omega)).mono ?_
  intro e w6 hpost
  have hout := rep_out hpost
  rw [← HR.out, ← HE.out] at hout
  obtain ⟨hb, s9, d9, rfl, hs, hd⟩ := hout
  unfold pV
  have S6 := Lib.hid (S5.out.below hb)
  have HS6 := Lib.hid hs
  have HD6 := Lib.hid hd
  clear hpost hb hs hd S5 x0 x1 x2 x3 y0 y1 y2 y3 z0 z1 z2 z3
  go_upto_region 5 with (refine store24 rfl _ _ rfl w6.heap.size _ _ _ _ _ _ rfl rfl _ (blk_new ..) rfl ?_)
  have S7 := Lib.hid (S6.out.box HS6.out HD6.out)
  clear S6 HS6 HD6
  generalize (w6.alloc (.cells #[.int .i64 0, .int .i64 0, .slice none 0 0, .bool false] 24)).setRow w6.heap.size #[.int .i64 r.root, .int .i64 r.n, .slice s9 r.fs.length d9, .bool r.star] = w7 at *
  obtain ⟨g9, hg9⟩ : ∃ g, g = w6.heap.size := ⟨_, rfl⟩
  rw [← hg9] at S7
  rw [← hg9]
  clear hg9
  obtain ⟨y0, y1, y2, y3⟩ := S7.out.bx.1.bk.four
  obtain ⟨z0, z1, z2, z3⟩ := S7.out.bx.2.1.bk.four
  have e1 : (ok == ok) = true := beq_self_eq_true _
  have e4 := sameP_self r
  go_wp2_with fail
  refine (awake9 _ S7.out.aw).mono ?_
  rintro e w8 ⟨rfl, hb⟩
  have S8 := Lib.hid (S7.out.below hb)
  clear hb S7 y0 y1 y2 y3 z0 z1 z2 z3
  obtain ⟨y0, y1, y2, y3⟩ := S8.out.bx.1.bk.four
  obtain ⟨z0, z1, z2, z3⟩ := S8.out.bx.2.1.bk.four
  go_wp2_with fail
  refine (same14 r r s7 s9 d7 d9 _ S8.out.bx.2.1.st S8.out.bx.1.st HRL.out).mono ?_
  rintro e w9 ⟨rfl, hb⟩
  have HB := Lib.hid (S8.out.hb.trans (hb.mono S8.out.hb.size)); clear hb
  rw [e4]
  go_wp2
  go_ret
  exact ⟨rfl, HB.out⟩
end Go.Proofs.YthlnhinjcffllaaGreatDoor
