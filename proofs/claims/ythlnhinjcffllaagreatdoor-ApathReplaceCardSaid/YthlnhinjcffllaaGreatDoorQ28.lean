/-
  The law ApathTexts, walked.
-/
import Derived.Test.YthlnhinjcffllaaGreatDoorQ27
namespace Go.Proofs.YthlnhinjcffllaaGreatDoor
open Go.RowKit

theorem par_len (x : List UInt8) : (parseP x).2.fs.length ≤ 1000000 := by
  by_cases h : (parseP x).1 = 0
  · have := (chkE_ok.1 (text_parse (show parseP x = (0, (parseP x).2) by rw [← h])).2).2.2.2.1
    omega
  · rw [parse_err h]; exact Nat.zero_le _
set_option maxRecDepth 100000 in
set_option maxHeartbeats 8000000 in
theorem texts5 (p : Pth) (x : List UInt8) (a : Option Addr) (k : Nat) (w : World) (hw : AW w) (ha : StrsAt w a p.fs) (hpk : p.fs.length ≤ k) : Calls Tryz.prog 5 #[pV p a k, .string (mkB x)] w (Ret w (.bool true)) := by
  unfold pV
  obtain ⟨W, hW⟩ : ∃ W, W = w.alloc (.cells #[.int .i64 p.root, .int .i64 p.n, .slice a p.fs.length k, .bool p.star] 24) := ⟨_, rfl⟩
  have hB : Below w.heap.size w W := by rw [hW]; exact one_below ..
  have S0 : Hid (Cx w W [(w.heap.size, p, a, k)]) := ⟨hB, hw.below hB, ⟨ha.below hB, by rw [hW]; exact blk_new .., hpk⟩, trivial⟩
  clear hw ha hB hpk
  go_enter Tryz.func5, Tryz.ntmps5
  go_upto_region 1 with (fail)
  rw [← hW]
  clear hW
  obtain ⟨x0, x1, x2, x3⟩ := S0.out.bx.1.bk.four
  go_wp2_with fail
  refine (short8 p a k _ S0.out.bx.1.st).mono ?_
  rintro e w1 ⟨rfl, hb⟩
  have S1 := Lib.hid (S0.out.below hb)
  clear hb S0 x0 x1 x2 x3
  cases h1 : shortB p
  case false =>
    go_wp2_with fail
    refine (awake9 _ S1.out.aw).mono ?_
    rintro e w' ⟨rfl, hb⟩
    have HB2 := Lib.hid (S1.out.hb.trans (hb.mono S1.out.hb.size)); clear hb
    go_wp2
    go_ret
    exact ⟨rfl, HB2.out⟩
  have hz := mkB_size x
  by_cases hf : 300 < x.length
  case pos =>
    have d1 : decide (300 < ((mkB x).size : Int)) = true := by simp; omega
    clear hf hz
    go_wp2_with fail
    refine (awake9 _ S1.out.aw).mono ?_
    rintro e w' ⟨rfl, hb⟩
    have HB2 := Lib.hid (S1.out.hb.trans (hb.mono S1.out.hb.size)); clear hb
    go_wp2
    go_ret
    exact ⟨rfl, HB2.out⟩
  have d1 : decide (300 < ((mkB x).size : Int)) = false := by simp; omega
  have HP := Lib.hid (short_len h1)
  clear hf hz h1
  obtain ⟨tx, htx⟩ : ∃ tx, tx = txB p := ⟨_, rfl⟩
  obtain ⟨ce, hce⟩ : ∃ ce, ce = chkE p := ⟨_, rfl⟩
  obtain ⟨r, hr⟩ : ∃ r, r = (parseP x).2 := ⟨_, rfl⟩
  obtain ⟨pe, hpe⟩ : ∃ pe, pe = (parseP x).1 := ⟨_, rfl⟩
  have HRL : Hid (r.fs.length ≤ 1000000) := by rw [hr]; exact par_len x
  have HTX := Lib.hid htx
  have HCE := Lib.hid hce
  have HR := Lib.hid hr
  have HPE := Lib.hid hpe
  clear htx hce hr hpe
  obtain ⟨x0, x1, x2, x3⟩ := S1.out.bx.1.bk.four
  go_wp2_with fail
  refine (text19 p a k _ S1.out.aw.kw S1.out.aw.p10 S1.out.bx.1.st).mono ?_
  rintro e w2 ⟨rfl, hb⟩
  rw [txt_out, ← HTX.out, ← HCE.out]
  have S2 := Lib.hid (S1.out.below hb)
  clear hb S1 x0 x1 x2 x3 d1
  obtain ⟨x0, x1, x2, x3⟩ := S2.out.bx.1.bk.four
  go_wp2_with fail
  refine (text20 p a k _ S2.out.bx.1.st).mono ?_
  rintro e w3 ⟨rfl, hb⟩
  rw [txt_out, ← HTX.out, ← HCE.out]
  have S3 := Lib.hid (S2.out.below hb)
  clear hb S2 x0 x1 x2 x3
  obtain ⟨m, hm⟩ := S3.out.aw.mc
  go_wp2_with fail
  refine (parse21 x m _ S3.out.aw.kw hm).mono ?_
  clear hm
  intro e w4 hpost
  have hout := par_out hpost
  rw [← HR.out, ← HPE.out] at hout
  obtain ⟨hb, s, d, rfl, hs, hd⟩ := hout
  unfold pV
  have S4 := Lib.hid (S3.out.below hb)
  have HS4 := Lib.hid hs
  have HD4 := Lib.hid hd
  clear hpost hb hs hd S3
  go_upto_region 6 with (refine store24 rfl _ _ rfl w4.heap.size _ _ _ _ _ _ rfl rfl _ (blk_new ..) rfl ?_)
  have S5 := Lib.hid (S4.out.box HS4.out HD4.out)
  clear S4 HS4 HD4
  generalize (w4.alloc (.cells #[.int .i64 0, .int .i64 0, .slice none 0 0, .bool false] 24)).setRow w4.heap.size #[.int .i64 r.root, .int .i64 r.n, .slice s r.fs.length d, .bool r.star] = w5 at *
  obtain ⟨g9, hg9⟩ : ∃ g, g = w4.heap.size := ⟨_, rfl⟩
  rw [← hg9] at S5
  rw [← hg9]
  clear hg9
  go_wp2_with fail
  refine (parse22 x _).mono ?_
  intro e w6 hpost
  have hout := par_out hpost
  rw [← HR.out, ← HPE.out] at hout
  obtain ⟨hb, s2, d2, rfl, hs, hd⟩ := hout
  unfold pV
  have S6 := Lib.hid (S5.out.below hb)
  have HS6 := Lib.hid hs
  have HD6 := Lib.hid hd
  clear hpost hb hs hd S5
  go_upto_region 7 with (refine store24 rfl _ _ rfl w6.heap.size _ _ _ _ _ _ rfl rfl _ (blk_new ..) rfl ?_)
  have S7 := Lib.hid (S6.out.box HS6.out HD6.out)
  clear S6 HS6 HD6
  generalize (w6.alloc (.cells #[.int .i64 0, .int .i64 0, .slice none 0 0, .bool false] 24)).setRow w6.heap.size #[.int .i64 r.root, .int .i64 r.n, .slice s2 r.fs.length d2, .bool r.star] = w7 at *
  obtain ⟨g11, hg11⟩ : ∃ g, g = w6.heap.size := ⟨_, rfl⟩
  rw [← hg11] at S7
  rw [← hg11]
  clear hg11
  have e1 : (tx.toList == tx.toList) = true := beq_self_eq_true _
  have e2 : (ce == ce) = true := beq_self_eq_true _
  have e3 : (pe == pe) = true := beq_self_eq_true _
  have e4 := sameP_self r
  go_wp2_with fail
  refine (awake9 _ S7.out.aw).mono ?_
  rintro e w8 ⟨rfl, hb⟩
  have S8 := Lib.hid (S7.out.below hb)
  clear hb S7
  obtain ⟨y0, y1, y2, y3⟩ := S8.out.bx.1.bk.four
  obtain ⟨z0, z1, z2, z3⟩ := S8.out.bx.2.1.bk.four
  go_wp2_with fail
  refine (same14 r r s s2 d d2 _ S8.out.bx.2.1.st S8.out.bx.1.st HRL.out).mono ?_
  rintro e w9 ⟨rfl, hb⟩
  have HB := Lib.hid (S8.out.hb.trans (hb.mono S8.out.hb.size)); clear hb
  rw [e4]
  go_wp2
  go_ret
  exact ⟨rfl, HB.out⟩
end Go.Proofs.YthlnhinjcffllaaGreatDoor
