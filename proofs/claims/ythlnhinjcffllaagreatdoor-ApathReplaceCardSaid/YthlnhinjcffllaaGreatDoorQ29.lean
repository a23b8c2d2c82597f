/-
  The law ApathBack, walked.
-/
import Derived.Test.YthlnhinjcffllaaGreatDoorQ28
namespace Go.Proofs.YthlnhinjcffllaaGreatDoor
open Go.RowKit

set_option maxRecDepth 100000 in
set_option maxHeartbeats 8000000 in
theorem back6 (p : Pth) (x : List UInt8) (a : Option Addr) (k : Nat) (w : World) (hw : AW w) (ha : StrsAt w a p.fs) (hpk : p.fs.length ≤ k) : Calls Tryz.prog 6 #[pV p a k, .string (mkB x)] w (Ret w (.bool true)) := by
  unfold pV
  obtain ⟨W, hW⟩ : ∃ W, W = w.alloc (.cells #[.int .i64 p.root, .int .i64 p.n, .slice a p.fs.length k, .bool p.star] 24) := ⟨_, rfl⟩
  have hB : Below w.heap.size w W := by rw [hW]; exact one_below ..
  have S0 : Hid (Cx w W [(w.heap.size, p, a, k)]) := ⟨hB, hw.below hB, ⟨ha.below hB, by rw [hW]; exact blk_new .., hpk⟩, trivial⟩
  clear hw ha hB hpk
  go_enter Tryz.func6, Tryz.ntmps6
  go_upto_region 1 with (fail)
  rw [← hW]
  clear hW
  obtain ⟨x0, x1, x2, x3⟩ := S0.out.bx.1.bk.four
  go_wp2_with fail
  refine (short8 p a k _ S0.out.bx.1.st).mono ?_
  rintro e w1 ⟨rfl, hb⟩
  have S1 := Lib.hid (S0.out.below hb)
  clear hb S0 x0 x1 x2 x3
  cases h1 : shortB p
  case false =>
    go_wp2_with fail
    refine (awake9 _ S1.out.aw).mono ?_
    rintro e w' ⟨rfl, hb⟩
    have HB2 := Lib.hid (S1.out.hb.trans (hb.mono S1.out.hb.size)); clear hb
    go_wp2
    go_ret
    exact ⟨rfl, HB2.out⟩
  have hz := mkB_size x
  by_cases hf : 300 < x.length
  case pos =>
    have d1 : decide (300 < ((mkB x).size : Int)) = true := by simp; omega
    clear hf hz
    go_wp2_with fail
    refine (awake9 _ S1.out.aw).mono ?_
    rintro e w' ⟨rfl, hb⟩
    have HB2 := Lib.hid (S1.out.hb.trans (hb.mono S1.out.hb.size)); clear hb
    go_wp2
    go_ret
    exact ⟨rfl, HB2.out⟩
  have d1 : decide (300 < ((mkB x).size : Int)) = false := by simp; omega
  have HP := Lib.hid (short_len h1)
  clear hf hz h1
  go_wp2_with fail
  refine (awake9 _ S1.out.aw).mono ?_
  rintro e w2 ⟨rfl, hb⟩
  have S2 := Lib.hid (S1.out.below hb)
  clear hb S1 d1
  obtain ⟨tx, htx⟩ : ∃ tx, tx = txB p := ⟨_, rfl⟩
  obtain ⟨ce, hce⟩ : ∃ ce, ce = chkE p := ⟨_, rfl⟩
  have HTX := Lib.hid htx
  have HCE := Lib.hid hce
  clear htx hce
  obtain ⟨x0, x1, x2, x3⟩ := S2.out.bx.1.bk.four
  go_wp2_with fail
  refine (text19 p a k _ S2.out.aw.kw S2.out.aw.p10 S2.out.bx.1.st).mono ?_
  rintro e w3 ⟨rfl, hb⟩
  rw [txt_out, ← HTX.out, ← HCE.out]
  have S3 := Lib.hid (S2.out.below hb)
  clear hb S2 x0 x1 x2 x3
  go_upto_if 32 with (fail)
  go_cut [4] (fun v wx => v = .bool false ∧ Cx w wx [(w.heap.size, p, a, k)])
  case first =>
    by_cases h0 : ce = 0
    case neg =>
      have t1 : (ce == 0) = false := by simpa using h0
      clear h0
      go_wp2
      go_meet
      exact ⟨rfl, S3.out⟩
    have t1 : (ce == 0) = true := by simpa using h0
    have HC0 : Hid (chkE p = 0) := by show _ = _; rw [← HCE.out, h0]
    have HT2 : Hid (tx = mkB (textL p)) := by show _ = _; rw [HTX.out]; unfold txB; rw [if_pos HC0.out]
    clear h0
    obtain ⟨m, hm⟩ := S3.out.aw.mc
    have hcall := parse21 (textL p) m _ S3.out.aw.kw hm
    rw [← HT2.out] at hcall
    have HCALL := Lib.hid hcall
    clear hm hcall
    go_wp2_with fail
    refine HCALL.out.mono ?_
    clear HCALL
    intro e w4 hpost
    have hout := par_out hpost
    rw [parse_text HC0.out] at hout
    obtain ⟨hb, s, d, rfl, hs, hd⟩ := hout
    unfold pV
    have S4 := Lib.hid (S3.out.below hb)
    have HS4 := Lib.hid hs
    have HD4 := Lib.hid hd
    clear hpost hb hs hd S3
    go_upto_region 6 with (refine store24 rfl _ _ rfl w4.heap.size _ _ _ _ _ _ rfl rfl _ (blk_new ..) rfl ?_)
    have S5 := Lib.hid (S4.out.box HS4.out HD4.out)
    clear S4 HS4 HD4
    generalize (w4.alloc (.cells #[.int .i64 0, .int .i64 0, .slice none 0 0, .bool false] 24)).setRow w4.heap.size #[.int .i64 p.root, .int .i64 p.n, .slice s p.fs.length d, .bool p.star] = w5 at *
    obtain ⟨g7, hg7⟩ : ∃ g, g = w4.heap.size := ⟨_, rfl⟩
    rw [← hg7] at S5
    rw [← hg7]
    clear hg7
    obtain ⟨y0, y1, y2, y3⟩ := S5.out.bx.1.bk.four
    obtain ⟨z0, z1, z2, z3⟩ := S5.out.bx.2.1.bk.four
    go_wp2_with fail
    refine (same14 p p a s k d _ S5.out.bx.2.1.st S5.out.bx.1.st (by have := HP.out; omega)).mono ?_
    rintro e w6 ⟨rfl, hb⟩
    rw [sameP_self]
    have S6 := Lib.hid (S5.out.below hb)
    clear hb
    go_wp2
    go_meet
    exact ⟨rfl, S6.out.hb, S6.out.aw, S6.out.bx.2⟩
  case rest =>
  obtain ⟨rfl, hcx⟩ := hcut
  have S4 := Lib.hid hcx
  clear hcx S3
  obtain ⟨r, hr⟩ : ∃ r, r = (parseP x).2 := ⟨_, rfl⟩
  obtain ⟨pe, hpe⟩ : ∃ pe, pe = (parseP x).1 := ⟨_, rfl⟩
  have HR := Lib.hid hr
  have HPE := Lib.hid hpe
  clear hr hpe
  obtain ⟨m, hm⟩ := S4.out.aw.mc
  go_wp2_with fail
  refine (parse21 x m _ S4.out.aw.kw hm).mono ?_
  clear hm
  intro e w5 hpost
  have hout := par_out hpost
  rw [← HR.out, ← HPE.out] at hout
  obtain ⟨hb, s, d, rfl, hs, hd⟩ := hout
  unfold pV
  have S5 := Lib.hid (S4.out.below hb)
  have HS5 := Lib.hid hs
  have HD5 := Lib.hid hd
  clear hpost hb hs hd S4
  go_upto_region 9 with (refine store24 rfl _ _ rfl w5.heap.size _ _ _ _ _ _ rfl rfl _ (blk_new ..) rfl ?_)
  have S6 := Lib.hid (S5.out.box HS5.out HD5.out)
  clear S5 HS5 HD5
  generalize (w5.alloc (.cells #[.int .i64 0, .int .i64 0, .slice none 0 0, .bool false] 24)).setRow w5.heap.size #[.int .i64 r.root, .int .i64 r.n, .slice s r.fs.length d, .bool r.star] = w6 at *
  obtain ⟨g9, hg9⟩ : ∃ g, g = w5.heap.size := ⟨_, rfl⟩
  rw [← hg9] at S6
  rw [← hg9]
  clear hg9
  by_cases h0 : pe = 0
  case neg =>
    have t1 : (pe != 0) = true := by simpa using h0
    clear h0
    go_wp2
    go_ret
    exact ⟨rfl, S6.out.hb⟩
  have t1 : (pe != 0) = false := by simp [h0]
  have HTP := Lib.hid (text_parse (s := x) (p := r) (by rw [HR.out, ← h0, HPE.out]))
  clear h0
  obtain ⟨y0, y1, y2, y3⟩ := S6.out.bx.1.bk.four
  go_wp2_with fail
  refine (text19 r s d _ S6.out.aw.kw S6.out.aw.p10 S6.out.bx.1.st).mono ?_
  rintro e w7 ⟨rfl, hb⟩
  have hv : txtV r = .tuple #[.string (mkB x), .int .i64 0] := by unfold txtV; rw [if_pos HTP.out.2, HTP.out.1]
  rw [hv]
  have S7 := Lib.hid (S6.out.below hb)
  clear hb hv S6 y0 y1 y2 y3
  have e1 : ((mkB x).toList == (mkB x).toList) = true := beq_self_eq_true _
  go_wp2
  go_ret
  exact ⟨rfl, S7.out.hb⟩
end Go.Proofs.YthlnhinjcffllaaGreatDoor
