import Derived.Test.YtlkafolgbkobpaaDoorA6
namespace Go.Proofs.YtlkafolgbkobpaaDoor
open Go.RowKit Go.Sort

theorem StrsAt.take {w : World} {a : Option Addr} {l : List ByteArray} (h : StrsAt w a l) (k : Nat) : StrsAt w a (l.take k) := by
  intro j hj
  obtain ⟨b, off, ha, hc⟩ := h j (by simp at hj; omega)
  exact ⟨b, off, ha, by simpa using hc⟩
theorem at29n (a : Option Addr) (n cap : Nat) (ss : List ByteArray) (s : ByteArray) (w : World) (hn : ss.length = n) (hm : n ≤ 1000000)
    (hc : StrsAt w a ss) : Calls Tryd.prog 29 #[.slice a n cap, .string s] w (Same w (.int .i64 (idx ss s))) := by
  subst hn; exact at29 a cap ss s w hm hc
theorem contains26n (a : Option Addr) (n cap : Nat) (ss : List ByteArray) (s : ByteArray) (w : World) (hn : ss.length = n) (hm : n ≤ 1000000)
    (hc : StrsAt w a ss) : Calls Tryd.prog 26 #[.slice a n cap, .string s] w (Same w (.bool (decide (0 ≤ idx ss s)))) := by
  subst hn; exact contains26 a cap ss s w hm hc
theorem Calls.quiet_same {P : Program} {f : FuncId} {args : Array Value} {w : World} {n : Nat} {v : Value}
    (h : Calls P f args (w.drewN n) (Same (w.drewN n) v)) : Calls P f args (w.drewN n) fun e w'' => e = .returned v ∧ ∃ m, w'' = w.drewN m :=
  h.mono fun _ _ ⟨he, hm⟩ => ⟨he, n, hm.symm⟩
theorem StrsAt.drewN {w : World} {a : Option Addr} {l : List ByteArray} (h : StrsAt w a l) (n : Nat) : StrsAt (w.drewN n) a l := by
  intro j hj
  obtain ⟨b, off, ha, hc⟩ := h j hj
  exact ⟨b, off, ha, by simpa using hc⟩
theorem below_drewN' {B : Nat} {a w : World} (h : Below B a w) (n : Nat) : Below B a (w.drewN n) := ⟨h.os, h.tape, h.output, h.size, h.block⟩

def stsErr (l : List ByteArray) (k : Nat) : Int :=
  if h : k < l.length then
    if identB l[k] = false then 5
    else if 0 ≤ idx (l.take k) l[k] then 7
    else stsErr l (k + 1)
  else 0
termination_by l.length - k
theorem stsErr_name {l : List ByteArray} {k : Nat} (h : k < l.length) (h1 : identB l[k] = false) : stsErr l k = 5 := by rw [stsErr, dif_pos h, if_pos h1]
theorem stsErr_ex {l : List ByteArray} {k : Nat} (h : k < l.length) (h1 : identB l[k] = true) (h2 : 0 ≤ idx (l.take k) l[k]) : stsErr l k = 7 := by rw [stsErr, dif_pos h, if_neg (by simp [h1]), if_pos h2]
theorem stsErr_ok {l : List ByteArray} {k : Nat} (h : k < l.length) (h1 : identB l[k] = true) (h2 : ¬ 0 ≤ idx (l.take k) l[k]) : stsErr l k = stsErr l (k + 1) := by rw [stsErr, dif_pos h, if_neg (by simp [h1]), if_neg h2]
theorem stsErr_end {l : List ByteArray} {k : Nat} (h : ¬ k < l.length) : stsErr l k = 0 := by rw [stsErr, dif_neg h]
def checkP (p : Pr) : Int :=
  if identB p.cls = false then 5
  else if 16 < p.sts.length ∨ 256 < p.mvs.length then 3
  else if p.sts.length = 0 then 4
  else if stsErr p.sts 0 ≠ 0 then stsErr p.sts 0
  else if stB p p.start = false ∨ stB p p.err = false then 4
  else if p.start = p.err then 1
  else mvsErr p 0
theorem check_a {p : Pr} (h : identB p.cls = false) : checkP p = 5 := by simp only [checkP]; rw [if_pos h]
theorem check_b {p : Pr} (h : identB p.cls = true) (h2 : 16 < p.sts.length ∨ 256 < p.mvs.length) : checkP p = 3 := by simp only [checkP]; rw [if_neg (by simp [h]), if_pos h2]
theorem check_c {p : Pr} (h : identB p.cls = true) (h2 : ¬ (16 < p.sts.length ∨ 256 < p.mvs.length)) (h3 : p.sts.length = 0) : checkP p = 4 := by
  simp only [checkP]; rw [if_neg (by simp [h]), if_neg h2, if_pos h3]
theorem check_d {p : Pr} (h : identB p.cls = true) (h2 : ¬ (16 < p.sts.length ∨ 256 < p.mvs.length)) (h3 : ¬ p.sts.length = 0) (h4 : stsErr p.sts 0 ≠ 0) : checkP p = stsErr p.sts 0 := by
  simp only [checkP]; rw [if_neg (by simp [h]), if_neg h2, if_neg h3, if_pos h4]
theorem check_e {p : Pr} (h : identB p.cls = true) (h2 : ¬ (16 < p.sts.length ∨ 256 < p.mvs.length)) (h3 : ¬ p.sts.length = 0) (h4 : stsErr p.sts 0 = 0) (h5 : stB p p.start = false ∨ stB p p.err = false) : checkP p = 4 := by
  simp only [checkP]; rw [if_neg (by simp [h]), if_neg h2, if_neg h3, if_neg (by simp [h4]), if_pos h5]
theorem check_f {p : Pr} (h : identB p.cls = true) (h2 : ¬ (16 < p.sts.length ∨ 256 < p.mvs.length)) (h3 : ¬ p.sts.length = 0) (h4 : stsErr p.sts 0 = 0) (h5 : stB p p.start = true) (h6 : stB p p.err = true) (h7 : p.start = p.err) : checkP p = 1 := by
  simp only [checkP]; rw [if_neg (by simp [h]), if_neg h2, if_neg h3, if_neg (by simp [h4]), if_neg (by simp [h5, h6]), if_pos h7]
theorem check_g {p : Pr} (h : identB p.cls = true) (h2 : ¬ (16 < p.sts.length ∨ 256 < p.mvs.length)) (h3 : ¬ p.sts.length = 0) (h4 : stsErr p.sts 0 = 0) (h5 : stB p p.start = true) (h6 : stB p p.err = true) (h7 : ¬ p.start = p.err) : checkP p = mvsErr p 0 := by
  simp only [checkP]; rw [if_neg (by simp [h]), if_neg h2, if_neg h3, if_neg (by simp [h4]), if_neg (by simp [h5, h6]), if_neg h7]

set_option maxRecDepth 100000 in
set_option maxHeartbeats 1000000 in
theorem check16 (p : Pr) (a1 : Option Addr) (c1 : Nat) (a2 : Option Addr) (c2 : Nat) (w : World) (hs : StrsAt w a1 p.sts) (hm : MvsAt w a2 p.mvs) (hc : p.sts.length ≤ c1) :
    Calls Tryd.prog 16 #[PrV p a1 c1 a2 c2] w (Ret w (.int .i64 (checkP p))) := by
  unfold PrV
  have hbox := Box.new w p a1 c1 a2 c2 25
  have hb0 : Below w.heap.size w (w.alloc (.cells #[.string p.cls, .slice a1 p.sts.length c1, .int .i64 p.start, .int .i64 p.err, .slice a2 p.mvs.length c2] 25)) := (Below.refl _ _).alloc (Nat.le_refl _) _
  have HS := Lib.hid hs; clear hs
  have HM := Lib.hid hm; clear hm
  have HBX := Lib.hid hbox; clear hbox
  have HB0 := Lib.hid hb0; clear hb0
  go_enter Tryd.func16, Tryd.ntmps16
  cases hid : identB p.cls
  · go_wp2_with fail
    refine (ident28 _ _).mono ?_
    rintro e w1 ⟨rfl, hb1⟩
    rw [hid]
    go_wp2
    go_ret
    exact ⟨ret_int (check_a hid).symm, HB0.out.trans (hb1.mono HB0.out.size)⟩
  go_wp2_with fail
  refine (ident28 _ _).mono ?_
  rintro e w1 ⟨rfl, hb1⟩
  rw [hid]
  have hb : Below w.heap.size w w1 := HB0.out.trans (hb1.mono HB0.out.size)
  have BX := Lib.hid (HBX.out.below hb1)
  clear hb1 HBX HB0
  obtain ⟨q0, q1, q2, q3, q4⟩ := BX.out
  by_cases h16 : 16 < p.sts.length
  · go_wp2
    go_ret
    exact ⟨ret_int (check_b hid (.inl h16)).symm, hb⟩
  by_cases h256 : 256 < p.mvs.length
  · go_wp2
    go_ret
    exact ⟨ret_int (check_b hid (.inr h256)).symm, hb⟩
  have H2 : Hid (¬ (16 < p.sts.length ∨ 256 < p.mvs.length)) := by show ¬ _; omega
  by_cases h0 : p.sts.length = 0
  · have h0' : ((p.sts.length : Int) == 0) = true := by simp [h0]
    have H0 := Lib.hid h0; clear h0
    go_wp2
    go_ret
    exact ⟨ret_int (check_c hid H2.out H0.out).symm, hb⟩
  have h0' : ((p.sts.length : Int) == 0) = false := by simpa using h0
  have H0 := Lib.hid h0; clear h0
  have d16 : decide (16 < (p.sts.length : Int)) = false := by simp; omega
  have d256 : decide (256 < (p.mvs.length : Int)) = false := by simp; omega
  go_wp2
  go_loopw [3] (fun i wr => ∃ k : Nat, k ≤ p.sts.length ∧ i = .int .i64 k ∧ Hid (stsErr p.sts k = stsErr p.sts 0) ∧ Below w.heap.size w wr ∧ Hid (Box wr w.heap.size p a1 c1 a2 c2)) (fun i _ => p.sts.length - (intOf i).toNat)
  case atStart => exact ⟨0, Nat.zero_le _, rfl, rfl, hb, BX.out⟩
  case round =>
    clear q0 q1 q2 q3 q4 hb BX
    obtain ⟨k, hk, rfl, HI, hb, BX⟩ := hrel
    obtain ⟨q0, q1, q2, q3, q4⟩ := BX.out
    by_cases hlt : k < p.sts.length
    · have HS1 := Lib.hid (HS.out.below hb)
      obtain ⟨b, off, rfl, m1⟩ := HS1.out k hlt
      obtain ⟨x, hx⟩ : ∃ x, x = p.sts[k] := ⟨_, rfl⟩
      rw [← hx] at m1
      have HX := Lib.hid hx; clear hx
      cases hix : identB x
      · go_wp2_with fail
        refine (ident28 _ _).mono ?_
        rintro e w2 ⟨rfl, hb1⟩
        rw [hix]
        have FIN : Hid (checkP p = 5) := by
          show _ = _
          have h5 : stsErr p.sts 0 = 5 := by rw [← HI.out]; exact stsErr_name hlt (by rw [← HX.out]; exact hix)
          rw [check_d hid H2.out H0.out (by rw [h5]; decide), h5]
        have hb2 := hb.trans (hb1.mono hb.size)
        clear hb1
        go_wp2
        go_ret
        exact ⟨ret_int FIN.out.symm, hb2⟩
      go_wp2_with fail
      refine (ident28 _ _).mono ?_
      rintro e w2 ⟨rfl, hb1⟩
      rw [hix]
      have hb2 := hb.trans (hb1.mono hb.size)
      have BX2 := Lib.hid (BX.out.below hb1)
      have m1 := cell_below hb1 m1
      have HS2 := Lib.hid (HS1.out.below hb1)
      clear q0 q1 q2 q3 q4 hb hb1 BX HS1
      obtain ⟨q0, q1, q2, q3, q4⟩ := BX2.out
      by_cases hin : 0 ≤ idx (p.sts.take k) x
      · have FIN : Hid (checkP p = 7) := by
          show _ = _
          have h5 : stsErr p.sts 0 = 7 := by rw [← HI.out]; exact stsErr_ex hlt (by rw [← HX.out]; exact hix) (by rw [← HX.out]; exact hin)
          rw [check_d hid H2.out H0.out (by rw [h5]; decide), h5]
        go_wp2
        go_quiet ((go_at_call 29; exact Calls.quiet_same (at29n _ _ _ (p.sts.take k) x _ (by simp; omega) (by omega) ((HS2.out.take k).drewN _))))
        go_wp2
        go_ret
        exact ⟨ret_int FIN.out.symm, below_drewN' hb2 _⟩
      · go_wp2
        go_quiet ((go_at_call 29; exact Calls.quiet_same (at29n _ _ _ (p.sts.take k) x _ (by simp; omega) (by omega) ((HS2.out.take k).drewN _))))
        go_wp2
        go_roundw
        case rel =>
          refine ⟨k + 1, by omega, by go_num, ?_, below_drewN' hb2 _, BX2.out.below (below_drewN' (Below.refl _ _) _)⟩
          show _ = _
          rw [← HI.out]
          exact (stsErr_ok hlt (by rw [← HX.out]; exact hix) (by rw [← HX.out]; omega)).symm
        case measure => simp [intOf]; omega
    · have hE : stsErr p.sts 0 = 0 := by rw [← HI.out]; exact stsErr_end hlt
      have HE := Lib.hid hE; clear hE
      by_cases f0 : p.start < 0
      · go_wp2
        go_ret
        exact ⟨ret_int (check_e hid H2.out H0.out HE.out (.inl (stB_f (.inl f0)))).symm, hb⟩
      by_cases f1 : (p.sts.length : Int) ≤ p.start
      · go_wp2
        go_ret
        exact ⟨ret_int (check_e hid H2.out H0.out HE.out (.inl (stB_f (.inr f1)))).symm, hb⟩
      by_cases t0 : p.err < 0
      · go_wp2
        go_ret
        exact ⟨ret_int (check_e hid H2.out H0.out HE.out (.inr (stB_f (.inl t0)))).symm, hb⟩
      by_cases t1 : (p.sts.length : Int) ≤ p.err
      · go_wp2
        go_ret
        exact ⟨ret_int (check_e hid H2.out H0.out HE.out (.inr (stB_f (.inr t1)))).symm, hb⟩
      have S1 := Lib.hid (stB_t (p := p) (q := p.start) (by omega) (by omega))
      have S2 := Lib.hid (stB_t (p := p) (q := p.err) (by omega) (by omega))
      by_cases e1 : p.start = p.err
      · have e1' : (p.start == p.err) = true := by simp [e1]
        have E1 := Lib.hid e1; clear e1
        go_wp2
        go_ret
        exact ⟨ret_int (check_f hid H2.out H0.out HE.out S1.out S2.out E1.out).symm, hb⟩
      have e1' : (p.start == p.err) = false := by simpa using e1
      have E1 := Lib.hid e1; clear e1
      go_wp2_with fail
      refine (moves30 p _ _ _ _ _ (by omega) (by omega) (HM.out.below hb)).mono ?_
      rintro e w2 ⟨rfl, hb1⟩
      have hb2 := hb.trans (hb1.mono hb.size)
      clear hb1
      go_wp2
      go_ret
      exact ⟨ret_int (check_g hid H2.out H0.out HE.out S1.out S2.out E1.out).symm, hb2⟩
end Go.Proofs.YtlkafolgbkobpaaDoor
