/-
  The law Split.
-/
import Derived.Test.YtpgmjfnjdgdmcaaDoorP34
namespace Go.Proofs.YtpgmjfnjdgdmcaaDoor
open Go.RowKit Go.Sort

theorem split_len (notes : List Nt) (l : List Fd) : (openOf notes l).length + (hidOf notes l).length = l.length := by
  unfold openOf hidOf
  rw [List.length_map]
  induction l with
  | nil => rfl
  | cons x l ih =>
    simp only [List.filter_cons]
    cases isOpen notes x <;> simp <;> omega
theorem filter_at {α : Type} (p : α → Bool) : ∀ (l : List α) (n : Nat) (h : n < l.length), p l[n] = true → ∃ h2 : ((l.take n).filter p).length < (l.filter p).length, (l.filter p)[((l.take n).filter p).length] = l[n]
  | x :: l, 0, _, hp => by
    simp only [List.getElem_cons_zero] at hp
    simp [hp]
  | x :: l, n + 1, h, hp => by
    obtain ⟨h2, h3⟩ := filter_at p l n (by simpa using h) (by simpa using hp)
    cases hx : p x
    · simp only [List.take_succ_cons, List.filter_cons, hx, Bool.false_eq_true, if_false, List.getElem_cons_succ]
      exact ⟨h2, h3⟩
    · simp only [List.take_succ_cons, List.filter_cons, hx, if_true, List.getElem_cons_succ, List.length_cons]
      exact ⟨by omega, h3⟩
theorem open_at {notes : List Nt} {l : List Fd} {n : Nat} (h : n < l.length) (ho : isOpen notes l[n] = true) : ∃ h2 : (openOf notes (l.take n)).length < (openOf notes l).length, (openOf notes l)[(openOf notes (l.take n)).length] = l[n] := filter_at _ l n h ho
theorem hid_at {notes : List Nt} {l : List Fd} {n : Nat} (h : n < l.length) (ho : isOpen notes l[n] = false) : ∃ h2 : (hidOf notes (l.take n)).length < (hidOf notes l).length, (hidOf notes l)[(hidOf notes (l.take n)).length] = (l[n], fstN notes l[n]) := by
  obtain ⟨h2, h3⟩ := filter_at (fun f => !isOpen notes f) l n h (by rw [ho]; rfl)
  unfold hidOf
  simp only [List.length_map, List.getElem_map]
  exact ⟨h2, by rw [h3]⟩
theorem hid_unused {notes : List Nt} {l : List Fd} {n : Nat} : ∀ x ∈ hidOf notes l, ∀ u ∈ unusedTo notes l n, x.2 ≠ (u : Int) := by
  intro x hx u hu he
  obtain ⟨f, hf, rfl⟩ := List.mem_map.1 hx
  have h1 := (List.mem_filter.1 hf).1
  have h2 := (List.mem_filter.1 hu).2
  have : hits notes l u = true := by
    unfold hits
    rw [List.any_eq_true]
    exact ⟨f, h1, by simpa using he⟩
  rw [this] at h2
  cases h2

set_option maxRecDepth 100000 in
set_option maxHeartbeats 8000000 in
theorem split7 (l : List Fd) (notes : List Nt) (a : Option Addr) (c : Nat) (b : Option Addr) (d : Nat) (ad : Addr) (m : Int) (w : World) (hk : KW w) (hm : w.cell? ⟨2, 0, none⟩ = some (.int .i64 m)) (hE : w.cell? ⟨0, 0, none⟩ = some (.iface 134 (.pointer (some ad))))
    (hl : FdsAt w a l) (hn : NtsAt w b notes) (hll : l.length ≤ 1000000000000000) (hp : ∀ f ∈ l, f.path.length ≤ 1000000000000000) (hwf : ∀ f ∈ l, f.what.size ≤ 9223372036854775807) (hwn : ∀ n ∈ notes, n.what.size ≤ 9223372036854775807) :
    Calls Tryd.prog 7 #[.slice a l.length c, .slice b notes.length d] w (Ret w (.bool true)) := by
  have HK := Lib.hid hk; clear hk
  have HM := Lib.hid hm; clear hm
  have HE := Lib.hid hE; clear hE
  have HL := Lib.hid hl; clear hl
  have HN := Lib.hid hn; clear hn
  have HP := Lib.hid hp; clear hp
  have HWF := Lib.hid hwf; clear hwf
  have HWN := Lib.hid hwn; clear hwn
  go_enter Tryd.func7, Tryd.ntmps7
  go_wp2_with fail
  refine (size18 l a c b notes.length d _ HL.out hll HP.out).mono ?_
  rintro e w1 ⟨rfl, rfl⟩
  cases hs : smallB l notes.length
  · go_wp2_with fail
    refine (awake12 ad m _ HK.out HM.out HE.out).mono ?_
    rintro e w1 ⟨rfl, hb⟩
    have HB := Lib.hid hb; clear hb
    go_wp2
    go_ret
    exact ⟨rfl, HB.out⟩
  obtain ⟨s1, s2, s3⟩ := small_le hs
  have S3 := Lib.hid s3
  clear s3 hs HP hll
  go_wp2_with fail
  refine (apply19 l notes a c b d _ HK.out HL.out HN.out S3.out (by omega) (by omega)).mono ?_
  rintro e w1 ⟨hb1, hpost⟩
  rcases hpost with ⟨h0, rfl⟩ | ⟨h0, _, _, ao, co, ah, ch, au, cu, rfl, h1, h2, h3⟩
  · have H0 := Lib.hid h0; clear h0
    have hA : Below w1.heap.size w1 (w1.alloc (.cells zeroRep 46)) := (Below.refl _ _).alloc (Nat.le_refl _) _
    have HB2 := Lib.hid (hb1.trans (hA.mono hb1.size))
    clear hA hb1
    unfold zeroRep at HB2 ⊢
    go_wp2_with fail
    refine (apply20 l notes a c b d _ (HL.out.below HB2.out) (HN.out.below HB2.out) HWF.out HWN.out S3.out (by omega) (by omega)).mono ?_
    rintro e w3 ⟨hb3, hpost⟩
    rcases hpost with ⟨_, rfl⟩ | ⟨h0, _⟩
    · have hA : Below w3.heap.size w3 (w3.alloc (.cells zeroRep 46)) := (Below.refl _ _).alloc (Nat.le_refl _) _
      have HB3 := Lib.hid (HB2.out.trans (hb3.mono HB2.out.size))
      have HB4 := Lib.hid (HB3.out.trans (hA.mono HB3.out.size))
      clear hA hb3 HB3
      unfold zeroRep at HB4 ⊢
      have e1 := eqi_self (appE l notes)
      have e2 : (appE l notes != 0) = true := by simpa using H0.out
      go_wp2_with fail
      refine (awake12 ad m _ (HK.out.below HB4.out) (cell_below HB4.out HM.out) (cell_below HB4.out HE.out)).mono ?_
      rintro e w6 ⟨rfl, hb⟩
      have HB := Lib.hid (HB4.out.trans (hb.mono HB4.out.size)); clear hb
      go_wp2
      go_ret
      exact ⟨rfl, HB.out⟩
    · exact absurd h0 H0.out
  have HZ := Lib.hid h0
  have lO := openOf_le notes l
  have lH := hidOf_le notes l
  have lU := unusedTo_le notes l notes.length
  have lS := split_len notes l
  have hA : Below w1.heap.size w1 (w1.alloc (.cells #[.slice ao (openOf notes l).length co, .slice ah (hidOf notes l).length ch, .slice au (unusedTo notes l notes.length).length cu] 46)) := (Below.refl _ _).alloc (Nat.le_refl _) _
  have B2 : Hid (Blk (w1.alloc (.cells #[.slice ao (openOf notes l).length co, .slice ah (hidOf notes l).length ch, .slice au (unusedTo notes l notes.length).length cu] 46)) w1.heap.size #[.slice ao (openOf notes l).length co, .slice ah (hidOf notes l).length ch, .slice au (unusedTo notes l notes.length).length cu] 46) := blk_new _ _ _
  have HB2 := Lib.hid (hb1.trans (hA.mono hb1.size))
  have H1 := Lib.hid (h1.below hA)
  have H2 := Lib.hid (h2.below hA)
  have H3 := Lib.hid (h3.below hA)
  clear hA hb1 h1 h2 h3 h0
  go_wp2_with fail
  obtain ⟨g5, hg5⟩ : ∃ g, g = w1.heap.size := ⟨_, rfl⟩
  rw [← hg5] at B2 ⊢
  clear hg5
  generalize w1.alloc (.cells #[.slice ao (openOf notes l).length co, .slice ah (hidOf notes l).length ch, .slice au (unusedTo notes l notes.length).length cu] 46) = w2 at *
  refine (apply20 l notes a c b d _ (HL.out.below HB2.out) (HN.out.below HB2.out) HWF.out HWN.out S3.out (by omega) (by omega)).mono ?_
  rintro e w3 ⟨hb3, hpost⟩
  rcases hpost with ⟨h0, _⟩ | ⟨_, _, _, bo, do_, bh, dh, bu, du, rfl, _⟩
  · exact absurd HZ.out h0
  have hA : Below w3.heap.size w3 (w3.alloc (.cells #[.slice bo (openOf notes l).length do_, .slice bh (hidOf notes l).length dh, .slice bu (unusedTo notes l notes.length).length du] 46)) := (Below.refl _ _).alloc (Nat.le_refl _) _
  have HB3 := Lib.hid (HB2.out.trans (hb3.mono HB2.out.size))
  have HB4 := Lib.hid (HB3.out.trans (hA.mono HB3.out.size))
  have B4 := Lib.hid ((B2.out.below hb3).below hA)
  have G1 := Lib.hid ((H1.out.below hb3).below hA)
  have G2 := Lib.hid ((H2.out.below hb3).below hA)
  have G3 := Lib.hid ((H3.out.below hb3).below hA)
  clear hb3 hA HB2 HB3 B2 H1 H2 H3
  go_upto_region 5 with (fail)
  generalize w3.alloc (.cells #[.slice bo (openOf notes l).length do_, .slice bh (hidOf notes l).length dh, .slice bu (unusedTo notes l notes.length).length du] 46) = w4 at *
  have c0 : w4.cell? ⟨g5, 0, none⟩ = some (.slice ao (openOf notes l).length co) := B4.out.cell 0 (by simp)
  have c1 : w4.cell? ⟨g5, 1, none⟩ = some (.slice ah (hidOf notes l).length ch) := B4.out.cell 1 (by simp)
  have hsum : IntKind.i64.wrap (((openOf notes l).length : Int) + ((hidOf notes l).length : Int)) = (l.length : Int) := by rw [IntWalk.i64_in _ (by omega)]; omega
  have e2 := neq_self (l.length : Int)
  clear lS
  go_wp2
  clear c0 c1 hsum e2
  go_loopw [9, 10, 11] (fun vi vj vn wr => ∃ n i j : Nat, n ≤ l.length ∧ vi = .int .i64 i ∧ vj = .int .i64 j ∧ vn = .int .i64 n ∧ i ≤ n ∧ j ≤ n ∧ Hid (i = (openOf notes (l.take n)).length) ∧ Hid (j = (hidOf notes (l.take n)).length) ∧ Hid (Below w4.heap.size w4 wr)) (fun _ _ vn _ => l.length - (intOf vn).toNat)
  case atStart => exact ⟨0, 0, 0, Nat.zero_le _, rfl, rfl, rfl, Nat.le_refl _, Nat.le_refl _, rfl, rfl, Below.refl _ _⟩
  case round =>
    obtain ⟨n, i, j, hn, rfl, rfl, rfl, hin, hjn, HI, HJ, HW⟩ := hrel
    by_cases hlt : n < l.length
    · have HBW := Lib.hid (HB4.out.trans (HW.out.mono HB4.out.size))
      obtain ⟨g2, o2, qa, qc, rfl, p0, p1, p2, p3, p4, p5, np, _⟩ := HL.out.below HBW.out n hlt
      have HX : Hid (l.take (n + 1) = l.take n ++ [l[n]]) := List.take_succ_eq_append_getElem hlt
      have hpl := S3.out _ (List.getElem_mem hlt)
      have HOA := Lib.hid (open_at (notes := notes) hlt)
      have HHA := Lib.hid (hid_at (notes := notes) hlt)
      have HQ := Lib.hid np
      clear np
      obtain ⟨x, hx⟩ : ∃ x, x = l[n] := ⟨_, rfl⟩
      rw [← hx] at p0 p1 p2 p3 p4 p5 HX hpl HOA HHA HQ
      clear hx
      go_wp2_with fail
      refine (first22 notes x b d qa qc _ (HN.out.below HBW.out) (by omega)).mono ?_
      rintro e w3 ⟨rfl, hb3⟩
      replace p0 := cell_below hb3 p0
      replace p1 := cell_below hb3 p1
      replace p2 := cell_below hb3 p2
      replace p3 := cell_below hb3 p3
      replace p4 := cell_below hb3 p4
      replace p5 := cell_below hb3 p5
      have np := HQ.out.below hb3
      have HB3 := Lib.hid (HW.out.trans (hb3.mono HW.out.size))
      clear hb3 HBW HW HQ
      have C3 := Lib.hid (B4.out.below HB3.out)
      rcases fstN_range notes x with hneg | ⟨hpos, hlt2⟩
      · have hop : isOpen notes x = true := by unfold isOpen; rw [hneg]; rfl
        obtain ⟨ht, he⟩ := HOA.out hop
        have ht' : i < (openOf notes l).length := by rw [HI.out]; exact ht
        have he' : (openOf notes l)[i] = x := by rw [← he]; congr 1
        obtain ⟨g1, o1, pa, pc, hao, m0, m1, m2, m3, m4, m5, mp, _⟩ := G1.out.below HB3.out i ht'
        rw [he'] at m0 m1 m2 m3 m4 m5 mp
        have HI2 : Hid (i + 1 = (openOf notes (l.take (n + 1))).length) := by
          show _ = _
          rw [HX.out, openOf_snoc, if_pos hop, List.length_append, HI.out]; rfl
        have HJ2 : Hid (j = (hidOf notes (l.take (n + 1))).length) := by
          show _ = _
          rw [HX.out, hidOf_snoc, if_pos hop, HJ.out]
        have tn : decide (fstN notes x < 0) = true := by rw [hneg]; rfl
        have tg : decide (((openOf notes l).length : Int) ≤ (i : Int)) = false := decide_eq_false (by omega)
        have r0 : w3.cell? ⟨g5, 0, none⟩ = some (.slice ao (openOf notes l).length co) := C3.out.cell 0 (by simp)
        rw [hao] at r0
        clear hop hneg ht he he' HI HJ HOA HHA hao
        go_wp2
        have HBD := Lib.hid HB3.out.drew
        have C3D : Hid (Blk w3.drew g5 #[.slice ao (openOf notes l).length co, .slice ah (hidOf notes l).length ch, .slice au (unusedTo notes l notes.length).length cu] 46) := C3.out
        have HMPD : Hid (PlsAt w3.drew pa x.path) := mp
        have HNPD : Hid (PlsAt w3.drew qa x.path) := np
        have hcur : Below w3.drew.heap.size w3.drew w3.drew := Below.refl _ _
        have hne : Nonempty (WB w3.drew) := ⟨⟨_, hcur⟩⟩
        have k0 : ∀ q : WB w3.drew, q.u.cell? ⟨g5, 0, none⟩ = some (.slice (some ⟨g1, o1, none⟩) (openOf notes l).length co) := fun q => cell_below q.h (show w3.drew.cell? _ = _ from r0)
        have ka0 : ∀ q : WB w3.drew, q.u.cell? ⟨g1, o1 + i * 6, none⟩ = some (.int .i64 x.kind) := fun q => cell_below q.h (show w3.drew.cell? _ = _ from m0)
        have ka1 : ∀ q : WB w3.drew, q.u.cell? ⟨g1, o1 + i * 6 + 1, none⟩ = some (.string x.pl.cls) := fun q => cell_below q.h (show w3.drew.cell? _ = _ from m1)
        have ka2 : ∀ q : WB w3.drew, q.u.cell? ⟨g1, o1 + i * 6 + 2, none⟩ = some (.string x.pl.meth) := fun q => cell_below q.h (show w3.drew.cell? _ = _ from m2)
        have ka3 : ∀ q : WB w3.drew, q.u.cell? ⟨g1, o1 + i * 6 + 3, none⟩ = some (.int .i64 x.pl.instr) := fun q => cell_below q.h (show w3.drew.cell? _ = _ from m3)
        have ka4 : ∀ q : WB w3.drew, q.u.cell? ⟨g1, o1 + i * 6 + 4, none⟩ = some (.string x.what) := fun q => cell_below q.h (show w3.drew.cell? _ = _ from m4)
        have ka5 : ∀ q : WB w3.drew, q.u.cell? ⟨g1, o1 + i * 6 + 5, none⟩ = some (.slice pa x.path.length pc) := fun q => cell_below q.h (show w3.drew.cell? _ = _ from m5)
        have kb0 : ∀ q : WB w3.drew, q.u.cell? ⟨g2, o2 + n * 6, none⟩ = some (.int .i64 x.kind) := fun q => cell_below q.h (show w3.drew.cell? _ = _ from p0)
        have kb1 : ∀ q : WB w3.drew, q.u.cell? ⟨g2, o2 + n * 6 + 1, none⟩ = some (.string x.pl.cls) := fun q => cell_below q.h (show w3.drew.cell? _ = _ from p1)
        have kb2 : ∀ q : WB w3.drew, q.u.cell? ⟨g2, o2 + n * 6 + 2, none⟩ = some (.string x.pl.meth) := fun q => cell_below q.h (show w3.drew.cell? _ = _ from p2)
        have kb3 : ∀ q : WB w3.drew, q.u.cell? ⟨g2, o2 + n * 6 + 3, none⟩ = some (.int .i64 x.pl.instr) := fun q => cell_below q.h (show w3.drew.cell? _ = _ from p3)
        have kb4 : ∀ q : WB w3.drew, q.u.cell? ⟨g2, o2 + n * 6 + 4, none⟩ = some (.string x.what) := fun q => cell_below q.h (show w3.drew.cell? _ = _ from p4)
        have kb5 : ∀ q : WB w3.drew, q.u.cell? ⟨g2, o2 + n * 6 + 5, none⟩ = some (.slice qa x.path.length qc) := fun q => cell_below q.h (show w3.drew.cell? _ = _ from p5)
        clear p0 p1 p2 p3 p4 p5 m0 m1 m2 m3 m4 m5 mp np r0 HB3 C3
        refine wp_region_Y (fun w' => ∃ q : WB w3.drew, w' = q.u) (by kernel_rfl) ?_
        change wpAnyY _ _ _ _ _ _ _ _ w3.drew
        generalize w3.drew = w8 at *
        refine wpAnyY_take 0 rfl (by kernel_rfl) (fun _ _ _ _ h => h) ⟨⟨_, hcur⟩, rfl⟩ (fun K hK => ?_)
        go_simp
        refine hK _ ?_
        clear hK K
        refine wpAnyY_take 1 rfl (by kernel_rfl) (fun _ _ _ _ h => h) ⟨⟨_, hcur⟩, rfl⟩ (fun K hK => ?_)
        go_simp
        refine hK _ ?_
        clear hK K
        refine wpAnyY_take 2 rfl (by kernel_rfl) (fun _ _ _ _ h => h) ⟨⟨_, hcur⟩, rfl⟩ (fun K hK => ?_)
        go_simp
        refine hK _ ?_
        clear hK K
        refine wpAnyY_take 3 rfl (by kernel_rfl) (fun _ _ _ _ h => h) ⟨⟨_, hcur⟩, rfl⟩ (fun K hK => ?_)
        go_simp
        refine hK _ ?_
        clear hK K
        refine wpAnyY_take 4 rfl (by kernel_rfl) (fun _ _ _ _ h => h) ⟨⟨_, hcur⟩, rfl⟩ (fun K hK => ?_)
        go_simp
        refine hK _ ?_
        clear hK K
        refine wpAnyY_take 5 rfl (by kernel_rfl) (fun _ _ _ _ h => h) ⟨⟨_, hcur⟩, rfl⟩ (fun K hK => ?_)
        go_simp
        refine hK _ ?_
        clear hK K
        refine wpAnyY_take 6 rfl (by kernel_rfl) (fun _ _ _ _ h => h) ⟨⟨_, hcur⟩, rfl⟩ (fun K hK => ?_)
        go_simp
        refine hK _ ?_
        clear hK K
        refine wpAnyY_take 7 rfl (by kernel_rfl) (fun _ _ _ _ h => h) ⟨⟨_, hcur⟩, rfl⟩ (fun K hK => ?_)
        go_simp
        refine hK _ ?_
        clear hK K
        refine wpAnyY_take 8 rfl (by kernel_rfl) (fun _ _ _ _ h => h) ⟨⟨_, hcur⟩, rfl⟩ (fun K hK => ?_)
        go_simp
        refine hK _ ?_
        clear hK K
        refine wpAnyY_take 9 rfl (by kernel_rfl) (fun _ _ _ _ h => h) ⟨⟨_, hcur⟩, rfl⟩ (fun K hK => ?_)
        go_simp
        refine hK _ ?_
        clear hK K
        refine wpAnyY_take 10 rfl (by kernel_rfl) (fun _ _ _ _ h => h) ⟨⟨_, hcur⟩, rfl⟩ (fun K hK => ?_)
        go_simp
        refine hK _ ?_
        clear hK K
        refine wpAnyY_take 11 rfl (by kernel_rfl) (fun _ _ _ _ h => h) ⟨⟨_, hcur⟩, rfl⟩ (fun K hK => ?_)
        go_simp
        refine hK _ ?_
        clear hK K
        refine wpAnyY_take 12 rfl (by kernel_rfl) (fun _ _ _ _ h => h) ⟨⟨_, hcur⟩, rfl⟩ (fun K hK => ?_)
        go_simp
        refine hK _ ?_
        clear hK K
        refine wpAnyY_take 13 rfl (by kernel_rfl) (fun _ _ _ _ h => h) ⟨⟨_, hcur⟩, rfl⟩ (fun K hK => ?_)
        go_simp
        refine hK _ ?_
        clear hK K
        refine wpAnyY_take 14 rfl (by kernel_rfl) (fun _ _ _ _ h => h) ⟨⟨_, hcur⟩, rfl⟩ (fun K hK => ?_)
        go_simp
        refine hK _ ?_
        clear hK K
        refine wpAnyY_one 15 rfl (by kernel_rfl) ?_
        go_wp2_with fail
        refine (fcompare23 x x pa qa pc qc _ HMPD.out HNPD.out hpl).mono ?_
        rintro e w5 ⟨rfl, hb5⟩
        rw [cmpF_self]
        clear hcur
        go_wp2
        have hcur := hb5
        refine ⟨⟨⟨_, hcur⟩, rfl⟩, ?_⟩
        refine wpAnyY_one 16 rfl (by kernel_rfl) ?_
        go_wp2
        refine ⟨⟨⟨_, hcur⟩, rfl⟩, ?_⟩
        refine wpAnyY_one 17 rfl (by kernel_rfl) ?_
        go_wp2
        refine ⟨⟨⟨_, hcur⟩, rfl⟩, ?_⟩
        refine wpAnyY_done (by kernel_rfl) ?_ _
        have HB5 := Lib.hid (HBD.out.trans (hcur.mono HBD.out.size))
        clear HBD C3D hne hb5 hcur HMPD HNPD k0 ka0 kb0 ka1 kb1 ka2 kb2 ka3 kb3 ka4 kb4 ka5 kb5
        go_wp2
        go_roundw
        case rel => exact ⟨n + 1, i + 1, j, by omega, by go_num, rfl, by go_num, by omega, by omega, HI2.out, HJ2.out, HB5.out⟩
        case measure => simp [intOf]; omega
      · have hop : isOpen notes x = false := by unfold isOpen; exact decide_eq_false (by omega)
        obtain ⟨ht, he⟩ := HHA.out hop
        have ht' : j < (hidOf notes l).length := by rw [HJ.out]; exact ht
        have he' : (hidOf notes l)[j] = (x, fstN notes x) := by rw [← he]; congr 1
        obtain ⟨g1, o1, pa, pc, hah, m0, m1, m2, m3, m4, m5, m6, mp, _⟩ := G2.out.below HB3.out j ht'
        rw [he'] at m0 m1 m2 m3 m4 m5 m6 mp
        have HI2 : Hid (i = (openOf notes (l.take (n + 1))).length) := by
          show _ = _
          rw [HX.out, openOf_snoc, if_neg (by rw [hop]; simp), HI.out]
        have HJ2 : Hid (j + 1 = (hidOf notes (l.take (n + 1))).length) := by
          show _ = _
          rw [HX.out, hidOf_snoc, if_neg (by rw [hop]; simp), List.length_append, HJ.out]; rfl
        have tn : decide (fstN notes x < 0) = false := decide_eq_false (by omega)
        have tg : decide (((hidOf notes l).length : Int) ≤ (j : Int)) = false := decide_eq_false (by omega)
        have r0 : w3.cell? ⟨g5, 1, none⟩ = some (.slice ah (hidOf notes l).length ch) := C3.out.cell 1 (by simp)
        rw [hah] at r0
        have tf := neq_self (fstN notes x)
        clear hop hpos hlt2 ht he he' HI HJ HOA HHA hah
        go_wp2
        have HBD := Lib.hid HB3.out.drew
        have C3D : Hid (Blk w3.drew g5 #[.slice ao (openOf notes l).length co, .slice ah (hidOf notes l).length ch, .slice au (unusedTo notes l notes.length).length cu] 46) := C3.out
        have HMPD : Hid (PlsAt w3.drew pa x.path) := mp
        have HNPD : Hid (PlsAt w3.drew qa x.path) := np
        have hcur : Below w3.drew.heap.size w3.drew w3.drew := Below.refl _ _
        have hne : Nonempty (WB w3.drew) := ⟨⟨_, hcur⟩⟩
        have k0 : ∀ q : WB w3.drew, q.u.cell? ⟨g5, 1, none⟩ = some (.slice (some ⟨g1, o1, none⟩) (hidOf notes l).length ch) := fun q => cell_below q.h (show w3.drew.cell? _ = _ from r0)
        have ka0 : ∀ q : WB w3.drew, q.u.cell? ⟨g1, o1 + j * 7, none⟩ = some (.int .i64 x.kind) := fun q => cell_below q.h (show w3.drew.cell? _ = _ from m0)
        have ka1 : ∀ q : WB w3.drew, q.u.cell? ⟨g1, o1 + j * 7 + 1, none⟩ = some (.string x.pl.cls) := fun q => cell_below q.h (show w3.drew.cell? _ = _ from m1)
        have ka2 : ∀ q : WB w3.drew, q.u.cell? ⟨g1, o1 + j * 7 + 2, none⟩ = some (.string x.pl.meth) := fun q => cell_below q.h (show w3.drew.cell? _ = _ from m2)
        have ka3 : ∀ q : WB w3.drew, q.u.cell? ⟨g1, o1 + j * 7 + 3, none⟩ = some (.int .i64 x.pl.instr) := fun q => cell_below q.h (show w3.drew.cell? _ = _ from m3)
        have ka4 : ∀ q : WB w3.drew, q.u.cell? ⟨g1, o1 + j * 7 + 4, none⟩ = some (.string x.what) := fun q => cell_below q.h (show w3.drew.cell? _ = _ from m4)
        have ka5 : ∀ q : WB w3.drew, q.u.cell? ⟨g1, o1 + j * 7 + 5, none⟩ = some (.slice pa x.path.length pc) := fun q => cell_below q.h (show w3.drew.cell? _ = _ from m5)
        have ka6 : ∀ q : WB w3.drew, q.u.cell? ⟨g1, o1 + j * 7 + 6, none⟩ = some (.int .i64 (fstN notes x)) := fun q => cell_below q.h (show w3.drew.cell? _ = _ from m6)
        have kb0 : ∀ q : WB w3.drew, q.u.cell? ⟨g2, o2 + n * 6, none⟩ = some (.int .i64 x.kind) := fun q => cell_below q.h (show w3.drew.cell? _ = _ from p0)
        have kb1 : ∀ q : WB w3.drew, q.u.cell? ⟨g2, o2 + n * 6 + 1, none⟩ = some (.string x.pl.cls) := fun q => cell_below q.h (show w3.drew.cell? _ = _ from p1)
        have kb2 : ∀ q : WB w3.drew, q.u.cell? ⟨g2, o2 + n * 6 + 2, none⟩ = some (.string x.pl.meth) := fun q => cell_below q.h (show w3.drew.cell? _ = _ from p2)
        have kb3 : ∀ q : WB w3.drew, q.u.cell? ⟨g2, o2 + n * 6 + 3, none⟩ = some (.int .i64 x.pl.instr) := fun q => cell_below q.h (show w3.drew.cell? _ = _ from p3)
        have kb4 : ∀ q : WB w3.drew, q.u.cell? ⟨g2, o2 + n * 6 + 4, none⟩ = some (.string x.what) := fun q => cell_below q.h (show w3.drew.cell? _ = _ from p4)
        have kb5 : ∀ q : WB w3.drew, q.u.cell? ⟨g2, o2 + n * 6 + 5, none⟩ = some (.slice qa x.path.length qc) := fun q => cell_below q.h (show w3.drew.cell? _ = _ from p5)
        clear p0 p1 p2 p3 p4 p5 m0 m1 m2 m3 m4 m5 m6 mp np r0 HB3 C3
        refine wp_region_Y (fun w' => ∃ q : WB w3.drew, w' = q.u) (by kernel_rfl) ?_
        change wpAnyY _ _ _ _ _ _ _ _ w3.drew
        generalize w3.drew = w8 at *
        refine wpAnyY_take 0 rfl (by kernel_rfl) (fun _ _ _ _ h => h) ⟨⟨_, hcur⟩, rfl⟩ (fun K hK => ?_)
        go_simp
        refine hK _ ?_
        clear hK K
        refine wpAnyY_take 1 rfl (by kernel_rfl) (fun _ _ _ _ h => h) ⟨⟨_, hcur⟩, rfl⟩ (fun K hK => ?_)
        go_simp
        refine hK _ ?_
        clear hK K
        refine wpAnyY_take 2 rfl (by kernel_rfl) (fun _ _ _ _ h => h) ⟨⟨_, hcur⟩, rfl⟩ (fun K hK => ?_)
        go_simp
        refine hK _ ?_
        clear hK K
        refine wpAnyY_take 3 rfl (by kernel_rfl) (fun _ _ _ _ h => h) ⟨⟨_, hcur⟩, rfl⟩ (fun K hK => ?_)
        go_simp
        refine hK _ ?_
        clear hK K
        refine wpAnyY_take 4 rfl (by kernel_rfl) (fun _ _ _ _ h => h) ⟨⟨_, hcur⟩, rfl⟩ (fun K hK => ?_)
        go_simp
        refine hK _ ?_
        clear hK K
        refine wpAnyY_take 5 rfl (by kernel_rfl) (fun _ _ _ _ h => h) ⟨⟨_, hcur⟩, rfl⟩ (fun K hK => ?_)
        go_simp
        refine hK _ ?_
        clear hK K
        refine wpAnyY_take 6 rfl (by kernel_rfl) (fun _ _ _ _ h => h) ⟨⟨_, hcur⟩, rfl⟩ (fun K hK => ?_)
        go_simp
        refine hK _ ?_
        clear hK K
        refine wpAnyY_take 7 rfl (by kernel_rfl) (fun _ _ _ _ h => h) ⟨⟨_, hcur⟩, rfl⟩ (fun K hK => ?_)
        go_simp
        refine hK _ ?_
        clear hK K
        refine wpAnyY_take 8 rfl (by kernel_rfl) (fun _ _ _ _ h => h) ⟨⟨_, hcur⟩, rfl⟩ (fun K hK => ?_)
        go_simp
        refine hK _ ?_
        clear hK K
        refine wpAnyY_take 9 rfl (by kernel_rfl) (fun _ _ _ _ h => h) ⟨⟨_, hcur⟩, rfl⟩ (fun K hK => ?_)
        go_simp
        refine hK _ ?_
        clear hK K
        refine wpAnyY_take 10 rfl (by kernel_rfl) (fun _ _ _ _ h => h) ⟨⟨_, hcur⟩, rfl⟩ (fun K hK => ?_)
        go_simp
        refine hK _ ?_
        clear hK K
        refine wpAnyY_take 11 rfl (by kernel_rfl) (fun _ _ _ _ h => h) ⟨⟨_, hcur⟩, rfl⟩ (fun K hK => ?_)
        go_simp
        refine hK _ ?_
        clear hK K
        refine wpAnyY_take 12 rfl (by kernel_rfl) (fun _ _ _ _ h => h) ⟨⟨_, hcur⟩, rfl⟩ (fun K hK => ?_)
        go_simp
        refine hK _ ?_
        clear hK K
        refine wpAnyY_take 13 rfl (by kernel_rfl) (fun _ _ _ _ h => h) ⟨⟨_, hcur⟩, rfl⟩ (fun K hK => ?_)
        go_simp
        refine hK _ ?_
        clear hK K
        refine wpAnyY_take 14 rfl (by kernel_rfl) (fun _ _ _ _ h => h) ⟨⟨_, hcur⟩, rfl⟩ (fun K hK => ?_)
        go_simp
        refine hK _ ?_
        clear hK K
        refine wpAnyY_take 15 rfl (by kernel_rfl) (fun _ _ _ _ h => h) ⟨⟨_, hcur⟩, rfl⟩ (fun K hK => ?_)
        go_simp
        refine hK _ ?_
        clear hK K
        refine wpAnyY_one 16 rfl (by kernel_rfl) ?_
        go_wp2_with fail
        refine (fcompare23 x x pa qa pc qc _ HMPD.out HNPD.out hpl).mono ?_
        rintro e w5 ⟨rfl, hb5⟩
        rw [cmpF_self]
        clear hcur
        go_wp2
        have hcur := hb5
        refine ⟨⟨⟨_, hcur⟩, rfl⟩, ?_⟩
        refine wpAnyY_one 17 rfl (by kernel_rfl) ?_
        go_wp2
        refine ⟨⟨⟨_, hcur⟩, rfl⟩, ?_⟩
        refine wpAnyY_one 18 rfl (by kernel_rfl) ?_
        go_wp2
        refine ⟨⟨⟨_, hcur⟩, rfl⟩, ?_⟩
        refine wpAnyY_one 19 rfl (by kernel_rfl) ?_
        go_wp2
        refine ⟨⟨⟨_, hcur⟩, rfl⟩, ?_⟩
        refine wpAnyY_take 20 rfl (by kernel_rfl) (fun _ _ _ _ h => h) ⟨⟨_, hcur⟩, rfl⟩ (fun K hK => ?_)
        go_simp
        refine hK _ ?_
        clear hK K
        refine wpAnyY_take 21 rfl (by kernel_rfl) (fun _ _ _ _ h => h) ⟨⟨_, hcur⟩, rfl⟩ (fun K hK => ?_)
        go_simp
        refine hK _ ?_
        clear hK K
        refine wpAnyY_take 22 rfl (by kernel_rfl) (fun _ _ _ _ h => h) ⟨⟨_, hcur⟩, rfl⟩ (fun K hK => ?_)
        go_simp
        refine hK _ ?_
        clear hK K
        refine wpAnyY_take 23 rfl (by kernel_rfl) (fun _ _ _ _ h => h) ⟨⟨_, hcur⟩, rfl⟩ (fun K hK => ?_)
        go_simp
        refine hK _ ?_
        clear hK K
        refine wpAnyY_take 24 rfl (by kernel_rfl) (fun _ _ _ _ h => h) ⟨⟨_, hcur⟩, rfl⟩ (fun K hK => ?_)
        go_simp
        refine hK _ ?_
        clear hK K
        refine wpAnyY_take 25 rfl (by kernel_rfl) (fun _ _ _ _ h => h) ⟨⟨_, hcur⟩, rfl⟩ (fun K hK => ?_)
        go_simp
        refine hK _ ?_
        clear hK K
        refine wpAnyY_take 26 rfl (by kernel_rfl) (fun _ _ _ _ h => h) ⟨⟨_, hcur⟩, rfl⟩ (fun K hK => ?_)
        go_simp
        refine hK _ ?_
        clear hK K
        refine wpAnyY_take 27 rfl (by kernel_rfl) (fun _ _ _ _ h => h) ⟨⟨_, hcur⟩, rfl⟩ (fun K hK => ?_)
        go_simp
        refine hK _ ?_
        clear hK K
        refine wpAnyY_take 28 rfl (by kernel_rfl) (fun _ _ _ _ h => h) ⟨⟨_, hcur⟩, rfl⟩ (fun K hK => ?_)
        go_simp
        refine hK _ ?_
        clear hK K
        refine wpAnyY_done (by kernel_rfl) ?_ _
        have HB5 := Lib.hid (HBD.out.trans (hcur.mono HBD.out.size))
        clear HBD C3D hne hb5 hcur HMPD HNPD k0 ka6 ka0 kb0 ka1 kb1 ka2 kb2 ka3 kb3 ka4 kb4 ka5 kb5
        go_wp2
        go_roundw
        case rel => exact ⟨n + 1, i, j + 1, by omega, rfl, by go_num, by go_num, by omega, by omega, HI2.out, HJ2.out, HB5.out⟩
        case measure => simp [intOf]; omega
    · go_wp2
      have HBW := Lib.hid (HB4.out.trans (HW.out.mono HB4.out.size))
      have C3 := Lib.hid (B4.out.below HW.out)
      have K2 := Lib.hid (G2.out.below HW.out)
      have K3 := Lib.hid (G3.out.below HW.out)
      have HHU := Lib.hid (hid_unused (notes := notes) (l := l) (n := notes.length))
      have hd1 : wr.cell? ⟨g5, 1, none⟩ = some (.slice ah (hidOf notes l).length ch) := C3.out.cell 1 (by simp)
      have hd2 : wr.cell? ⟨g5, 2, none⟩ = some (.slice au (unusedTo notes l notes.length).length cu) := C3.out.cell 2 (by simp)
      clear HI HJ HW G1 G2 G3 B4 C3 hlt hin hjn HB4
      generalize hidOf notes l = H at *
      generalize unusedTo notes l notes.length = U at *
      obtain ⟨wo, rfl⟩ : ∃ wo : World, wo = wr := ⟨_, rfl⟩
      go_loopw [13] (fun i wr => ∃ k q : Nat, k ≤ U.length ∧ i = .int .i64 k ∧ wr = wo.drewN q) (fun i _ => U.length - (intOf i).toNat)
      case atStart => exact ⟨0, 0, Nat.zero_le _, rfl, rfl⟩
      case round =>
        obtain ⟨k, q, hk, rfl, rfl⟩ := hrel
        by_cases hlt : k < U.length
        · obtain ⟨g1, o1, rfl, u0⟩ := K3.out k hlt
          have HUK := Lib.hid (fun x hx => HHU.out x hx U[k] (List.getElem_mem hlt))
          generalize U[k] = uu at *
          go_wp2
          obtain ⟨q0, rfl⟩ : ∃ q0 : Nat, q0 = q := ⟨_, rfl⟩
          go_loopw [14] (fun i wr => ∃ j q : Nat, j ≤ H.length ∧ i = .int .i64 j ∧ wr = wo.drewN q) (fun i _ => H.length - (intOf i).toNat)
          case atStart => exact ⟨0, q0, Nat.zero_le _, rfl, rfl⟩
          case round =>
            obtain ⟨j, q, hj, rfl, rfl⟩ := hrel
            by_cases hjt : j < H.length
            · obtain ⟨g2, o2, pa, pc, rfl, m0, m1, m2, m3, m4, m5, m6, mp, _⟩ := K2.out j hjt
              have hne := HUK.out H[j] (List.getElem_mem hjt)
              have tne : (H[j].2 == (uu : Int)) = false := beq_eq_false_iff_ne.2 hne
              clear m0 m1 m2 m3 m4 m5 mp hne
              generalize H[j].2 = xx at *
              go_wp2
              go_quiet (fail)
              go_wp2
              go_roundw
              case rel => exact ⟨j + 1, q + nq, by omega, by go_num, by simp⟩
              case measure => simp [intOf]; omega
            · go_wp2
              go_roundw
              case rel => exact ⟨k + 1, q, by omega, by go_num, rfl⟩
              case measure => simp [intOf]; omega
        · have HBQ := Lib.hid (below_drewN' HBW.out q)
          go_wp2_with fail
          refine (awake12 ad m _ (HK.out.below HBQ.out) (cell_below HBQ.out HM.out) (cell_below HBQ.out HE.out)).mono ?_
          rintro e w6 ⟨rfl, hb⟩
          have HB := Lib.hid (HBQ.out.trans (hb.mono HBQ.out.size)); clear hb
          go_wp2
          go_ret
          exact ⟨rfl, HB.out⟩
end Go.Proofs.YtpgmjfnjdgdmcaaDoor
