import Derived.Test.YtlkafolgbkobpaaDoorA16
namespace Go.Proofs.YtlkafolgbkobpaaDoor
open Go.RowKit Go.Sort

theorem passL_le (ms : List Mv) : ∀ d : List Bool, cntF (passL d ms) ≤ cntF d := fun d => by
  rcases passL_cnt ms d with h | h
  · rw [h]; exact Nat.le_refl _
  · omega
theorem passL_append (d : List Bool) (a b : List Mv) : passL d (a ++ b) = passL (passL d a) b := by unfold passL; rw [List.foldl_append]
theorem fix_take {d : List Bool} {ms : List Mv} (h : passL d ms = d) (k : Nat) : passL d (ms.take k) = d := by
  rcases passL_cnt (ms.take k) d with e | e
  · exact e
  · have h1 := passL_le (ms.drop k) (passL d (ms.take k))
    rw [← passL_append, List.take_append_drop, h] at h1
    omega
theorem fix_closed {d : List Bool} {ms : List Mv} (h : passL d ms = d) {k : Nat} (hk : k < ms.length) (ht : d.getD ms[k].to.toNat false = true) (hf : ms[k].frm.toNat < d.length) : d.getD ms[k].frm.toNat false = true := by
  have h1 := passL_take hk d
  rw [fix_take h, fix_take h] at h1
  unfold pass1 at h1
  rw [ht, if_pos rfl] at h1
  have := congrArg (fun l => l.getD ms[k].frm.toNat false) h1
  simpa [hf] using this
theorem pass1_mono {d : List Bool} {i : Nat} (h : d.getD i false = true) (m : Mv) : (pass1 d m).getD i false = true := by
  unfold pass1
  split
  · by_cases e : m.frm.toNat = i
    · subst e
      have hi : m.frm.toNat < d.length := by
        apply Classical.byContradiction
        intro hn
        simp [List.getElem?_eq_none (by omega : d.length ≤ m.frm.toNat)] at h
      simp [hi]
    · simpa [List.getElem?_set_ne e] using h
  · exact h
theorem passL_mono (ms : List Mv) : ∀ {d : List Bool} {i : Nat}, d.getD i false = true → (passL d ms).getD i false = true := by
  induction ms with
  | nil => intro d i h; exact h
  | cons m l ih => intro d i h; exact ih (pass1_mono h m)
theorem passN_mono (ms : List Mv) : ∀ n {d : List Bool} {i : Nat}, d.getD i false = true → (passN ms n d).getD i false = true
  | 0, _, _, h => h
  | n + 1, _, _, h => passN_mono ms n (passL_mono ms h)
theorem err_doomed {p : Pr} (h : checkP p = 0) : (doomL p).getD p.err.toNat false = true := by
  refine passN_mono _ _ ?_
  have := (ok_parts h).2.1
  simp only [stB, Bool.and_eq_true, decide_eq_true_eq] at this
  have hi : p.err.toNat < p.sts.length := by omega
  simp [doom0, hi]
theorem stepTo_cases (p : Pr) (q : Int) (m : ByteArray) : ∀ l : List Mv, stepTo p q m l = q ∨ ∃ x ∈ l, x.frm = q ∧ stepTo p q m l = x.to
  | [] => .inl rfl
  | x :: l => by
    simp only [stepTo]
    split
    · rename_i h; exact .inr ⟨x, by simp, h.1, rfl⟩
    · rcases stepTo_cases p q m l with h | ⟨y, hy, h1, h2⟩
      · exact .inl h
      · exact .inr ⟨y, by simp [hy], h1, h2⟩
/-- Error is never left -/
theorem step_err {p : Pr} (h : checkP p = 0) (m : ByteArray) : stepTo p p.err m p.mvs = p.err := by
  rcases stepTo_cases p p.err m p.mvs with e | ⟨x, hx, h1, _⟩
  · exact e
  · obtain ⟨j, hj, rfl⟩ := List.getElem_of_mem hx
    exact absurd h1 (mv_of_ok (ok_parts h).2.2.2.1 j hj (by omega)).2.2
theorem run_err {p : Pr} (h : checkP p = 0) {ms : List ByteArray} {i : Nat} (hi : runTo p (ms.take i) = p.err) : ∀ j, i ≤ j → runTo p (ms.take j) = p.err := by
  intro j hij
  induction j with
  | zero =>
    obtain rfl : i = 0 := by omega
    exact hi
  | succ j ih =>
    by_cases e : i = j + 1
    · rw [← e]; exact hi
    · have hj := ih (by omega)
      by_cases hl : j < ms.length
      · rw [runTo_succ hl, hj]; exact step_err h _
      · rw [List.take_of_length_le (by omega)] at hj ⊢; exact hj
/-- what leads to a state that can fail can fail -/
theorem run_doomed {p : Pr} (h : checkP p = 0) {ms : List ByteArray} {i : Nat} (hi : i < ms.length) (hd : (doomL p).getD (runTo p (ms.take (i + 1))).toNat false = true) : (doomL p).getD (runTo p (ms.take i)).toNat false = true := by
  rw [runTo_succ hi] at hd
  have hst := runTo_st h (ms.take i)
  generalize runTo p (ms.take i) = q at *
  rcases stepTo_cases p q ms[i] p.mvs with e | ⟨x, hx, h1, h2⟩
  · rw [e] at hd; exact hd
  · obtain ⟨j, hj, rfl⟩ := List.getElem_of_mem hx
    rw [h2] at hd
    rw [← h1]
    refine fix_closed (doomL_fix p) hj hd ?_
    have hv := (mv_of_ok (ok_parts h).2.2.2.1 j hj (by omega)).1
    simp only [stB, Bool.and_eq_true, decide_eq_true_eq] at hv
    rw [doomL_len]; omega
theorem all_doomed {p : Pr} (h : checkP p = 0) {ms : List ByteArray} (hl : runTo p ms = p.err) : ∀ n i, i + n = ms.length → (doomL p).getD (runTo p (ms.take i)).toNat false = true
  | 0, i, hi => by
    rw [List.take_of_length_le (by omega), hl]; exact err_doomed h
  | n + 1, i, hi => run_doomed h (by omega) (all_doomed h hl n (i + 1) (by omega))
theorem mem_truesTo {d : List Bool} {k : Nat} {q : Int} (h0 : 0 ≤ q) (hk : q.toNat < k) (hd : d.getD q.toNat false = true) : q ∈ truesTo d k := by
  unfold truesTo
  rw [List.mem_map]
  exact ⟨q.toNat, by simp [hk]; simpa using hd, by omega⟩
theorem in_doomed {p : Pr} (h : checkP p = 0) {ms : List ByteArray} (hl : runTo p ms = p.err) {i : Nat} (hi : i ≤ ms.length) : (doomedP p).any (fun q => q == runTo p (ms.take i)) = true := by
  rw [List.any_eq_true]
  have hst := runTo_st h (ms.take i)
  simp only [stB, Bool.and_eq_true, decide_eq_true_eq] at hst
  refine ⟨runTo p (ms.take i), ?_, by simp⟩
  unfold doomedP
  rw [if_pos h]
  exact mem_truesTo hst.1 (by omega) (all_doomed h hl (ms.length - i) i (by omega))
/-- has the run been in Error before? -/
def failTo (p : Pr) (ms : List ByteArray) (k : Nat) : Bool := (List.range k).any fun j => runTo p (ms.take j) == p.err
theorem failTo_succ (p : Pr) (ms : List ByteArray) (k : Nat) : failTo p ms (k + 1) = (failTo p ms k || runTo p (ms.take k) == p.err) := by
  unfold failTo; rw [List.range_succ, List.any_append]; simp
theorem failTo_err {p : Pr} (h : checkP p = 0) {ms : List ByteArray} {k : Nat} (hf : failTo p ms k = true) : runTo p (ms.take k) = p.err := by
  unfold failTo at hf
  rw [List.any_eq_true] at hf
  obtain ⟨j, hj, he⟩ := hf
  exact run_err h (by simpa using he) k (by have := List.mem_range.1 hj; omega)
theorem failTo_end {p : Pr} (h : checkP p = 0) (ms : List ByteArray) : failTo p ms (ms.length + 1) = (runTo p ms == p.err) := by
  rw [failTo_succ, List.take_of_length_le (Nat.le_refl _)]
  cases hf : failTo p ms ms.length
  · simp
  · have := failTo_err h hf
    rw [List.take_of_length_le (Nat.le_refl _)] at this
    simp [this]
theorem run11n (p : Pr) (a1 : Option Addr) (c1 : Nat) (a2 : Option Addr) (c2 : Nat) (am : Option Addr) (n cm : Nat) (ms : List ByteArray) (w : World) (hn : ms.length = n) (hk : KW w) (hi : PIn w p a1 c1 a2) (hms : StrsAt w am ms) (hl : n ≤ 1000000) :
    Calls Tryd.prog 11 #[PrV p a1 c1 a2 c2, .slice am n cm] w (Ret w (.int .i64 (runP p ms))) := by
  subst hn; exact run11 p a1 c1 a2 c2 am cm ms w hk hi hms hl
theorem addr_map (a : Option Addr) : a.map (fun x => x.add 0) = a := by
  cases a with
  | none => rfl
  | some x => simp [Addr.add]
theorem slice22h (a : Option Addr) (n cap k : Nat) (h : k ≤ cap) (w : World) : (Instr.slice 22 (.slice a n cap) none (some (.int .i64 (k : Int))) none).run Tryd.prog w = .ok (.slice a k cap) w := by
  have hs : (sizeOf (Tryd.prog.elem 22)).run Tryd.prog w = .ok 1 w := by kernel_rfl
  rw [run_slice_h w 22 a n cap Tryd.underlying22 .i64 (k : Int) (by omega) (by omega), hs]
  simp [Result.andThen, sliced, addr_map]

set_option maxRecDepth 100000 in
set_option maxHeartbeats 1000000 in
theorem absorbs5 (p : Pr) (a1 : Option Addr) (c1 : Nat) (a2 : Option Addr) (c2 : Nat) (am : Option Addr) (cm : Nat) (ms : List ByteArray) (w : World) (hk : KW w) (hs : StrsAt w a1 p.sts) (hm : MvsAt w a2 p.mvs) (hc : p.sts.length ≤ c1) (hms : StrsAt w am ms) (hcm : ms.length ≤ cm) :
    Calls Tryd.prog 5 #[PrV p a1 c1 a2 c2, .slice am ms.length cm] w (Ret w (.bool true)) := by
  unfold PrV
  have HK := Lib.hid hk; clear hk
  have HS := Lib.hid hs; clear hs
  have HM := Lib.hid hm; clear hm
  have HMS := Lib.hid hms; clear hms
  have HBX := Lib.hid (Box.new w p a1 c1 a2 c2 25)
  have HB0 : Hid (Below w.heap.size w (w.alloc (.cells #[.string p.cls, .slice a1 p.sts.length c1, .int .i64 p.start, .int .i64 p.err, .slice a2 p.mvs.length c2] 25))) := (Below.refl _ _).alloc (Nat.le_refl _) _
  by_cases h1 : 16 < p.sts.length
  · go_enter Tryd.func5, Tryd.ntmps5
    go_wp2_with fail
    refine (awake8 _ (HK.out.below HB0.out)).mono ?_
    rintro e w1 ⟨rfl, hb1⟩
    have hb := HB0.out.trans (hb1.mono HB0.out.size)
    clear hb1
    go_wp2
    go_ret
    exact ⟨rfl, hb⟩
  by_cases h2 : 256 < p.mvs.length
  · go_enter Tryd.func5, Tryd.ntmps5
    go_wp2_with fail
    refine (awake8 _ (HK.out.below HB0.out)).mono ?_
    rintro e w1 ⟨rfl, hb1⟩
    have hb := HB0.out.trans (hb1.mono HB0.out.size)
    clear hb1
    go_wp2
    go_ret
    exact ⟨rfl, hb⟩
  by_cases h3 : 30 < ms.length
  · go_enter Tryd.func5, Tryd.ntmps5
    go_wp2_with fail
    refine (awake8 _ (HK.out.below HB0.out)).mono ?_
    rintro e w1 ⟨rfl, hb1⟩
    have hb := HB0.out.trans (hb1.mono HB0.out.size)
    clear hb1
    go_wp2
    go_ret
    exact ⟨rfl, hb⟩
  have d1 : decide (16 < (p.sts.length : Int)) = false := by simp; omega
  have d2 : decide (256 < (p.mvs.length : Int)) = false := by simp; omega
  have d3 : decide (30 < (ms.length : Int)) = false := by simp; omega
  have HI : Hid (PIn w p a1 c1 a2) := ⟨HS.out, HM.out, hc, by omega, by omega⟩
  go_enter Tryd.func5, Tryd.ntmps5
  go_wp2_with fail
  have hi := HI.out.below HB0.out
  refine (check16 p _ _ _ _ _ hi.hs hi.hm hi.hc).mono ?_
  rintro e w1 ⟨rfl, hb1⟩
  have hb := HB0.out.trans (hb1.mono HB0.out.size)
  have BX := Lib.hid (HBX.out.below hb1)
  clear hi hb1 HBX HB0
  obtain ⟨q0, q1, q2, q3, q4⟩ := BX.out
  by_cases h0 : ¬ checkP p = 0
  · have h0' : (checkP p != 0) = true := by simpa using h0
    have H0 := Lib.hid h0; clear h0
    go_wp2_with fail
    refine (awake8 _ (HK.out.below hb)).mono ?_
    rintro e w2 ⟨rfl, hb1⟩
    have hb2 := hb.trans (hb1.mono hb.size)
    clear hb1
    go_wp2
    go_ret
    exact ⟨rfl, hb2⟩
  have h0 : checkP p = 0 := Classical.not_not.1 h0
  have h0' : (checkP p != 0) = false := by simp [h0]
  have H0 := Lib.hid h0; clear h0
  go_wp2_with fail
  refine (run11 p _ _ _ _ _ _ ms _ (HK.out.below hb) (HI.out.below hb) (HMS.out.below hb) (by omega)).mono ?_
  rintro e w2 ⟨rfl, hb1⟩
  rw [runP_ok H0.out]
  have hb2 := hb.trans (hb1.mono hb.size)
  have BX2 := Lib.hid (BX.out.below hb1)
  clear hb1 hb BX q0 q1 q2 q3 q4
  obtain ⟨q0, q1, q2, q3, q4⟩ := BX2.out
  go_wp2_with fail
  refine (doomed13 p _ _ _ _ _ (HK.out.below hb2) (HI.out.below hb2)).mono ?_
  rintro e w3 ⟨hb1, ad, cd, rfl, hid⟩
  have hb3 := hb2.trans (hb1.mono hb2.size)
  have BX3 := Lib.hid (BX2.out.below hb1)
  have HID := Lib.hid hid; clear hid
  clear hb1 hb2 BX2 q0 q1 q2 q3 q4
  have hlen : (doomedP p).length ≤ 16 := by
    unfold doomedP truesTo
    split
    · rw [List.length_map]; exact Nat.le_trans (List.length_filter_le _ _) (by simp; omega)
    · simp
  obtain ⟨L, hL⟩ : ∃ L, L = doomedP p := ⟨_, rfl⟩
  rw [← hL] at hlen HID ⊢
  have HLL := Lib.hid hL; clear hL
  go_wp2
  go_loopw [7, 8] (fun f i wr => ∃ k : Nat, k ≤ ms.length + 1 ∧ i = .int .i64 k ∧ f = .bool (failTo p ms k) ∧ Below w3.heap.size w3 wr) (fun _ i _ => ms.length + 1 - (intOf i).toNat)
  case atStart => exact ⟨0, Nat.zero_le _, rfl, rfl, Below.refl _ _⟩
  case round =>
    obtain ⟨k, hk, rfl, rfl, hbr⟩ := hrel
    have hb := hb3.trans (hbr.mono hb3.size)
    have BX := Lib.hid (BX3.out.below hbr)
    obtain ⟨q0, q1, q2, q3, q4⟩ := BX.out
    have HPr := Lib.hid (HI.out.below hb)
    have HKr := Lib.hid (HK.out.below hb)
    have HMr := Lib.hid (HMS.out.below hb)
    have HIr := Lib.hid (HID.out.below hbr)
    by_cases hlt : k ≤ ms.length
    · have z0 := cell_regrown q0
      have z1 := cell_regrown q1
      have z2 := cell_regrown q2
      have z3 := cell_regrown q3
      have z4 := cell_regrown q4
      have hsl := slice22h am ms.length cm k (by omega)
      have HST := Lib.hid (runTo_st H0.out (ms.take k))
      have HFS := Lib.hid (failTo_succ p ms k)
      have HFE := Lib.hid (@failTo_err p H0.out ms k)
      have hrun : ∀ w0 : World, Below wr.heap.size wr w0 → Calls Tryd.prog 11 #[PrV p a1 c1 a2 c2, .slice am k cm] w0 (Ret w0 (.int .i64 (runTo p (ms.take k)))) := fun w0 h0 => by
        have := run11n p a1 c1 a2 c2 am k cm (ms.take k) w0 (by simp; omega) (HKr.out.below h0) (HPr.out.below h0) ((HMr.out.take k).below h0) (by omega)
        rw [runP_ok H0.out] at this
        exact this
      have HRUN := Lib.hid hrun; clear hrun
      have hin0 : runTo p ms = p.err → (L.any fun q => q == runTo p (ms.take k)) = true := fun hl => by rw [HLL.out]; exact in_doomed H0.out (ms := ms) hl hlt
      have HIN := Lib.hid hin0; clear hin0
      go_wp2
      refine wp_region_quiet_below (by kernel_rfl) (by kernel_rfl) ?_
      repeat (quiet_step (exact Calls.reg_ret (HRUN.out _ (below_regrown _ _ _))))
      refine wpQuiet_nil ?_
      rintro w' ⟨⟨d, os⟩, rfl⟩
      clear z0 z1 z2 z3 z4 q0 q1 q2 q3 q4
      have hbx := below_regrown wr d os
      have hbr6 := hbr.trans (hbx.mono hbr.size)
      have hb6 := hb.trans (hbx.mono hb.size)
      have BX6 := Lib.hid (BX.out.below hbx)
      have HI6 := Lib.hid (HIr.out.below hbx)
      clear hbx HPr HKr HMr HRUN HIr BX hb hbr
      generalize grow (redrawn wr d) os = w6 at *
      obtain ⟨q0, q1, q2, q3, q4⟩ := BX6.out
      generalize runTo p (ms.take k) = s at *
      have hcase : (failTo p ms k = false ∧ (s == p.err) = false) ∨ (failTo p ms k = false ∧ (s == p.err) = true) ∨ (failTo p ms k = true ∧ (s == p.err) = true) := by
        cases hf : failTo p ms k
        · cases he : (s == p.err)
          · exact .inl ⟨rfl, rfl⟩
          · exact .inr (.inl ⟨rfl, rfl⟩)
        · have := HFE.out hf
          exact .inr (.inr ⟨rfl, by simp [this]⟩)
      rcases hcase with ⟨hf, he⟩ | ⟨hf, he⟩ | ⟨hf, he⟩
      all_goals
        have HN : Hid (failTo p ms (k + 1) = (s == p.err)) := by
          show _ = _
          rw [HFS.out, hf, he]; rfl
        have hne : (s != p.err) = !(s == p.err) := rfl
        rw [he] at hne HN
        rw [hf]
        have HF2 := Lib.hid hf; clear hf
        go_wp2
        go_loop [10, 11] (fun b i => ∃ j : Nat, j ≤ L.length ∧ i = .int .i64 j ∧ b = .bool ((L.take j).any fun q => q == s)) (fun _ i => L.length - (intOf i).toNat)
        case atStart => exact ⟨0, Nat.zero_le _, rfl, rfl⟩
        case round =>
          obtain ⟨j, hj, rfl, rfl⟩ := hrel
          by_cases hjl : j < L.length
          · obtain ⟨bd, od, rfl, m1⟩ := HI6.out j hjl
            have HT : Hid (((L.take (j + 1)).any fun q => q == s) = (((L.take j).any fun q => q == s) || L[j] == s)) := by
              show _ = _
              rw [List.take_succ_eq_append_getElem hjl, List.any_append]; simp
            generalize L[j] = x at *
            cases ha : ((L.take j).any fun q => q == s)
            · rw [ha] at HT
              go_wp2
              go_round
              case rel => exact ⟨j + 1, by omega, by go_num, by rw [HT.out]; simp⟩
              case measure => simp [intOf]; omega
            · rw [ha] at HT
              go_wp2
              go_round
              case rel => exact ⟨j + 1, by omega, by go_num, by rw [HT.out]; simp⟩
              case measure => simp [intOf]; omega
          · have hT : (L.take j) = L := List.take_of_length_le (by omega)
            rw [hT]
            clear hT
            cases hle : (runTo p ms == p.err)
            · go_wp2
              go_roundw
              case rel => exact ⟨k + 1, by omega, by go_num, by rw [HN.out], hbr6⟩
              case measure => simp [intOf]; omega
            · have hin := HIN.out (by simpa using hle)
              rw [hin]
              clear hin
              go_wp2
              go_roundw
              case rel => exact ⟨k + 1, by omega, by go_num, by rw [HN.out], hbr6⟩
              case measure => simp [intOf]; omega
    · obtain rfl : k = ms.length + 1 := by omega
      rw [failTo_end H0.out]
      cases hle : (runTo p ms == p.err)
      all_goals
        go_wp2_with fail
        refine (awake8 _ HKr.out).mono ?_
        rintro e w7 ⟨rfl, hb7⟩
        have hb8 := hb.trans (hb7.mono hb.size)
        clear hb7
        go_wp2
        go_ret
        exact ⟨rfl, hb8⟩
end Go.Proofs.YtlkafolgbkobpaaDoor
