import Derived.Test.YtlkafolgbkobpaaDoorA17
namespace Go.Proofs.YtlkafolgbkobpaaDoor
open Go.RowKit Go.Sort

/-- the text of the definition, as it is built up -/
def rt1 (p : Pr) (k : Nat) : ByteArray := (p.sts.take k).foldl (fun s x => s ++ ⟨#[32]⟩ ++ x) (⟨#[112, 114, 111, 116, 111, 99, 111, 108, 32]⟩ ++ p.cls ++ ⟨#[10, 115, 116, 97, 116, 101, 115]⟩)
theorem rt1_succ {p : Pr} {k : Nat} (h : k < p.sts.length) : rt1 p (k + 1) = rt1 p k ++ ⟨#[32]⟩ ++ p.sts[k] := by
  unfold rt1; rw [List.take_succ_eq_append_getElem h, List.foldl_append]; rfl
def rt2 (p : Pr) : ByteArray := rt1 p p.sts.length ++ ⟨#[10, 115, 116, 97, 114, 116, 32]⟩ ++ stAt p p.start ++ ⟨#[10, 101, 114, 114, 111, 114, 32]⟩ ++ stAt p p.err ++ ⟨#[10]⟩
def rt3 (p : Pr) (k : Nat) : ByteArray := (p.mvs.take k).foldl (fun s m => s ++ ⟨#[109, 111, 118, 101, 32]⟩ ++ stAt p m.frm ++ ⟨#[32]⟩ ++ m.meth ++ ⟨#[32]⟩ ++ stAt p m.to ++ ⟨#[10]⟩) (rt2 p)
theorem rt3_succ {p : Pr} {k : Nat} (h : k < p.mvs.length) : rt3 p (k + 1) = rt3 p k ++ ⟨#[109, 111, 118, 101, 32]⟩ ++ stAt p p.mvs[k].frm ++ ⟨#[32]⟩ ++ p.mvs[k].meth ++ ⟨#[32]⟩ ++ stAt p p.mvs[k].to ++ ⟨#[10]⟩ := by
  unfold rt3; rw [List.take_succ_eq_append_getElem h, List.foldl_append]; rfl
def refText (p : Pr) : ByteArray := rt3 p p.mvs.length ++ ⟨#[101, 110, 100, 10]⟩

theorem data_append (a b : ByteArray) : (a ++ b).data.toList = a.data.toList ++ b.data.toList := by simp [ByteArray.data_append]
theorem join_tail_snoc (sep x : List UInt8) (r : List (List UInt8)) : Lib.joinTail sep (r ++ [x]) = Lib.joinTail sep r ++ (sep ++ x) := by simp [Lib.joinTail]
theorem rt1_data {p : Pr} : ∀ k, k ≤ p.sts.length → (rt1 p k).data.toList = [112, 114, 111, 116, 111, 99, 111, 108, 32] ++ p.cls.data.toList ++ [10, 115, 116, 97, 116, 101, 115] ++ Lib.joinTail [32] ((p.sts.take k).map (·.data.toList))
  | 0, _ => by simp [rt1, Lib.joinTail]
  | k + 1, h => by
    rw [rt1_succ (by omega), data_append, data_append, rt1_data k (by omega), List.take_succ_eq_append_getElem (by omega), List.map_append, List.map_cons, List.map_nil, join_tail_snoc]
    simp [List.append_assoc]
theorem join_of_ne (sep : List UInt8) (r : List (List UInt8)) (h : r ≠ []) : sep ++ Lib.join r sep = Lib.joinTail sep r := by
  cases r with
  | nil => exact absurd rfl h
  | cons x r => rw [Lib.join_cons]; simp [Lib.joinTail, List.append_assoc]
theorem rt3_data {p : Pr} : ∀ k, k ≤ p.mvs.length → (rt3 p k).data.toList = (rt2 p).data.toList ++ (((p.mvs.take k).map (fun m => (lnMv p m).data.toList ++ [10])).flatten)
  | 0, _ => by simp [rt3]
  | k + 1, h => by
    have ih := rt3_data (p := p) k (by omega)
    rw [rt3_succ (by omega), List.take_succ_eq_append_getElem (by omega), List.map_append, List.map_cons, List.map_nil, List.flatten_append]
    simp only [data_append, ih, lnMv, List.append_assoc, List.flatten_cons, List.flatten_nil, List.append_nil]
/-- lines joined by line feeds, the last one ending in its own -/
theorem join_lines (r : List (List UInt8)) (x : List UInt8) : Lib.join (r ++ [x]) [10] = (r.map (· ++ [10])).flatten ++ x := by
  induction r with
  | nil => simp [Lib.join_one]
  | cons y r ih =>
    have hne : r ++ [x] ≠ [] := by simp
    have := join_of_ne [10] (r ++ [x]) hne
    rw [ih] at this
    rw [List.cons_append, Lib.join_cons, ← this]
    simp [List.append_assoc]
/-- the two texts are one -/
theorem text_eq {p : Pr} (h : checkP p = 0) : refText p = textB p := by
  apply WideShapes.bytes_inj
  have hne : p.sts.map (·.data.toList) ≠ [] := by
    intro e
    have h1 := (ok_parts h).1
    have : p.sts = [] := by simpa using e
    simp [stB, this] at h1
    omega
  have e1 : (textB p).data.toList = Lib.join ((linesAll p).map (·.data.toList)) [10] := by simp [textB]
  rw [e1]
  unfold linesAll
  rw [List.map_append, List.map_cons, List.map_nil, join_lines]
  unfold refText
  rw [data_append, rt3_data _ (Nat.le_refl _), List.take_of_length_le (Nat.le_refl _)]
  unfold rt2 linesTo lines4
  rw [List.take_of_length_le (Nat.le_refl _)]
  simp only [data_append, rt1_data _ (Nat.le_refl _), List.take_of_length_le (Nat.le_refl _), List.map_append, List.map_cons, List.map_nil, List.flatten_append, List.flatten_cons, List.flatten_nil, List.append_nil, List.map_map]
  have e2 : (joinSts p).data.toList = Lib.join (p.sts.map (·.data.toList)) [32] := by simp [joinSts]
  have e3 := join_of_ne [32] _ hne
  rw [e2, ← e3]
  simp only [List.append_assoc, List.cons_append, List.nil_append, Function.comp_def]

theorem rt1_size {p : Pr} (h : checkP p = 0) : ∀ k, k ≤ p.sts.length → (rt1 p k).size ≤ 48 + k * 33
  | 0, _ => by
    have := ident_size (ok_more h).1
    have a : (ByteArray.mk #[112, 114, 111, 116, 111, 99, 111, 108, 32]).size = 9 := rfl
    have b : (ByteArray.mk #[10, 115, 116, 97, 116, 101, 115]).size = 7 := rfl
    simp only [rt1, List.take_zero, List.foldl_nil, ByteArray.size_append]
    omega
  | k + 1, hk => by
    have := rt1_size h k (by omega)
    have h2 := ident_size (sts_of (ok_more h).2 k (by omega) (by omega)).1
    have b : (ByteArray.mk #[32]).size = 1 := rfl
    rw [rt1_succ (by omega)]
    simp only [ByteArray.size_append]
    omega
theorem rt2_size {p : Pr} (h : checkP p = 0) : (rt2 p).size ≤ 700 := by
  have h1 := rt1_size h _ (Nat.le_refl _)
  have h2 := stAt_size h (ok_parts h).1
  have h3 := stAt_size h (ok_parts h).2.1
  have h4 := (ok_parts h).2.2.2.2.1
  have b1 : (ByteArray.mk #[10, 115, 116, 97, 114, 116, 32]).size = 7 := rfl
  have b2 : (ByteArray.mk #[10, 101, 114, 114, 111, 114, 32]).size = 7 := rfl
  have b3 : (ByteArray.mk #[10]).size = 1 := rfl
  simp only [rt2, ByteArray.size_append]
  omega
theorem rt3_size {p : Pr} (h : checkP p = 0) : ∀ k, k ≤ p.mvs.length → (rt3 p k).size ≤ 700 + k * 104
  | 0, _ => by simpa [rt3] using rt2_size h
  | k + 1, hk => by
    have h0 := rt3_size h k (by omega)
    have hv := mv_of_ok (ok_parts h).2.2.2.1 k (by omega) (by omega)
    have h1 := stAt_size h hv.1
    have h2 := stAt_size h hv.2.1
    have h3 := ident_size (meth_ok h (j := k) (by omega))
    have b1 : (ByteArray.mk #[109, 111, 118, 101, 32]).size = 5 := rfl
    have b2 : (ByteArray.mk #[32]).size = 1 := rfl
    have b3 : (ByteArray.mk #[10]).size = 1 := rfl
    rw [rt3_succ (by omega)]
    simp only [ByteArray.size_append]
    omega

set_option maxRecDepth 100000 in
set_option maxHeartbeats 1000000 in
theorem text18 (p : Pr) (a1 : Option Addr) (c1 : Nat) (a2 : Option Addr) (c2 : Nat) (w : World) (hi : PIn w p a1 c1 a2) :
    Calls Tryd.prog 18 #[PrV p a1 c1 a2 c2] w (Ret w (textV p)) := by
  unfold PrV
  have HI := Lib.hid hi; clear hi
  have HBX := Lib.hid (Box.new w p a1 c1 a2 c2 25)
  have HB0 : Hid (Below w.heap.size w (w.alloc (.cells #[.string p.cls, .slice a1 p.sts.length c1, .int .i64 p.start, .int .i64 p.err, .slice a2 p.mvs.length c2] 25))) := (Below.refl _ _).alloc (Nat.le_refl _) _
  go_enter Tryd.func18, Tryd.ntmps18
  go_wp2_with fail
  have hi := HI.out.below HB0.out
  refine (check16 p _ _ _ _ _ hi.hs hi.hm hi.hc).mono ?_
  rintro e w1 ⟨rfl, hb1⟩
  have hb := HB0.out.trans (hb1.mono HB0.out.size)
  have BX := Lib.hid (HBX.out.below hb1)
  have HI1 := Lib.hid (HI.out.below hb)
  clear hi hb1 HBX HB0
  obtain ⟨q0, q1, q2, q3, q4⟩ := BX.out
  have hlt0 : w.heap.size < w1.heap.size := BX.out.lt
  by_cases h0 : ¬ checkP p = 0
  · have h0' : (checkP p != 0) = true := by simpa using h0
    have H0 := Lib.hid h0; clear h0
    go_wp2
    go_ret2
    exact ⟨(by unfold textV; rw [if_neg H0.out]; rfl), hb⟩
  have h0 : checkP p = 0 := Classical.not_not.1 h0
  have h0' : (checkP p != 0) = false := by simp [h0]
  have hn16 : p.sts.length ≤ 16 := (ok_parts h0).2.2.2.2.1
  have hm256 : p.mvs.length ≤ 256 := (ok_parts h0).2.2.2.2.2
  have z1 : p.cls.size ≤ 32 := ident_size (ok_more h0).1
  have z3 := stAt_size h0 (ok_parts h0).1
  have z4 := stAt_size h0 (ok_parts h0).2.1
  have S1 := Lib.hid (ok_parts h0).1
  have S2 := Lib.hid (ok_parts h0).2.1
  have H0 := Lib.hid h0; clear h0
  go_wp2
  go_loop [5, 6] (fun s i => ∃ k : Nat, k ≤ p.sts.length ∧ i = .int .i64 k ∧ s = .string (rt1 p k)) (fun _ i => p.sts.length - (intOf i).toNat)
  case atStart => exact ⟨0, Nat.zero_le _, rfl, rfl⟩
  case round =>
    obtain ⟨k, hk, rfl, rfl⟩ := hrel
    by_cases hlt : k < p.sts.length
    · obtain ⟨b, off, rfl, m1⟩ := HI1.out.hs k hlt
      have y1 := rt1_size H0.out k hk
      have y2 := ident_size (sts_of (ok_more H0.out).2 k hlt (by omega)).1
      have HR := Lib.hid (rt1_succ hlt)
      generalize p.sts[k] = x at *
      generalize rt1 p k = R at *
      have n1 : ¬ 9223372036854775807 < R.size + 1 := by omega
      have n2 : ¬ 9223372036854775807 < R.size + 1 + x.size := by omega
      go_wp2
      go_round
      case rel => exact ⟨k + 1, by omega, by go_num, by rw [HR.out]⟩
      case measure => simp [intOf]; omega
    · obtain rfl : k = p.sts.length := by omega
      have y1 := rt1_size H0.out _ hk
      obtain ⟨b, off, rfl, m1⟩ := stAt_cell HI1.out.hs S1.out
      obtain ⟨b', off', hbo, m2⟩ := stAt_cell HI1.out.hs S2.out
      obtain ⟨rfl, rfl⟩ : b = b' ∧ off = off' := by simpa using hbo
      clear hbo
      have S3 := S1.out
      have S4 := S2.out
      simp only [stB, Bool.and_eq_true, decide_eq_true_eq] at S3 S4
      obtain ⟨s1, s2⟩ := S3
      obtain ⟨s3, s4⟩ := S4
      have t1 : p.start.toNat < p.sts.length := by omega
      have t2 : p.err.toNat < p.sts.length := by omega
      have HR2 : Hid (rt1 p p.sts.length ++ ⟨#[10, 115, 116, 97, 114, 116, 32]⟩ ++ stAt p p.start ++ ⟨#[10, 101, 114, 114, 111, 114, 32]⟩ ++ stAt p p.err ++ ⟨#[10]⟩ = rt2 p) := rfl
      generalize rt1 p p.sts.length = R at *
      have n1 : ¬ 9223372036854775807 < R.size + 7 := by omega
      have n2 : ¬ 9223372036854775807 < R.size + 7 + (stAt p p.start).size := by omega
      have n3 : ¬ 9223372036854775807 < R.size + 7 + (stAt p p.start).size + 7 := by omega
      have n4 : ¬ 9223372036854775807 < R.size + 7 + (stAt p p.start).size + 7 + (stAt p p.err).size := by omega
      have n5 : ¬ 9223372036854775807 < R.size + 7 + (stAt p p.start).size + 7 + (stAt p p.err).size + 1 := by omega
      go_wp2
      go_quiet (fail)
      clear n1 n2 n3 n4 n5
      rw [HR2.out]
      clear HR2 y1 s1 s2 s3 s4 t1 t2 m1 m2
      have hb' := below_drewN' hb nq
      have BX' := Lib.hid (BX.out.below (below_drewN' (Below.refl _ _) nq))
      have HI2 := Lib.hid (HI1.out.below (below_drewN' (Below.refl _ _) nq))
      clear hb BX HI1 q0 q1 q2 q3 q4 hlt0
      generalize w1.drewN nq = w2 at *
      obtain ⟨q0, q1, q2, q3, q4⟩ := BX'.out
      go_wp2
      go_loopw [5, 7] (fun s i wr => ∃ k : Nat, k ≤ p.mvs.length ∧ i = .int .i64 k ∧ s = .string (rt3 p k) ∧ Below w.heap.size w wr ∧ Hid (Box wr w.heap.size p (some ⟨b, off, none⟩) c1 a2 c2)) (fun _ i _ => p.mvs.length - (intOf i).toNat)
      case atStart => exact ⟨0, Nat.zero_le _, rfl, rfl, hb', BX'.out⟩
      case round =>
        clear q0 q1 q2 q3 q4 hb' BX' HI2
        obtain ⟨k, hk, rfl, rfl, hb, BX⟩ := hrel
        obtain ⟨q0, q1, q2, q3, q4⟩ := BX.out
        have hlt0 : w.heap.size < wr.heap.size := BX.out.lt
        by_cases hlt : k < p.mvs.length
        · obtain ⟨bm, om, rfl, m1, m2, m3⟩ := HI.out.hm.below hb k hlt
          have hv := mv_of_ok (ok_parts H0.out).2.2.2.1 k hlt (by omega)
          have hmt := ident_size (meth_ok H0.out hlt)
          have HL := Lib.hid (rt3_succ hlt)
          have y0 := rt3_size H0.out k hk
          obtain ⟨x, hx⟩ : ∃ x, x = p.mvs[k] := ⟨_, rfl⟩
          rw [← hx] at m1 m2 m3 hv hmt HL
          clear hx
          have y1 := stAt_size H0.out hv.1
          have y2 := stAt_size H0.out hv.2.1
          have HV1 := Lib.hid hv.1
          have HV2 := Lib.hid hv.2.1
          clear hv
          obtain ⟨b1, o1, e1, c1'⟩ := stAt_cell (HI.out.hs.below hb) HV1.out
          obtain ⟨rfl, rfl⟩ : b = b1 ∧ off = o1 := by simpa using e1
          obtain ⟨b2, o2, e2, c2'⟩ := stAt_cell (HI.out.hs.below hb) HV2.out
          obtain ⟨rfl, rfl⟩ : b = b2 ∧ off = o2 := by simpa using e2
          clear e1 e2
          have S3 := HV1.out
          have S4 := HV2.out
          simp only [stB, Bool.and_eq_true, decide_eq_true_eq] at S3 S4
          obtain ⟨s1, s2⟩ := S3
          obtain ⟨s3, s4⟩ := S4
          have t1 : x.frm.toNat < p.sts.length := by omega
          have t2 : x.to.toNat < p.sts.length := by omega
          generalize rt3 p k = R at *
          have n0 : ¬ 9223372036854775807 < R.size + 5 := by omega
          have n1 : ¬ 9223372036854775807 < R.size + 5 + (stAt p x.frm).size := by omega
          have n2 : ¬ 9223372036854775807 < R.size + 5 + (stAt p x.frm).size + 1 := by omega
          have n3 : ¬ 9223372036854775807 < R.size + 5 + (stAt p x.frm).size + 1 + x.meth.size := by omega
          have n4 : ¬ 9223372036854775807 < R.size + 5 + (stAt p x.frm).size + 1 + x.meth.size + 1 := by omega
          have n5 : ¬ 9223372036854775807 < R.size + 5 + (stAt p x.frm).size + 1 + x.meth.size + 1 + (stAt p x.to).size := by omega
          have n6 : ¬ 9223372036854775807 < R.size + 5 + (stAt p x.frm).size + 1 + x.meth.size + 1 + (stAt p x.to).size + 1 := by omega
          go_wp2
          have hbA : Below wr.heap.size wr (wr.alloc (.cells #[.int .i64 x.frm, .string x.meth, .int .i64 x.to] 46)) := (Below.refl _ _).alloc (Nat.le_refl _) _
          obtain ⟨x0, x1, x2⟩ := box_cells wr x 46
          have BX2 := Lib.hid (BX.out.below hbA)
          have hb2 : Below w.heap.size w (wr.alloc (.cells #[.int .i64 x.frm, .string x.meth, .int .i64 x.to] 46)) := hb.alloc hb.size _
          have c1' := cell_below hbA c1'
          have c2' := cell_below hbA c2'
          clear q0 q1 q2 q3 q4 m1 m2 m3 BX hbA hb hlt0
          generalize wr.alloc (.cells #[.int .i64 x.frm, .string x.meth, .int .i64 x.to] 46) = W3 at *
          obtain ⟨q0, q1, q2, q3, q4⟩ := BX2.out
          go_quiet (fail)
          clear n0 n1 n2 n3 n4 n5 n6
          go_wp2
          go_roundw
          case rel => exact ⟨k + 1, by omega, by go_num, by rw [HL.out], below_drewN' hb2 _, BX2.out.below (below_drewN' (Below.refl _ _) _)⟩
          case measure => simp [intOf]; omega
        · obtain rfl : k = p.mvs.length := by omega
          have y0 := rt3_size H0.out _ hk
          have HT : Hid (rt3 p p.mvs.length ++ ⟨#[101, 110, 100, 10]⟩ = textB p) := text_eq H0.out
          generalize rt3 p p.mvs.length = R at *
          have n0 : ¬ 9223372036854775807 < R.size + 4 := by omega
          go_wp2
          go_ret2
          refine ⟨?_, hb⟩
          unfold textV
          rw [if_pos H0.out, ← HT.out]
          rfl
end Go.Proofs.YtlkafolgbkobpaaDoor
