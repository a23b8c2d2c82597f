import Derived.Test.YtlkafolgbkobpaaDoorA10
import Derived.Test.YtlkafolgbkobpaaDoorShelf
namespace Go.Proofs.YtlkafolgbkobpaaDoor
open Go.RowKit Go.Sort

theorem join31 (a : Option Addr) (cap : Nat) (xs : List ByteArray) (sep : ByteArray) (w : World) (hs : StrsAt w a xs) (hc : xs.length ≤ cap) (hN : xs.length ≤ 1000000) (hlen : (Lib.join (xs.map (·.data.toList)) sep.data.toList).length ≤ 140737488355328) :
    Calls Tryd.prog 31 #[.slice a xs.length cap, .string sep] w (Ret w (.string ⟨(Lib.join (xs.map (·.data.toList)) sep.data.toList).toArray⟩)) := by
  cases xs with
  | nil =>
    refine (Tryd.strings_Join_none a cap sep w).mono ?_
    rintro e w' ⟨rfl, rfl⟩
    exact ⟨rfl, Below.refl _ _⟩
  | cons x l =>
    obtain ⟨b, off, rfl, h0⟩ := hs 0 (by simp)
    refine (Tryd.strings_Join b off cap (x :: l) sep w (fun j y hy => ?_) (World.block_lt_of_cell? _ _ h0) (by omega) hc hlen).mono ?_
    · obtain ⟨hj, rfl⟩ := List.getElem?_eq_some_iff.1 hy
      obtain ⟨b', off', e, hc⟩ := hs j hj
      obtain ⟨rfl, rfl⟩ : b = b' ∧ off = off' := by simpa using e
      exact hc
    · rintro e w' ⟨rfl, hb⟩
      exact ⟨rfl, hb⟩

theorem mvErr0 {p : Pr} {k : Nat} (h : mvsErr p k = 0) : ∀ j (hj : j < p.mvs.length), k ≤ j → mvErr p (if 0 < j then p.mvs[j - 1]? else none) p.mvs[j] = 0 := by
  intro j hj hkj
  by_cases hk : k < p.mvs.length
  · have h0 : mvErr p (if 0 < k then p.mvs[k - 1]? else none) p.mvs[k] = 0 := by
      apply Classical.byContradiction
      intro hne
      have := mvsErr_bad hk rfl hne
      rw [h] at this
      exact hne this.symm
    by_cases e : k = j
    · subst e; exact h0
    · exact mvErr0 (k := k + 1) (by rw [← mvsErr_ok hk h0]; exact h) j hj (by omega)
  · omega
termination_by p.mvs.length - k
theorem meth_ok {p : Pr} (h : checkP p = 0) {j : Nat} (hj : j < p.mvs.length) : identB p.mvs[j].meth = true := by
  have h0 := mvErr0 (ok_parts h).2.2.2.1 j hj (by omega)
  cases hid : identB p.mvs[j].meth with
  | true => rfl
  | false =>
    have := mv_of_ok (ok_parts h).2.2.2.1 j hj (by omega)
    rw [mvErr_name this.1 this.2.1 hid] at h0
    simp at h0
theorem sts_of {l : List ByteArray} {k : Nat} (h : stsErr l k = 0) : ∀ j (hj : j < l.length), k ≤ j → identB l[j] = true ∧ ¬ 0 ≤ idx (l.take j) l[j] := by
  intro j hj hkj
  by_cases hk : k < l.length
  · cases hid : identB l[k] with
    | false => rw [stsErr_name hk hid] at h; simp at h
    | true =>
      by_cases hx : 0 ≤ idx (l.take k) l[k]
      · rw [stsErr_ex hk hid hx] at h; simp at h
      · by_cases e : k = j
        · subst e; exact ⟨hid, hx⟩
        · exact sts_of (k := k + 1) (by rw [← stsErr_ok hk hid hx]; exact h) j hj (by omega)
  · omega
termination_by l.length - k
theorem ident_size {s : ByteArray} (h : identB s = true) : s.size ≤ 32 := by
  simp only [identB, Bool.and_eq_true, decide_eq_true_eq] at h
  exact h.1.1.1.2
theorem ok_more {p : Pr} (h : checkP p = 0) : identB p.cls = true ∧ stsErr p.sts 0 = 0 := by
  simp only [checkP] at h
  by_cases h1 : identB p.cls = false
  · rw [if_pos h1] at h; simp at h
  rw [if_neg h1] at h
  by_cases h2 : 16 < p.sts.length ∨ 256 < p.mvs.length
  · rw [if_pos h2] at h; simp at h
  rw [if_neg h2] at h
  by_cases h3 : p.sts.length = 0
  · rw [if_pos h3] at h; simp at h
  rw [if_neg h3] at h
  by_cases h4 : stsErr p.sts 0 ≠ 0
  · rw [if_pos h4] at h; exact absurd h h4
  exact ⟨by simpa using h1, by simpa using h4⟩
def stAt (p : Pr) (q : Int) : ByteArray := p.sts.getD q.toNat ByteArray.empty
theorem stAt_size {p : Pr} (h : checkP p = 0) {q : Int} (hq : stB p q = true) : (stAt p q).size ≤ 32 := by
  simp only [stB, Bool.and_eq_true, decide_eq_true_eq] at hq
  have hq' : q.toNat < p.sts.length := by omega
  have := (sts_of (ok_more h).2 q.toNat hq' (by omega)).1
  simp only [stAt, List.getD_eq_getElem?_getD, List.getElem?_eq_getElem hq', Option.getD_some]
  exact ident_size this
theorem stAt_cell {w : World} {a : Option Addr} {p : Pr} (hs : StrsAt w a p.sts) {q : Int} (hq : stB p q = true) : ∃ b off, a = some ⟨b, off, none⟩ ∧ w.cell? ⟨b, off + q.toNat, none⟩ = some (.string (stAt p q)) := by
  simp only [stB, Bool.and_eq_true, decide_eq_true_eq] at hq
  have hq' : q.toNat < p.sts.length := by omega
  obtain ⟨b, off, ha, hc⟩ := hs q.toNat hq'
  refine ⟨b, off, ha, ?_⟩
  simp only [stAt, List.getD_eq_getElem?_getD, List.getElem?_eq_getElem hq', Option.getD_some]
  exact hc

def joinSts (p : Pr) : ByteArray := ⟨(Lib.join (p.sts.map (·.data.toList)) [32]).toArray⟩
theorem joinTail_len {sep : List UInt8} {n : Nat} : ∀ (r : List (List UInt8)), (∀ x ∈ r, x.length ≤ n) → (Lib.joinTail sep r).length ≤ r.length * (sep.length + n)
  | [], _ => by simp [Lib.joinTail]
  | x :: r, h => by
    have ih := joinTail_len (sep := sep) (n := n) r (fun y hy => h y (by simp [hy]))
    have hx := h x (by simp)
    simp only [Lib.joinTail, List.map_cons, List.flatten_cons, List.length_append, List.length_cons] at ih ⊢
    rw [Nat.add_mul]; omega
theorem join_len {sep : List UInt8} {n : Nat} (r : List (List UInt8)) (h : ∀ x ∈ r, x.length ≤ n) : (Lib.join r sep).length ≤ (r.length + 1) * (sep.length + n) := by
  cases r with
  | nil => simp [Lib.join_nil]
  | cons x r =>
    rw [Lib.join_cons, List.length_append]
    have := joinTail_len (sep := sep) (n := n) r (fun y hy => h y (by simp [hy]))
    have hx := h x (by simp)
    simp only [List.length_cons]
    rw [Nat.add_mul, Nat.add_mul]; omega
theorem joinSts_size {p : Pr} (h : checkP p = 0) : (Lib.join (p.sts.map (·.data.toList)) [32]).length ≤ 561 := by
  have hl := (ok_parts h).2.2.2.2.1
  have := join_len (sep := [32]) (n := 32) (p.sts.map (·.data.toList)) (fun x hx => by
    obtain ⟨s, hs, rfl⟩ := List.mem_map.1 hx
    obtain ⟨j, hj, rfl⟩ := List.getElem_of_mem hs
    have := ident_size (sts_of (ok_more h).2 j hj (by omega)).1
    simpa using this)
  simp only [List.length_map, List.length_singleton] at this
  omega
def lnMv (p : Pr) (m : Mv) : ByteArray := ⟨#[109, 111, 118, 101, 32]⟩ ++ stAt p m.frm ++ ⟨#[32]⟩ ++ m.meth ++ ⟨#[32]⟩ ++ stAt p m.to
def lines4 (p : Pr) : List ByteArray := [⟨#[112, 114, 111, 116, 111, 99, 111, 108, 32]⟩ ++ p.cls, ⟨#[115, 116, 97, 116, 101, 115, 32]⟩ ++ joinSts p, ⟨#[115, 116, 97, 114, 116, 32]⟩ ++ stAt p p.start, ⟨#[101, 114, 114, 111, 114, 32]⟩ ++ stAt p p.err]
def linesTo (p : Pr) (k : Nat) : List ByteArray := lines4 p ++ (p.mvs.take k).map (lnMv p)
def linesAll (p : Pr) : List ByteArray := linesTo p p.mvs.length ++ [⟨#[101, 110, 100, 10]⟩]
def textB (p : Pr) : ByteArray := ⟨(Lib.join ((linesAll p).map (·.data.toList)) [10]).toArray⟩

theorem grown_of_below {w w' : World} (hb : Below w.heap.size w w') (row : Option Nat) : w.grownBy w' row := ⟨hb.os, hb.tape, hb.output, hb.size, fun k hk _ => hb.block k hk⟩
theorem owns_below {w w' : World} {base : Nat} {e : TypeId} {size : Nat} {v : Value} {n : Nat} {xs : List Value} (h : w.ownsRow base e size v n xs) (hb : Below w.heap.size w w') : w'.ownsRow base e size v n xs :=
  h.kept (grown_of_below hb none) (by cases hv : v.ownBlock <;> simp)
theorem Box.grown {W W' : World} {b : Nat} {p : Pr} {a1 : Option Addr} {c1 : Nat} {a2 : Option Addr} {c2 : Nat} {row : Option Nat} (h : Box W b p a1 c1 a2 c2) (hg : W.grownBy W' row) (hne : some b ≠ row) : Box W' b p a1 c1 a2 c2 :=
  ⟨hg.cell h.q0 hne, hg.cell h.q1 hne, hg.cell h.q2 hne, hg.cell h.q3 hne, hg.cell h.q4 hne⟩
theorem owns_ne {w : World} {base : Nat} {e : TypeId} {size : Nat} {v : Value} {n : Nat} {xs : List Value} (h : w.ownsRow base e size v n xs) {b : Nat} (hb : b < base) : some b ≠ v.ownBlock := fun he => by
  have := (h.lt b he.symm).1; omega
theorem owns_new (w : World) (base : Nat) (cur : Array Value) (e : TypeId) (hb : base ≤ w.heap.size) (hm : cur.size ≤ maxLen) :
    (w.alloc (.cells cur e)).ownsRow base e 1 (.slice (some ⟨w.heap.size, 0, none⟩) cur.size cur.size) cur.size cur.toList :=
  ⟨by simp, .inr ⟨w.heap.size, cur.size, cur, rfl, hb, heap_alloc_new w _, Nat.le_refl _, hm, by simp, by rw [Nat.mul_one]; exact List.take_of_length_le (by simp)⟩⟩
theorem owns_strs {w : World} {base : Nat} {e : TypeId} {v : Value} {l : List ByteArray} {n : Nat} (h : w.ownsRow base e 1 v n (l.map Value.string)) : n = l.length ∧ ∃ a cap, v = .slice a n cap ∧ StrsAt w a l ∧ n ≤ cap := by
  have hl : n = l.length := by have := h.1; simp at this; omega
  refine ⟨hl, ?_⟩
  rcases h.2 with ⟨rfl, h0⟩ | ⟨g, cap, cur, rfl, hb, hh, hn, _, hsz, ht⟩
  · refine ⟨none, 0, by rw [h0], fun k hk => by omega, by omega⟩
  · refine ⟨_, _, rfl, fun k hk => ⟨g, 0, rfl, ?_⟩, hn⟩
    have := h.cells (g := g) rfl k (.string l[k]) (by simp [hk])
    have e2 : (⟨g, 0, none⟩ : Addr).add k = ⟨g, 0 + k, none⟩ := by unfold Addr.add; split <;> simp_all
    rw [e2] at this; exact this
theorem linesTo_succ {p : Pr} {k : Nat} (h : k < p.mvs.length) : linesTo p (k + 1) = linesTo p k ++ [lnMv p p.mvs[k]] := by
  unfold linesTo; rw [List.take_succ_eq_append_getElem h, List.map_append, List.append_assoc]; rfl
theorem linesTo_len {p : Pr} {k : Nat} (h : k ≤ p.mvs.length) : (linesTo p k).length = 4 + k := by simp [linesTo, lines4]; omega
theorem lnMv_size {p : Pr} {m : Mv} (h1 : (stAt p m.frm).size ≤ 32) (h2 : (stAt p m.to).size ≤ 32) (h3 : m.meth.size ≤ 32) : (lnMv p m).size ≤ 103 := by
  simp only [lnMv, ByteArray.size_append]
  have a1 : (ByteArray.mk #[109, 111, 118, 101, 32]).size = 5 := rfl
  have a2 : (ByteArray.mk #[32]).size = 1 := rfl
  omega
theorem size_len (s : ByteArray) : s.data.toList.length = s.size := by simp
theorem text_len {p : Pr} (h : checkP p = 0) : (Lib.join ((linesAll p).map (·.data.toList)) [10]).length ≤ 1000000 := by
  have hp := ok_parts h
  have hl : (linesAll p).length ≤ 261 := by simp only [linesAll, List.length_append, linesTo_len (Nat.le_refl _), List.length_singleton]; omega
  have := join_len (sep := [10]) (n := 600) ((linesAll p).map (·.data.toList)) (fun x hx => by
    obtain ⟨s, hs, rfl⟩ := List.mem_map.1 hx
    rw [size_len]
    simp only [linesAll, linesTo, lines4, List.mem_append, List.mem_cons, List.mem_map, List.mem_nil_iff, or_false] at hs
    have z1 : p.cls.size ≤ 32 := ident_size (ok_more h).1
    have z2 := joinSts_size h
    have z2' : (joinSts p).size ≤ 561 := by simpa [joinSts, ByteArray.size] using z2
    have z3 := stAt_size h hp.1
    have z4 := stAt_size h hp.2.1
    rcases hs with (((rfl | rfl | rfl | rfl) | ⟨m, hm, rfl⟩) | rfl)
    · simp only [ByteArray.size_append]
      have : (ByteArray.mk #[112, 114, 111, 116, 111, 99, 111, 108, 32]).size = 9 := rfl
      omega
    · simp only [ByteArray.size_append]
      have : (ByteArray.mk #[115, 116, 97, 116, 101, 115, 32]).size = 7 := rfl
      omega
    · simp only [ByteArray.size_append]
      have : (ByteArray.mk #[115, 116, 97, 114, 116, 32]).size = 6 := rfl
      omega
    · simp only [ByteArray.size_append]
      have : (ByteArray.mk #[101, 114, 114, 111, 114, 32]).size = 6 := rfl
      omega
    · obtain ⟨j, hj, rfl⟩ := List.getElem_of_mem (List.mem_of_mem_take hm)
      have hv := mv_of_ok hp.2.2.2.1 j hj (by omega)
      have := lnMv_size (stAt_size h hv.1) (stAt_size h hv.2.1) (ident_size (meth_ok h hj))
      omega
    · have : (ByteArray.mk #[101, 110, 100, 10]).size = 4 := rfl
      omega)
  simp only [List.length_map, List.length_singleton] at this
  have h2 : ((linesAll p).length + 1) * (1 + 600) ≤ 262 * 601 := Nat.mul_le_mul (by omega) (by omega)
  omega
theorem Tryd_info9 : (Tryd.prog.info? 9).map (fun i => (i.zero, i.size, i.bytes)) = some (some (.string ⟨#[]⟩), 1, 16) := by kernel_rfl

def textV (p : Pr) : Value := if checkP p = 0 then .tuple #[.string (textB p), .int .i64 0] else .tuple #[.string ⟨#[]⟩, .int .i64 (checkP p)]
set_option maxRecDepth 100000 in
set_option maxHeartbeats 1000000 in
theorem text17 (p : Pr) (a1 : Option Addr) (c1 : Nat) (a2 : Option Addr) (c2 : Nat) (w : World) (hk : KW w) (hi : PIn w p a1 c1 a2) :
    Calls Tryd.prog 17 #[PrV p a1 c1 a2 c2] w (Ret w (textV p)) := by
  unfold PrV
  have HI := Lib.hid hi; clear hi
  have HK := Lib.hid hk; clear hk
  have HBX := Lib.hid (Box.new w p a1 c1 a2 c2 25)
  have HB0 : Hid (Below w.heap.size w (w.alloc (.cells #[.string p.cls, .slice a1 p.sts.length c1, .int .i64 p.start, .int .i64 p.err, .slice a2 p.mvs.length c2] 25))) := (Below.refl _ _).alloc (Nat.le_refl _) _
  go_enter Tryd.func17, Tryd.ntmps17
  go_wp2_with fail
  have hi := HI.out.below HB0.out
  refine (check15 p _ _ _ _ _ (HK.out.below HB0.out) hi.hs hi.hm hi.hc).mono ?_
  rintro e w1 ⟨rfl, hb1⟩
  have hb := HB0.out.trans (hb1.mono HB0.out.size)
  have BX := Lib.hid (HBX.out.below hb1)
  have HI1 := Lib.hid (HI.out.below hb)
  clear hi hb1 HBX HB0
  obtain ⟨q0, q1, q2, q3, q4⟩ := BX.out
  by_cases h0 : ¬ checkP p = 0
  · have h0' : (checkP p != 0) = true := by simpa using h0
    have H0 := Lib.hid h0; clear h0
    go_wp2
    go_ret2
    exact ⟨(by unfold textV; rw [if_neg H0.out]; rfl), hb⟩
  have h0 : checkP p = 0 := Classical.not_not.1 h0
  have h0' : (checkP p != 0) = false := by simp [h0]
  have hm256 : p.mvs.length ≤ 256 := (ok_parts h0).2.2.2.2.2
  have z1 : p.cls.size ≤ 32 := ident_size (ok_more h0).1
  have z2 := joinSts_size h0
  have z3 := stAt_size h0 (ok_parts h0).1
  have z4 := stAt_size h0 (ok_parts h0).2.1
  have S1 := Lib.hid (ok_parts h0).1
  have S2 := Lib.hid (ok_parts h0).2.1
  obtain ⟨b, off, rfl, m1⟩ := stAt_cell HI1.out.hs S1.out
  obtain ⟨b', off', hbo, m2⟩ := stAt_cell HI1.out.hs S2.out
  obtain ⟨rfl, rfl⟩ : b = b' ∧ off = off' := by simpa using hbo
  have H0 := Lib.hid h0; clear h0 hbo
  go_wp2
  have k0 := cell_regrown q0
  have k1 := cell_regrown q1
  have k2 := cell_regrown q2
  have k3 := cell_regrown q3
  have k5 := cell_regrown m1
  have k6 := cell_regrown m2
  have n1 : ¬ 9223372036854775807 < 9 + p.cls.size := by omega
  have n2 : ¬ 9223372036854775807 < 7 + (Lib.join (p.sts.map (·.data.toList)) [32]).length := by omega
  have n3 : ¬ 9223372036854775807 < 6 + (stAt p p.start).size := by omega
  have n4 : ¬ 9223372036854775807 < 6 + (stAt p p.err).size := by omega
  have S3 := S1.out
  have S4 := S2.out
  simp only [stB, Bool.and_eq_true, decide_eq_true_eq] at S3 S4
  obtain ⟨s1, s2⟩ := S3
  obtain ⟨s3, s4⟩ := S4
  have t1 : p.start.toNat < p.sts.length := by omega
  have t2 : p.err.toNat < p.sts.length := by omega
  refine wp_region_quiet_tail (fun w' => ∃ p : Regrown, w' = grow (redrawn w1 p.d) p.os) 21 (by kernel_rfl) (by kernel_rfl) (reg_start w1) ?_
  simp only [List.take_succ_cons, List.take_zero, List.drop_succ_cons, List.drop_zero]
  repeat (quiet_step (exact Calls.reg_ret (join31 _ _ p.sts ⟨#[32]⟩ _ (HI1.out.hs.reg _ _) HI1.out.hc HI1.out.h1 (by have := joinSts_size H0.out; simp at this ⊢; omega))))
  refine wpQuiet_nil ?_
  rintro w' ⟨⟨d, os⟩, rfl⟩
  have hbG := below_regrown w1 d os
  have BX2 := Lib.hid (BX.out.below hbG)
  have hb2 := hb.trans (hbG.mono hb.size)
  clear k0 k1 k2 k3 k5 k6 m1 m2 q0 q1 q2 q3 q4 hb hbG BX s1 s2 s3 s4 t1 t2 z1 z2 z3 z4 n1 n2 n3 n4
  generalize grow (redrawn w1 d) os = W2 at *
  have hlt2 : w.heap.size < W2.heap.size := BX2.out.lt
  have OWN : Hid ((W2.alloc (.cells #[.string (⟨#[112, 114, 111, 116, 111, 99, 111, 108, 32]⟩ ++ p.cls), .string (⟨#[115, 116, 97, 116, 101, 115, 32]⟩ ++ ⟨(Lib.join (p.sts.map (·.data.toList)) [32]).toArray⟩), .string (⟨#[115, 116, 97, 114, 116, 32]⟩ ++ stAt p p.start), .string (⟨#[101, 114, 114, 111, 114, 32]⟩ ++ stAt p p.err)] 9)).ownsRow (w.heap.size + 1) 9 1 (.slice (some ⟨W2.heap.size, 0, none⟩) 4 4) 4 ((linesTo p 0).map Value.string)) :=
    owns_new W2 (w.heap.size + 1) #[_, _, _, _] 9 hlt2 (by simp [maxLen])
  obtain ⟨q0, q1, q2, q3, q4⟩ := BX2.out
  go_wp2
  go_loopw [5, 38] (fun v i wr => ∃ k : Nat, k ≤ p.mvs.length ∧ i = .int .i64 k ∧ Hid (wr.ownsRow (w.heap.size + 1) 9 1 v (4 + k) ((linesTo p k).map Value.string)) ∧ Below w.heap.size w wr ∧ Hid (Box wr w.heap.size p (some ⟨b, off, none⟩) c1 a2 c2)) (fun _ i _ => p.mvs.length - (intOf i).toNat)
  case atStart => exact ⟨0, Nat.zero_le _, rfl, OWN.out, hb2.alloc hb2.size _, BX2.out.below ((Below.refl _ _).alloc (Nat.le_refl _) _)⟩
  case round =>
    clear q0 q1 q2 q3 q4 hb2 BX2 OWN hlt2
    obtain ⟨k, hk, rfl, OWN, hb, BX⟩ := hrel
    obtain ⟨q0, q1, q2, q3, q4⟩ := BX.out
    have hlt0 : w.heap.size < wr.heap.size := BX.out.lt
    by_cases hlt : k < p.mvs.length
    · have HM1 := HI.out.hm.below hb
      obtain ⟨bm, om, rfl, m1, m2, m3⟩ := HM1 k hlt
      have hv := mv_of_ok (ok_parts H0.out).2.2.2.1 k hlt (by omega)
      have hmt := ident_size (meth_ok H0.out hlt)
      have HL := Lib.hid (linesTo_succ hlt)
      clear HM1
      obtain ⟨x, hx⟩ : ∃ x, x = p.mvs[k] := ⟨_, rfl⟩
      rw [← hx] at m1 m2 m3 hv hmt HL
      clear hx
      have y1 := stAt_size H0.out hv.1
      have y2 := stAt_size H0.out hv.2.1
      have HV1 := Lib.hid hv.1
      have HV2 := Lib.hid hv.2.1
      clear hv
      obtain ⟨b1, o1, e1, c1'⟩ := stAt_cell (HI.out.hs.below hb) HV1.out
      obtain ⟨rfl, rfl⟩ : b = b1 ∧ off = o1 := by simpa using e1
      obtain ⟨b2, o2, e2, c2'⟩ := stAt_cell (HI.out.hs.below hb) HV2.out
      obtain ⟨rfl, rfl⟩ : b = b2 ∧ off = o2 := by simpa using e2
      clear e1 e2
      have S3 := HV1.out
      have S4 := HV2.out
      simp only [stB, Bool.and_eq_true, decide_eq_true_eq] at S3 S4
      obtain ⟨s1, s2⟩ := S3
      obtain ⟨s3, s4⟩ := S4
      have t1 : x.frm.toNat < p.sts.length := by omega
      have t2 : x.to.toNat < p.sts.length := by omega
      have n1 : ¬ 9223372036854775807 < 5 + (stAt p x.frm).size := by omega
      have n2 : ¬ 9223372036854775807 < 5 + (stAt p x.frm).size + 1 := by omega
      have n3 : ¬ 9223372036854775807 < 5 + (stAt p x.frm).size + 1 + x.meth.size := by omega
      have n4 : ¬ 9223372036854775807 < 5 + (stAt p x.frm).size + 1 + x.meth.size + 1 := by omega
      have n5 : ¬ 9223372036854775807 < 5 + (stAt p x.frm).size + 1 + x.meth.size + 1 + (stAt p x.to).size := by omega
      go_wp2
      have hbA : Below wr.heap.size wr (wr.alloc (.cells #[.int .i64 x.frm, .string x.meth, .int .i64 x.to] 46)) := (Below.refl _ _).alloc (Nat.le_refl _) _
      obtain ⟨x0, x1, x2⟩ := box_cells wr x 46
      have OWN2 := Lib.hid (owns_below OWN.out hbA)
      have BX2 := Lib.hid (BX.out.below hbA)
      have hb2 : Below w.heap.size w (wr.alloc (.cells #[.int .i64 x.frm, .string x.meth, .int .i64 x.to] 46)) := hb.alloc hb.size _
      have c1' := cell_below hbA c1'
      have c2' := cell_below hbA c2'
      clear q0 q1 q2 q3 q4 m1 m2 m3 BX OWN hbA hb
      generalize wr.alloc (.cells #[.int .i64 x.frm, .string x.meth, .int .i64 x.to] 46) = W3 at *
      have k0 := cell_regrown x0
      have k1 := cell_regrown x1
      have k2 := cell_regrown x2
      have k3 := cell_regrown BX2.out.q1
      have k4 := cell_regrown c1'
      have k5 := cell_regrown c2'
      clear x0 x1 x2 c1' c2'
      refine wp_region_move_quiet_tail (fun w' => ∃ p : Regrown, w' = grow (redrawn W3 p.d) p.os) 20 u5 (by kernel_rfl) (by kernel_rfl) (.inl ⟨by kernel_rfl, fun _ => by kernel_rfl⟩) (fun _ _ _ h => h) (reg_start W3) ?_
      simp only [List.take_succ_cons, List.take_zero, List.drop_succ_cons, List.drop_zero]
      repeat (quiet_step (fail))
      refine wpQuiet_nil ?_
      rintro w' ⟨⟨d, os⟩, rfl⟩
      have hbG := below_regrown W3 d os
      have OWN3 := owns_below OWN2.out hbG
      have BX3 := Lib.hid (BX2.out.below hbG)
      have hb3 := hb2.trans (hbG.mono hb2.size)
      clear k0 k1 k2 k3 k4 k5 hb2 hbG BX2 OWN2 s1 s2 s3 s4 t1 t2 n1 n2 n3 n4 n5
      generalize grow (redrawn W3 d) os = W4 at *
      have hlt4 : w.heap.size < W4.heap.size := BX3.out.lt
      obtain ⟨i0, hi, hz0, hz1, hz2⟩ := info_parts Tryd_info9
      go_wp2_with (at_builtin; refine wpList_append_own _ rfl _ _ 22 rfl (w.heap.size + 1) 9 i0 (.string ⟨#[]⟩) 1 16 Tryd.underlying22 hi hz0 hz1 hz2 rfl (by decide) _ _ _ rfl (OWN3.alloc _) ⟨W4.heap.size, 0, none⟩ 1 1 [.string (⟨#[109, 111, 118, 101, 32]⟩ ++ stAt p x.frm ++ ⟨#[32]⟩ ++ x.meth ++ ⟨#[32]⟩ ++ stAt p x.to)] rfl rfl ?c1 ?c2 ?c3 ?c4 ?c5 ?_)
      case c1 => exact (cell_one_new _ _ _)
      case c2 => intro u hu; simp only [List.mem_singleton] at hu; subst hu; rfl
      case c3 => have := (ok_parts H0.out).2.2.2.2.2; unfold maxLen; omega
      case c4 => have := (ok_parts H0.out).2.2.2.2.2; omega
      case c5 => simp; omega
      intro v' w5 hown' hgrow _
      have hbA : Below W4.heap.size W4 (W4.alloc (.cells #[.string (⟨#[109, 111, 118, 101, 32]⟩ ++ stAt p x.frm ++ ⟨#[32]⟩ ++ x.meth ++ ⟨#[32]⟩ ++ stAt p x.to)] 9)) := (Below.refl _ _).alloc (Nat.le_refl _) _
      have BX5 := Lib.hid ((BX3.out.below hbA).grown hgrow (owns_ne OWN3 (by omega)))
      have hb5 : Below w.heap.size w w5 := (hb3.alloc hb3.size _).grown hgrow (by simp; omega) (fun k hk => by have := (OWN3.lt k hk).1; omega)
      have OWN5 : Hid (w5.ownsRow (w.heap.size + 1) 9 1 v' (4 + (k + 1)) ((linesTo p (k + 1)).map Value.string)) := by
        show World.ownsRow ..
        rw [HL.out, List.map_append]
        exact hown'
      clear hown' hgrow hbA OWN3 BX3 hb3
      go_wp2
      go_roundw
      case rel => exact ⟨k + 1, by omega, by go_num, OWN5.out, hb5, BX5.out⟩
      case measure => simp [intOf]; omega
    · obtain rfl : k = p.mvs.length := by omega
      have OWN3 := OWN.out
      obtain ⟨i0, hi, hz0, hz1, hz2⟩ := info_parts Tryd_info9
      go_wp2_with (at_builtin; refine wpList_append_own _ rfl _ _ 22 rfl (w.heap.size + 1) 9 i0 (.string ⟨#[]⟩) 1 16 Tryd.underlying22 hi hz0 hz1 hz2 rfl (by decide) _ _ _ rfl (OWN3.alloc _) ⟨wr.heap.size, 0, none⟩ 1 1 [.string ⟨#[101, 110, 100, 10]⟩] rfl rfl ?d1 ?d2 ?d3 ?d4 ?d5 ?_)
      case d1 => exact (cell_one_new _ _ _)
      case d2 => intro u hu; simp only [List.mem_singleton] at hu; subst hu; rfl
      case d3 => have := (ok_parts H0.out).2.2.2.2.2; unfold maxLen; omega
      case d4 => have := (ok_parts H0.out).2.2.2.2.2; omega
      case d5 => simp; omega
      intro v' w5 hown' hgrow _
      have hb5 : Below w.heap.size w w5 := (hb.alloc hb.size _).grown hgrow (by simp; omega) (fun k hk => by have := (OWN3.lt k hk).1; omega)
      have OWN5 : w5.ownsRow (w.heap.size + 1) 9 1 v' (4 + p.mvs.length + 1) ((linesAll p).map Value.string) := by
        unfold linesAll
        rw [List.map_append]
        exact hown'
      obtain ⟨hn, av, cv, hv, hst, hcap⟩ := owns_strs OWN5
      clear hown' hgrow OWN3 OWN OWN5 hi hz0 hz1 hz2 q0 q1 q2 q3 q4
      rw [hn] at hv hcap
      rw [hv]
      have HST := Lib.hid hst
      have HCAP := Lib.hid hcap
      have HN := Lib.hid hn
      clear hst hcap hn hv
      go_wp2_with fail
      refine (join31 _ _ (linesAll p) ⟨#[10]⟩ _ HST.out HCAP.out (by have := (ok_parts H0.out).2.2.2.2.2; have := HN.out; omega) (by have := text_len H0.out; simp at this ⊢; omega)).mono ?_
      rintro e w6 ⟨rfl, hb6⟩
      have hb7 := hb5.trans (hb6.mono hb5.size)
      clear hb6 hb5
      go_wp2
      go_ret2
      exact ⟨(by unfold textV; rw [if_pos H0.out]; rfl), hb7⟩
end Go.Proofs.YtlkafolgbkobpaaDoor
