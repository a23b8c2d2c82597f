import Derived.Test.YtlkafolgbkobpaaDoorA20
namespace Go.Proofs.YtlkafolgbkobpaaDoor
open Go.RowKit Go.Sort

theorem form_iff {ws : List ByteArray} {f : ByteArray} {n : Nat} : formB ws f n = true ↔ (wd ws 0).toList = f.toList ∧ (if 0 < n then ws.length = n else 2 ≤ ws.length) ∧ ¬ 0 ≤ idx ws ⟨#[]⟩ := by
  unfold formB
  by_cases h : 0 < n
  · rw [if_pos h, if_pos (by omega)]
    simp only [Bool.and_eq_true, decide_eq_true_eq, and_assoc]
    constructor
    · rintro ⟨h1, h2, h3⟩; exact ⟨h1, by omega, by omega⟩
    · rintro ⟨h1, h2, h3⟩; exact ⟨h1, by omega, by omega⟩
  · rw [if_neg h, if_neg (by omega)]
    simp only [Bool.and_eq_true, decide_eq_true_eq, and_assoc]
    constructor
    · rintro ⟨h1, h2, h3⟩; exact ⟨h1, by omega, by omega⟩
    · rintro ⟨h1, h2, h3⟩; exact ⟨h1, by omega, by omega⟩
def nm0 : ByteArray := ⟨#[112, 114, 111, 116, 111, 99, 111, 108]⟩
def nm1 : ByteArray := ⟨#[115, 116, 97, 116, 101, 115]⟩
def nm2 : ByteArray := ⟨#[115, 116, 97, 114, 116]⟩
def nm3 : ByteArray := ⟨#[101, 114, 114, 111, 114]⟩
theorem nm0_l : nm0.toList = [112, 114, 111, 116, 111, 99, 111, 108] := by rw [ByteArray.toList_eq]; rfl
theorem nm1_l : nm1.toList = [115, 116, 97, 116, 101, 115] := by rw [ByteArray.toList_eq]; rfl
theorem nm2_l : nm2.toList = [115, 116, 97, 114, 116] := by rw [ByteArray.toList_eq]; rfl
theorem nm3_l : nm3.toList = [101, 114, 114, 111, 114] := by rw [ByteArray.toList_eq]; rfl
theorem s0_t {p : Pr} {ws : List ByteArray} (h : formB ws nm0 2 = true) : stepLn ⟨p, 0⟩ ws = (0, ⟨{ p with cls := wd ws 1 }, 1⟩) ∧ 1 < ws.length := by
  obtain ⟨h1, h2, h3⟩ := (form_iff (n := 2)).1 h
  rw [nm0_l] at h1
  simp only [if_pos (show 0 < 2 by omega)] at h2
  refine ⟨?_, by omega⟩
  unfold stepLn; rw [if_neg h3]; unfold stepK; rw [if_pos rfl, if_pos ⟨h1, h2⟩]
theorem s0_f {p : Pr} {ws : List ByteArray} (h : formB ws nm0 2 = false) : (stepLn ⟨p, 0⟩ ws).1 = 2 := by
  unfold stepLn; split; · rfl
  unfold stepK; rw [if_pos rfl]
  split
  · rename_i h3 h4
    have : formB ws nm0 2 = true := (form_iff (n := 2)).2 ⟨by rw [nm0_l]; exact h4.1, by simp [h4.2], h3⟩
    rw [h] at this; cases this
  · rfl
theorem s1_t {p : Pr} {ws : List ByteArray} (h : formB ws nm1 0 = true) : stepLn ⟨p, 1⟩ ws = (0, ⟨{ p with sts := ws.drop 1 }, 2⟩) ∧ 1 < ws.length := by
  obtain ⟨h1, h2, h3⟩ := (form_iff (n := 0)).1 h
  rw [nm1_l] at h1
  simp only [if_neg (show ¬ 0 < 0 by omega)] at h2
  refine ⟨?_, by omega⟩
  unfold stepLn; rw [if_neg h3]; unfold stepK; rw [if_neg (by simp), if_pos rfl, if_pos ⟨h1, h2⟩]
theorem s1_f {p : Pr} {ws : List ByteArray} (h : formB ws nm1 0 = false) : (stepLn ⟨p, 1⟩ ws).1 = 2 := by
  unfold stepLn; split; · rfl
  unfold stepK; rw [if_neg (by simp), if_pos rfl]
  split
  · rename_i h3 h4
    have : formB ws nm1 0 = true := (form_iff (n := 0)).2 ⟨by rw [nm1_l]; exact h4.1, by simp [h4.2], h3⟩
    rw [h] at this; cases this
  · rfl
theorem s2_t {p : Pr} {ws : List ByteArray} (h : formB ws nm2 2 = true) : stepLn ⟨p, 2⟩ ws = (if idx p.sts (wd ws 1) < 0 then (6, ⟨p, 2⟩) else (0, ⟨{ p with start := idx p.sts (wd ws 1) }, 3⟩)) ∧ 1 < ws.length := by
  obtain ⟨h1, h2, h3⟩ := (form_iff (n := 2)).1 h
  rw [nm2_l] at h1
  simp only [if_pos (show 0 < 2 by omega)] at h2
  refine ⟨?_, by omega⟩
  unfold stepLn; rw [if_neg h3]; unfold stepK; rw [if_neg (by simp), if_neg (by simp), if_pos rfl, if_pos ⟨h1, h2⟩]
theorem s2_f {p : Pr} {ws : List ByteArray} (h : formB ws nm2 2 = false) : (stepLn ⟨p, 2⟩ ws).1 = 2 := by
  unfold stepLn; split; · rfl
  unfold stepK; rw [if_neg (by simp), if_neg (by simp), if_pos rfl]
  split
  · rename_i h3 h4
    have : formB ws nm2 2 = true := (form_iff (n := 2)).2 ⟨by rw [nm2_l]; exact h4.1, by simp [h4.2], h3⟩
    rw [h] at this; cases this
  · rfl
theorem s3_t {p : Pr} {ws : List ByteArray} (h : formB ws nm3 2 = true) : stepLn ⟨p, 3⟩ ws = (if idx p.sts (wd ws 1) < 0 then (6, ⟨p, 3⟩) else (0, ⟨{ p with err := idx p.sts (wd ws 1) }, 4⟩)) ∧ 1 < ws.length := by
  obtain ⟨h1, h2, h3⟩ := (form_iff (n := 2)).1 h
  rw [nm3_l] at h1
  simp only [if_pos (show 0 < 2 by omega)] at h2
  refine ⟨?_, by omega⟩
  unfold stepLn; rw [if_neg h3]; unfold stepK; rw [if_neg (by simp), if_neg (by simp), if_neg (by simp), if_pos rfl, if_pos ⟨h1, h2⟩]
theorem s3_f {p : Pr} {ws : List ByteArray} (h : formB ws nm3 2 = false) : (stepLn ⟨p, 3⟩ ws).1 = 2 := by
  unfold stepLn; split; · rfl
  unfold stepK; rw [if_neg (by simp), if_neg (by simp), if_neg (by simp), if_pos rfl]
  split
  · rename_i h3 h4
    have : formB ws nm3 2 = true := (form_iff (n := 2)).2 ⟨by rw [nm3_l]; exact h4.1, by simp [h4.2], h3⟩
    rw [h] at this; cases this
  · rfl
/-- a line read into a protocol -/
def HeadPost (w : World) (st : PSt) (ws : List ByteArray) (a1 a : Option Addr) (a2 : Option Addr) (c2 : Nat) (e : Ending) (w' : World) : Prop :=
  Below w.heap.size w w' ∧ ∃ (p' : Pr) (a1' : Option Addr) (c1' : Nat), e = .returned (.tuple #[PrV p' a1' c1' a2 c2, .int .i64 (stepLn st ws).1]) ∧ ((stepLn st ws).1 = 0 → p' = (stepLn st ws).2.p ∧ StrsAt w' a1' p'.sts ∧ p'.sts.length ≤ c1' ∧ (a1' = a1 ∨ ∃ b off, a = some ⟨b, off, none⟩ ∧ a1' = some ⟨b, off + 1, none⟩))

theorem StrsAt.drop1 {w : World} {b off : Nat} {l : List ByteArray} (h : StrsAt w (some ⟨b, off, none⟩) l) : StrsAt w (some ⟨b, off + 1, none⟩) (l.drop 1) := by
  intro k hk
  have hk' : k + 1 < l.length := by simp at hk; omega
  obtain ⟨b', off', ha, hc⟩ := h (k + 1) hk'
  simp only [Option.some.injEq, Addr.mk.injEq] at ha
  obtain ⟨rfl, rfl, _⟩ := ha
  refine ⟨b, off + 1, rfl, ?_⟩
  rw [show off + 1 + k = off + (k + 1) by omega, hc]
  simp
theorem slice22l (b off n cap : Nat) (h : 1 < n) (hc : n ≤ cap) (w : World) : (Instr.slice 22 (.slice (some ⟨b, off, none⟩) n cap) (some (.int .i64 1)) none none).run Tryd.prog w = .ok (.slice (some ⟨b, off + 1, none⟩) (n - 1) (cap - 1)) w := by
  have hs : (sizeOf (Tryd.prog.elem 22)).run Tryd.prog w = .ok 1 w := by kernel_rfl
  rw [run_slice_l w 22 _ n cap Tryd.underlying22 .i64 1 (by omega) (by omega), hs]
  have : ¬ cap = 1 := by omega
  simp [Result.andThen, sliced, this, Addr.add]
theorem alloc_drewN (w : World) (o : Obj) (n : Nat) : (w.alloc o).drewN n = (w.drewN n).alloc o := rfl
theorem head_below (w : World) (o1 o2 o3 : Obj) : Below w.heap.size w (((w.alloc o1).alloc o2).alloc o3) := (((Below.refl _ _).alloc (Nat.le_refl _) _).alloc (by simp) _).alloc (by simp; omega) _

set_option maxRecDepth 100000 in
set_option maxHeartbeats 1000000 in
theorem head37_0 (p : Pr) (a1 : Option Addr) (c1 : Nat) (a2 : Option Addr) (c2 : Nat) (a : Option Addr) (cap : Nat) (ws : List ByteArray) (w : World) (h0 : 0 < ws.length) (hl : ws.length ≤ 100000) (hs : StrsAt w a1 p.sts) (hc1 : p.sts.length ≤ c1) (hpl : p.sts.length ≤ 100000) (hw : StrsAt w a ws) (_hcap : ws.length ≤ cap) :
    Calls Tryd.prog 37 #[PrV p a1 c1 a2 c2, .int .i64 0, .slice a ws.length cap] w (HeadPost w ⟨p, 0⟩ ws a1 a a2 c2) := by
  unfold PrV
  have HS := Lib.hid hs; clear hs
  have HW := Lib.hid hw; clear hw
  go_enter Tryd.func37, Tryd.ntmps37
  go_wp2_with fail
  refine (form38 a cap ws _ 2 _ (by omega) h0 hl (HW.out.below (head_below ..))).mono ?_
  rintro e w' ⟨rfl, rfl⟩
  rw [show (ByteArray.mk #[112, 114, 111, 116, 111, 99, 111, 108]) = nm0 from rfl]
  cases hf : formB ws nm0 2
  · have HE := Lib.hid (s0_f (p := p) hf)
    go_wp2
    refine bodyPost_ret (v := .tuple #[PrV p a1 c1 a2 c2, .int .i64 2]) (by simp [results, Tryd.results37, go_sem, PrV]) rfl ?_
    exact ⟨head_below .., p, a1, c1, by rw [HE.out], fun h => by rw [HE.out] at h; simp at h⟩
  · obtain ⟨he, h1⟩ := s0_t (p := p) hf
    have HE := Lib.hid he; clear he
    obtain ⟨b, off, rfl, m1⟩ := wd_cell HW.out 1 h1
    have hbl : b < w.heap.size := World.block_lt_of_cell? w _ m1
    have hbl1 : b < w.heap.size + 1 := by omega
    have hbl2 : b < w.heap.size + 1 + 1 := by omega
    go_wp2
    go_quiet ((go_at_call 29; exact Calls.quiet_same (at29n _ _ _ p.sts (wd ws 1) _ rfl (by omega) ((HS.out.below (head_below ..)).drewN _))))
    rw [alloc_drewN, alloc_drewN, alloc_drewN]
    have HW2 := Lib.hid (HW.out.drewN nq)
    have HS2 := Lib.hid (HS.out.drewN nq)
    have HB2 := Lib.hid (below_drewN' (Below.refl w.heap.size w) nq)
    have HZ : Hid ((w.drewN nq).heap.size = w.heap.size) := rfl
    have m3 : (w.drewN nq).cell? ⟨b, off + 1, none⟩ = some (.string (wd ws 1)) := m1
    clear m1
    rw [← HZ.out] at hbl hbl1 hbl2 ⊢
    generalize w.drewN nq = w2 at *
    go_wp2
    refine bodyPost_ret (v := .tuple #[PrV { p with cls := wd ws 1 } a1 c1 a2 c2, .int .i64 0]) (by simp [results, Tryd.results37, go_sem, PrV]) rfl ?_
    refine ⟨HB2.out.trans (by rw [← HZ.out]; exact head_below ..), { p with cls := wd ws 1 }, a1, c1, by rw [HE.out], fun h => ⟨by rw [HE.out], HS2.out.below (head_below ..), hc1, .inl rfl⟩⟩

set_option maxRecDepth 100000 in
set_option maxHeartbeats 1000000 in
theorem head37_1 (p : Pr) (a1 : Option Addr) (c1 : Nat) (a2 : Option Addr) (c2 : Nat) (a : Option Addr) (cap : Nat) (ws : List ByteArray) (w : World) (h0 : 0 < ws.length) (hl : ws.length ≤ 100000) (hs : StrsAt w a1 p.sts) (_hc1 : p.sts.length ≤ c1) (hpl : p.sts.length ≤ 100000) (hw : StrsAt w a ws) (hcap : ws.length ≤ cap) :
    Calls Tryd.prog 37 #[PrV p a1 c1 a2 c2, .int .i64 1, .slice a ws.length cap] w (HeadPost w ⟨p, 1⟩ ws a1 a a2 c2) := by
  unfold PrV
  have HS := Lib.hid hs; clear hs
  have HW := Lib.hid hw; clear hw
  go_enter Tryd.func37, Tryd.ntmps37
  go_wp2_with fail
  refine (form38 a cap ws _ 0 _ (by omega) h0 hl (HW.out.below (head_below ..))).mono ?_
  rintro e w' ⟨rfl, rfl⟩
  rw [show (ByteArray.mk #[115, 116, 97, 116, 101, 115]) = nm1 from rfl]
  cases hf : formB ws nm1 0
  · have HE := Lib.hid (s1_f (p := p) hf)
    go_wp2
    refine bodyPost_ret (v := .tuple #[PrV p a1 c1 a2 c2, .int .i64 2]) (by simp [results, Tryd.results37, go_sem, PrV]) rfl ?_
    exact ⟨head_below .., p, a1, c1, by rw [HE.out], fun h => by rw [HE.out] at h; simp at h⟩
  · obtain ⟨he, h1⟩ := s1_t (p := p) hf
    have HE := Lib.hid he; clear he
    obtain ⟨b, off, rfl, m1⟩ := wd_cell HW.out 1 h1
    have hbl : b < w.heap.size := World.block_lt_of_cell? w _ m1
    have hbl1 : b < w.heap.size + 1 := by omega
    have hbl2 : b < w.heap.size + 1 + 1 := by omega
    go_wp2
    go_quiet ((go_at_call 29; exact Calls.quiet_same (at29n _ _ _ p.sts (wd ws 1) _ rfl (by omega) ((HS.out.below (head_below ..)).drewN _))))
    rw [alloc_drewN, alloc_drewN, alloc_drewN]
    have HW2 := Lib.hid (HW.out.drewN nq)
    have HS2 := Lib.hid (HS.out.drewN nq)
    have HB2 := Lib.hid (below_drewN' (Below.refl w.heap.size w) nq)
    have HZ : Hid ((w.drewN nq).heap.size = w.heap.size) := rfl
    have m3 : (w.drewN nq).cell? ⟨b, off + 1, none⟩ = some (.string (wd ws 1)) := m1
    clear m1
    rw [← HZ.out] at hbl hbl1 hbl2 ⊢
    generalize w.drewN nq = w2 at *
    have hsl : ∀ u : World, (Instr.slice 22 (.slice (some ⟨b, off, none⟩) ws.length cap) (some (.int .i64 1)) none none).run Tryd.prog u = .ok (.slice (some ⟨b, off + 1, none⟩) (ws.length - 1) (cap - 1)) u := slice22l b off ws.length cap h1 hcap
    go_wp2
    refine bodyPost_ret (v := .tuple #[PrV { p with sts := ws.drop 1 } (some ⟨b, off + 1, none⟩) (cap - 1) a2 c2, .int .i64 0]) (by simp [results, Tryd.results37, go_sem, PrV]) rfl ?_
    refine ⟨HB2.out.trans (by rw [← HZ.out]; exact head_below ..), { p with sts := ws.drop 1 }, _, _, by rw [HE.out], fun h => ⟨by rw [HE.out], (HW2.out.drop1).below (head_below ..), by simp; omega, .inr ⟨b, off, rfl, rfl⟩⟩⟩

set_option maxRecDepth 100000 in
set_option maxHeartbeats 1000000 in
theorem head37_2 (p : Pr) (a1 : Option Addr) (c1 : Nat) (a2 : Option Addr) (c2 : Nat) (a : Option Addr) (cap : Nat) (ws : List ByteArray) (w : World) (h0 : 0 < ws.length) (hl : ws.length ≤ 100000) (hs : StrsAt w a1 p.sts) (hc1 : p.sts.length ≤ c1) (hpl : p.sts.length ≤ 100000) (hw : StrsAt w a ws) (_hcap : ws.length ≤ cap) :
    Calls Tryd.prog 37 #[PrV p a1 c1 a2 c2, .int .i64 2, .slice a ws.length cap] w (HeadPost w ⟨p, 2⟩ ws a1 a a2 c2) := by
  unfold PrV
  have HS := Lib.hid hs; clear hs
  have HW := Lib.hid hw; clear hw
  go_enter Tryd.func37, Tryd.ntmps37
  go_wp2_with fail
  refine (form38 a cap ws _ 2 _ (by omega) h0 hl (HW.out.below (head_below ..))).mono ?_
  rintro e w' ⟨rfl, rfl⟩
  rw [show (ByteArray.mk #[115, 116, 97, 114, 116]) = nm2 from rfl]
  cases hf : formB ws nm2 2
  · have HE := Lib.hid (s2_f (p := p) hf)
    go_wp2
    refine bodyPost_ret (v := .tuple #[PrV p a1 c1 a2 c2, .int .i64 2]) (by simp [results, Tryd.results37, go_sem, PrV]) rfl ?_
    exact ⟨head_below .., p, a1, c1, by rw [HE.out], fun h => by rw [HE.out] at h; simp at h⟩
  · obtain ⟨he, h1⟩ := s2_t (p := p) hf
    have HE := Lib.hid he; clear he
    obtain ⟨b, off, rfl, m1⟩ := wd_cell HW.out 1 h1
    have hbl : b < w.heap.size := World.block_lt_of_cell? w _ m1
    have hbl1 : b < w.heap.size + 1 := by omega
    have hbl2 : b < w.heap.size + 1 + 1 := by omega
    go_wp2
    go_quiet ((go_at_call 29; exact Calls.quiet_same (at29n _ _ _ p.sts (wd ws 1) _ rfl (by omega) ((HS.out.below (head_below ..)).drewN _))))
    rw [alloc_drewN, alloc_drewN, alloc_drewN]
    have HW2 := Lib.hid (HW.out.drewN nq)
    have HS2 := Lib.hid (HS.out.drewN nq)
    have HB2 := Lib.hid (below_drewN' (Below.refl w.heap.size w) nq)
    have HZ : Hid ((w.drewN nq).heap.size = w.heap.size) := rfl
    have m3 : (w.drewN nq).cell? ⟨b, off + 1, none⟩ = some (.string (wd ws 1)) := m1
    clear m1
    rw [← HZ.out] at hbl hbl1 hbl2 ⊢
    generalize w.drewN nq = w2 at *
    obtain ⟨x, hx⟩ : ∃ x, x = idx p.sts (wd ws 1) := ⟨_, rfl⟩
    rw [← hx] at HE ⊢
    clear hx
    by_cases hx : x < 0
    · rw [if_pos hx] at HE
      have dx : decide (x < 0) = true := by simp [hx]
      go_wp2
      refine bodyPost_ret (v := .tuple #[PrV { p with start := x } a1 c1 a2 c2, .int .i64 6]) (by simp [results, Tryd.results37, go_sem, PrV]) rfl ?_
      refine ⟨HB2.out.trans (by rw [← HZ.out]; exact head_below ..), { p with start := x }, a1, c1, by rw [HE.out], fun h => by rw [HE.out] at h; simp at h⟩
    · rw [if_neg hx] at HE
      have dx : decide (x < 0) = false := by simp; omega
      go_wp2
      refine bodyPost_ret (v := .tuple #[PrV { p with start := x } a1 c1 a2 c2, .int .i64 0]) (by simp [results, Tryd.results37, go_sem, PrV]) rfl ?_
      refine ⟨HB2.out.trans (by rw [← HZ.out]; exact head_below ..), { p with start := x }, a1, c1, by rw [HE.out], fun h => ⟨by rw [HE.out], HS2.out.below (head_below ..), hc1, .inl rfl⟩⟩

set_option maxRecDepth 100000 in
set_option maxHeartbeats 1000000 in
theorem head37_3 (p : Pr) (a1 : Option Addr) (c1 : Nat) (a2 : Option Addr) (c2 : Nat) (a : Option Addr) (cap : Nat) (ws : List ByteArray) (w : World) (h0 : 0 < ws.length) (hl : ws.length ≤ 100000) (hs : StrsAt w a1 p.sts) (hc1 : p.sts.length ≤ c1) (hpl : p.sts.length ≤ 100000) (hw : StrsAt w a ws) (_hcap : ws.length ≤ cap) :
    Calls Tryd.prog 37 #[PrV p a1 c1 a2 c2, .int .i64 3, .slice a ws.length cap] w (HeadPost w ⟨p, 3⟩ ws a1 a a2 c2) := by
  unfold PrV
  have HS := Lib.hid hs; clear hs
  have HW := Lib.hid hw; clear hw
  go_enter Tryd.func37, Tryd.ntmps37
  go_wp2_with fail
  refine (form38 a cap ws _ 2 _ (by omega) h0 hl (HW.out.below (head_below ..))).mono ?_
  rintro e w' ⟨rfl, rfl⟩
  rw [show (ByteArray.mk #[101, 114, 114, 111, 114]) = nm3 from rfl]
  cases hf : formB ws nm3 2
  · have HE := Lib.hid (s3_f (p := p) hf)
    go_wp2
    refine bodyPost_ret (v := .tuple #[PrV p a1 c1 a2 c2, .int .i64 2]) (by simp [results, Tryd.results37, go_sem, PrV]) rfl ?_
    exact ⟨head_below .., p, a1, c1, by rw [HE.out], fun h => by rw [HE.out] at h; simp at h⟩
  · obtain ⟨he, h1⟩ := s3_t (p := p) hf
    have HE := Lib.hid he; clear he
    obtain ⟨b, off, rfl, m1⟩ := wd_cell HW.out 1 h1
    have hbl : b < w.heap.size := World.block_lt_of_cell? w _ m1
    have hbl1 : b < w.heap.size + 1 := by omega
    have hbl2 : b < w.heap.size + 1 + 1 := by omega
    go_wp2
    go_quiet ((go_at_call 29; exact Calls.quiet_same (at29n _ _ _ p.sts (wd ws 1) _ rfl (by omega) ((HS.out.below (head_below ..)).drewN _))))
    rw [alloc_drewN, alloc_drewN, alloc_drewN]
    have HW2 := Lib.hid (HW.out.drewN nq)
    have HS2 := Lib.hid (HS.out.drewN nq)
    have HB2 := Lib.hid (below_drewN' (Below.refl w.heap.size w) nq)
    have HZ : Hid ((w.drewN nq).heap.size = w.heap.size) := rfl
    have m3 : (w.drewN nq).cell? ⟨b, off + 1, none⟩ = some (.string (wd ws 1)) := m1
    clear m1
    rw [← HZ.out] at hbl hbl1 hbl2 ⊢
    generalize w.drewN nq = w2 at *
    obtain ⟨x, hx⟩ : ∃ x, x = idx p.sts (wd ws 1) := ⟨_, rfl⟩
    rw [← hx] at HE ⊢
    clear hx
    by_cases hx : x < 0
    · rw [if_pos hx] at HE
      have dx : decide (x < 0) = true := by simp [hx]
      go_wp2
      refine bodyPost_ret (v := .tuple #[PrV { p with err := x } a1 c1 a2 c2, .int .i64 6]) (by simp [results, Tryd.results37, go_sem, PrV]) rfl ?_
      refine ⟨HB2.out.trans (by rw [← HZ.out]; exact head_below ..), { p with err := x }, a1, c1, by rw [HE.out], fun h => by rw [HE.out] at h; simp at h⟩
    · rw [if_neg hx] at HE
      have dx : decide (x < 0) = false := by simp; omega
      go_wp2
      refine bodyPost_ret (v := .tuple #[PrV { p with err := x } a1 c1 a2 c2, .int .i64 0]) (by simp [results, Tryd.results37, go_sem, PrV]) rfl ?_
      refine ⟨HB2.out.trans (by rw [← HZ.out]; exact head_below ..), { p with err := x }, a1, c1, by rw [HE.out], fun h => ⟨by rw [HE.out], HS2.out.below (head_below ..), hc1, .inl rfl⟩⟩
end Go.Proofs.YtlkafolgbkobpaaDoor
