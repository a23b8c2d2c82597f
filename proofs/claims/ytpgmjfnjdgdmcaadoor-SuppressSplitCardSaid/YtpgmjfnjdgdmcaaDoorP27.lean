/-
  finding.Compare and its reference.
-/
import Derived.Test.YtpgmjfnjdgdmcaaDoorP26
import Derived.StillTailTactics
namespace Go.Proofs.YtpgmjfnjdgdmcaaDoor
open Go.RowKit Go.Sort

def cmpPs : List Pl → List Pl → Int
  | [], [] => 0
  | [], _ :: _ => -1
  | _ :: _, [] => 1
  | p :: a, q :: b => orC (cmpP p q) (cmpPs a b)
def cmpF (f g : Fd) : Int := orC (cmpP f.pl g.pl) (orC (cmpI f.kind g.kind) (orC (cmpS f.what g.what) (cmpPs f.path g.path)))
theorem cmpPs_self : ∀ l : List Pl, cmpPs l l = 0
  | [] => rfl
  | p :: l => by simp only [cmpPs]; rw [orC_t (cmpP_self p), cmpPs_self l]
theorem cmpF_self (f : Fd) : cmpF f f = 0 := by
  unfold cmpF
  rw [orC_t (cmpP_self _), orC_t (cmpI_self _), orC_t (cmpS_self _), cmpPs_self]
theorem cmpPs_drop {l m : List Pl} {k : Nat} (h1 : k < l.length) (h2 : k < m.length) : cmpPs (l.drop k) (m.drop k) = orC (cmpP l[k] m[k]) (cmpPs (l.drop (k + 1)) (m.drop (k + 1))) := by
  rw [List.drop_eq_getElem_cons h1, List.drop_eq_getElem_cons h2]; rfl
theorem cmpPs_long {l m : List Pl} {k : Nat} (h1 : k < l.length) (h2 : m.length ≤ k) : cmpPs (l.drop k) (m.drop k) = 1 := by
  rw [List.drop_eq_getElem_cons h1, List.drop_of_length_le h2]; rfl
theorem cmpPs_short {l m : List Pl} {k : Nat} (h1 : l.length ≤ k) (h2 : k < m.length) : cmpPs (l.drop k) (m.drop k) = -1 := by
  rw [List.drop_eq_getElem_cons h2, List.drop_of_length_le h1]; rfl
theorem cmpPs_end {l m : List Pl} {k : Nat} (h1 : l.length ≤ k) (h2 : m.length ≤ k) : cmpPs (l.drop k) (m.drop k) = 0 := by
  rw [List.drop_of_length_le h2, List.drop_of_length_le h1]; rfl

structure PsRel (w : World) (l m : List Pl) (k : Nat) (wr : World) : Prop where
  hk : k ≤ l.length
  hm : k ≤ m.length
  hc : cmpPs l m = cmpPs (l.drop k) (m.drop k)
  hb : Below w.heap.size w wr

set_option maxRecDepth 100000 in
set_option maxHeartbeats 2000000 in
theorem compareFunc71 (l m : List Pl) (a b : Option Addr) (c d : Nat) (w : World) (hl : PlsAt w a l) (hm : PlsAt w b m) (hll : l.length ≤ 1000000) :
    Calls Tryd.prog 71 #[.slice a l.length c, .slice b m.length d, .func (.func 68) #[] #[]] w (Ret w (.int .i64 (cmpPs l m))) := by
  have HL := Lib.hid hl
  have HM := Lib.hid hm
  clear hl hm
  have R0 : Hid (PsRel w l m 0 w) := ⟨Nat.zero_le _, Nat.zero_le _, rfl, Below.refl _ _⟩
  go_enter Tryd.func71, Tryd.ntmps71
  go_wp2
  go_loopw [13] (fun i wr => ∃ k : Nat, i = .int .i64 k ∧ PsRel w l m k wr) (fun i _ => l.length - (intOf i).toNat)
  case atStart => exact ⟨0, rfl, R0.out⟩
  case round =>
    clear R0
    obtain ⟨k, rfl, hrel⟩ := hrel
    have hk := hrel.hk
    have hkm := hrel.hm
    have HREL := Lib.hid hrel; clear hrel
    by_cases hlt : k < l.length
    · obtain ⟨g1, o1, rfl, m0, m1, m2⟩ := HL.out.below HREL.out.hb k hlt
      by_cases hmt : k < m.length
      · obtain ⟨g2, o2, rfl, n0, n1, n2⟩ := HM.out.below HREL.out.hb k hmt
        have HC := Lib.hid (HREL.out.hc.trans (cmpPs_drop hlt hmt))
        generalize l[k] = x at *
        generalize m[k] = y at *
        have HB2 := Lib.hid ((HREL.out.hb.alloc (by have := HREL.out.hb.size; omega) (.cells #[.string x.cls, .string x.meth, .int .i64 x.instr] 25)).alloc (by have := HREL.out.hb.size; simp; omega) (.cells #[.string y.cls, .string y.meth, .int .i64 y.instr] 25))
        have z : Below wr.heap.size wr (wr.alloc (.cells #[.string x.cls, .string x.meth, .int .i64 x.instr] 25)) := (Below.refl _ _).alloc (Nat.le_refl _) _
        have p0 := cell_below z n0
        have p1 := cell_below z n1
        have p2 := cell_below z n2
        clear z
        go_wp2_with fail
        refine (cmpPlaces68 x y _).mono ?_
        rintro e w3 ⟨rfl, hb3⟩
        have HB3 := Lib.hid (HB2.out.trans (hb3.mono HB2.out.size))
        clear hb3 HB2 m0 m1 m2 n0 n1 n2 p0 p1 p2
        by_cases h0 : cmpP x y = 0
        · have t0 : (cmpP x y != 0) = false := by simp [h0]
          rw [orC_t h0] at HC
          clear h0
          go_wp2
          go_roundw
          case rel => exact ⟨k + 1, by go_num, by omega, by omega, HC.out, HB3.out⟩
          case measure => simp [intOf]; omega
        · have t0 : (cmpP x y != 0) = true := by simpa using h0
          rw [orC_f h0] at HC
          clear h0
          go_wp2
          go_ret
          exact ⟨ret_int HC.out.symm, HB3.out⟩
      · have HC := Lib.hid (HREL.out.hc.trans (cmpPs_long hlt (by omega)))
        generalize l[k] = x at *
        have HB2 := Lib.hid (HREL.out.hb.alloc (by have := HREL.out.hb.size; omega) (.cells #[.string x.cls, .string x.meth, .int .i64 x.instr] 25))
        have t0 : decide ((m.length : Int) ≤ (k : Int)) = true := decide_eq_true (by omega)
        go_wp2
        go_ret
        exact ⟨ret_int HC.out.symm, HB2.out⟩
    · obtain rfl : k = l.length := by omega
      by_cases hmt : l.length < m.length
      · have HC := Lib.hid (HREL.out.hc.trans (cmpPs_short (Nat.le_refl _) hmt))
        go_wp2
        go_ret
        exact ⟨ret_int HC.out.symm, HREL.out.hb⟩
      · have HC := Lib.hid (HREL.out.hc.trans (cmpPs_end (Nat.le_refl _) (by omega)))
        go_wp2
        go_ret
        exact ⟨ret_int HC.out.symm, HREL.out.hb⟩

theorem cmpF_1 {f g : Fd} (h : cmpP f.pl g.pl ≠ 0) : cmpF f g = cmpP f.pl g.pl := orC_f h
theorem cmpF_2 {f g : Fd} (h : cmpP f.pl g.pl = 0) (h2 : cmpI f.kind g.kind ≠ 0) : cmpF f g = cmpI f.kind g.kind := by unfold cmpF; rw [orC_t h, orC_f h2]
theorem cmpF_3 {f g : Fd} (h : cmpP f.pl g.pl = 0) (h2 : cmpI f.kind g.kind = 0) (h3 : cmpS f.what g.what ≠ 0) : cmpF f g = cmpS f.what g.what := by unfold cmpF; rw [orC_t h, orC_t h2, orC_f h3]
theorem cmpF_4 {f g : Fd} (h : cmpP f.pl g.pl = 0) (h2 : cmpI f.kind g.kind = 0) (h3 : cmpS f.what g.what = 0) : cmpF f g = cmpPs f.path g.path := by unfold cmpF; rw [orC_t h, orC_t h2, orC_t h3]
def fdA (f : Fd) (a : Option Addr) (c : Nat) : Array Value := #[.int .i64 f.kind, .string f.pl.cls, .string f.pl.meth, .int .i64 f.pl.instr, .string f.what, .slice a f.path.length c]

set_option maxRecDepth 100000 in
set_option maxHeartbeats 2000000 in
theorem fcompare41 (f g : Fd) (a b : Option Addr) (c d : Nat) (w : World) (hl : PlsAt w a f.path) (hm : PlsAt w b g.path) (hll : f.path.length ≤ 1000000) :
    Calls Tryd.prog 41 #[FdV f a c, FdV g b d] w (Ret w (.int .i64 (cmpF f g))) := by
  have HL := Lib.hid hl
  have HM := Lib.hid hm
  clear hl hm
  unfold FdV
  have HB0 := Lib.hid (two_below w (.cells (fdA f a c) 28) (.cells (fdA g b d) 28))
  have B1 : Hid (Blk ((w.alloc (.cells (fdA f a c) 28)).alloc (.cells (fdA g b d) 28)) w.heap.size (fdA f a c) 28) := (blk_new w _ _).below ((Below.refl _ _).alloc (Nat.le_refl _) _)
  have B2 : Hid (Blk ((w.alloc (.cells (fdA f a c) 28)).alloc (.cells (fdA g b d) 28)) (w.heap.size + 1) (fdA g b d) 28) := by
    have := blk_new (w.alloc (.cells (fdA f a c) 28)) (fdA g b d) 28
    simp only [World.size_alloc] at this
    exact this
  unfold fdA at HB0 B1 B2
  go_enter Tryd.func41, Tryd.ntmps41
  go_wp2_with fail
  refine (cmpPlaces68 f.pl g.pl _).mono ?_
  rintro e w1 ⟨rfl, hb1⟩
  have HB1 := Lib.hid (HB0.out.trans (hb1.mono HB0.out.size))
  have c0 : w1.cell? ⟨w.heap.size, 0, none⟩ = some (.int .i64 f.kind) := (B1.out.below hb1).cell 0 (by simp)
  have c4 : w1.cell? ⟨w.heap.size, 4, none⟩ = some (.string f.what) := (B1.out.below hb1).cell 4 (by simp)
  have c5 : w1.cell? ⟨w.heap.size, 5, none⟩ = some (.slice a f.path.length c) := (B1.out.below hb1).cell 5 (by simp)
  have d0 : w1.cell? ⟨w.heap.size + 1, 0, none⟩ = some (.int .i64 g.kind) := (B2.out.below hb1).cell 0 (by simp)
  have d4 : w1.cell? ⟨w.heap.size + 1, 4, none⟩ = some (.string g.what) := (B2.out.below hb1).cell 4 (by simp)
  have d5 : w1.cell? ⟨w.heap.size + 1, 5, none⟩ = some (.slice b g.path.length d) := (B2.out.below hb1).cell 5 (by simp)
  clear hb1 HB0 B1 B2
  by_cases h1 : cmpP f.pl g.pl = 0
  case neg =>
    have t1 : (cmpP f.pl g.pl != 0) = true := by simpa using h1
    have HF := Lib.hid (cmpF_1 h1); clear h1
    go_wp2
    go_ret
    exact ⟨ret_int HF.out.symm, HB1.out⟩
  have t1 : (cmpP f.pl g.pl != 0) = false := by simpa using h1
  by_cases h2 : cmpI f.kind g.kind = 0
  case neg =>
    have t2 : (cmpI f.kind g.kind != 0) = true := by simpa using h2
    have HF := Lib.hid (cmpF_2 h1 h2); clear h1 h2
    go_wp2_with (first | (go_at_call 69; refine (icompare69 _ _ _).mono ?_; rintro e w' ⟨rfl, rfl⟩) | (go_at_call 70; refine (scompare70 _ _ _).mono ?_; rintro e w' ⟨rfl, rfl⟩))
    go_ret
    exact ⟨ret_int HF.out.symm, HB1.out⟩
  have t2 : (cmpI f.kind g.kind != 0) = false := by simpa using h2
  by_cases h3 : cmpS f.what g.what = 0
  case neg =>
    have t3 : (cmpS f.what g.what != 0) = true := by simpa using h3
    have HF := Lib.hid (cmpF_3 h1 h2 h3); clear h1 h2 h3
    go_wp2_with (first | (go_at_call 69; refine (icompare69 _ _ _).mono ?_; rintro e w' ⟨rfl, rfl⟩) | (go_at_call 70; refine (scompare70 _ _ _).mono ?_; rintro e w' ⟨rfl, rfl⟩))
    go_ret
    exact ⟨ret_int HF.out.symm, HB1.out⟩
  have t3 : (cmpS f.what g.what != 0) = false := by simpa using h3
  have HF := Lib.hid (cmpF_4 h1 h2 h3); clear h1 h2 h3
  go_wp2_with (first | (go_at_call 69; refine (icompare69 _ _ _).mono ?_; rintro e w' ⟨rfl, rfl⟩) | (go_at_call 70; refine (scompare70 _ _ _).mono ?_; rintro e w' ⟨rfl, rfl⟩))
  refine (compareFunc71 f.path g.path a b c d _ (HL.out.below HB1.out) (HM.out.below HB1.out) hll).mono ?_
  rintro e w2 ⟨rfl, hb2⟩
  have HB2 := Lib.hid (HB1.out.trans (hb2.mono HB1.out.size))
  clear hb2
  go_wp2
  go_ret
  exact ⟨ret_int HF.out.symm, HB2.out⟩

structure QRel (w : World) (f g : Fd) (a b : Option Addr) (c d : Nat) (k : Nat) (wr : World) : Prop where
  hk : k ≤ f.path.length
  hm : k ≤ g.path.length
  hc : cmpPs f.path g.path = cmpPs (f.path.drop k) (g.path.drop k)
  hb : Below w.heap.size w wr
  b1 : Blk wr w.heap.size (fdA f a c) 28
  b2 : Blk wr (w.heap.size + 1) (fdA g b d) 28
theorem cmpPs_num {l m : List Pl} {k : Nat} (h : ¬ (k < l.length ∧ k < m.length)) (hl : k ≤ l.length) (hm : k ≤ m.length) : cmpPs (l.drop k) (m.drop k) = cmpI (l.length : Int) (m.length : Int) := by
  unfold cmpI Lib.compareInt
  by_cases h1 : k < l.length
  · rw [cmpPs_long h1 (by omega), if_neg (by omega), if_pos (by omega)]
  · by_cases h2 : k < m.length
    · rw [cmpPs_short (by omega) h2, if_pos (by omega)]
    · rw [cmpPs_end (by omega) (by omega), if_neg (by omega), if_neg (by omega)]
set_option maxRecDepth 100000 in
set_option maxHeartbeats 4000000 in
theorem fcompare23 (f g : Fd) (a b : Option Addr) (c d : Nat) (w : World) (hl : PlsAt w a f.path) (hm : PlsAt w b g.path) (hll : f.path.length ≤ 1000000) :
    Calls Tryd.prog 23 #[FdV f a c, FdV g b d] w (Ret w (.int .i64 (cmpF f g))) := by
  have HL := Lib.hid hl
  have HM := Lib.hid hm
  clear hl hm
  unfold FdV
  have HB0 := Lib.hid (two_below w (.cells (fdA f a c) 28) (.cells (fdA g b d) 28))
  have B1 : Hid (Blk ((w.alloc (.cells (fdA f a c) 28)).alloc (.cells (fdA g b d) 28)) w.heap.size (fdA f a c) 28) := (blk_new w _ _).below ((Below.refl _ _).alloc (Nat.le_refl _) _)
  have B2 : Hid (Blk ((w.alloc (.cells (fdA f a c) 28)).alloc (.cells (fdA g b d) 28)) (w.heap.size + 1) (fdA g b d) 28) := by
    have := blk_new (w.alloc (.cells (fdA f a c) 28)) (fdA g b d) 28
    simp only [World.size_alloc] at this
    exact this
  unfold fdA at HB0 B1 B2
  go_enter Tryd.func23, Tryd.ntmps23
  go_wp2_with fail
  refine (cmpPlaces47 f.pl g.pl _).mono ?_
  rintro e w1 ⟨rfl, hb1⟩
  have HB1 := Lib.hid (HB0.out.trans (hb1.mono HB0.out.size))
  have c0 : w1.cell? ⟨w.heap.size, 0, none⟩ = some (.int .i64 f.kind) := (B1.out.below hb1).cell 0 (by simp)
  have c4 : w1.cell? ⟨w.heap.size, 4, none⟩ = some (.string f.what) := (B1.out.below hb1).cell 4 (by simp)
  have d0 : w1.cell? ⟨w.heap.size + 1, 0, none⟩ = some (.int .i64 g.kind) := (B2.out.below hb1).cell 0 (by simp)
  have d4 : w1.cell? ⟨w.heap.size + 1, 4, none⟩ = some (.string g.what) := (B2.out.below hb1).cell 4 (by simp)
  have B1' := Lib.hid (B1.out.below hb1)
  have B2' := Lib.hid (B2.out.below hb1)
  clear hb1 HB0 B1 B2
  by_cases h1 : cmpP f.pl g.pl = 0
  case neg =>
    have t1 : (cmpP f.pl g.pl != 0) = true := by simpa using h1
    have HF := Lib.hid (cmpF_1 h1); clear h1
    go_wp2
    go_ret
    exact ⟨ret_int HF.out.symm, HB1.out⟩
  have t1 : (cmpP f.pl g.pl != 0) = false := by simpa using h1
  by_cases h2 : cmpI f.kind g.kind = 0
  case neg =>
    have t2 : (cmpI f.kind g.kind != 0) = true := by simpa using h2
    have HF := Lib.hid (cmpF_2 h1 h2); clear h1 h2
    go_wp2_with (first | (go_at_call 48; refine (numbers48 _ _ _).mono ?_; rintro e w' ⟨rfl, rfl⟩) | (go_at_call 49; refine (words49 _ _ _).mono ?_; rintro e w' ⟨rfl, rfl⟩))
    go_ret
    exact ⟨ret_int HF.out.symm, HB1.out⟩
  have t2 : (cmpI f.kind g.kind != 0) = false := by simpa using h2
  by_cases h3 : cmpS f.what g.what = 0
  case neg =>
    have t3 : (cmpS f.what g.what != 0) = true := by simpa using h3
    have HF := Lib.hid (cmpF_3 h1 h2 h3); clear h1 h2 h3
    go_wp2_with (first | (go_at_call 48; refine (numbers48 _ _ _).mono ?_; rintro e w' ⟨rfl, rfl⟩) | (go_at_call 49; refine (words49 _ _ _).mono ?_; rintro e w' ⟨rfl, rfl⟩))
    go_ret
    exact ⟨ret_int HF.out.symm, HB1.out⟩
  have t3 : (cmpS f.what g.what != 0) = false := by simpa using h3
  have HF := Lib.hid (cmpF_4 h1 h2 h3); clear h1 h2 h3
  have R0 : Hid (QRel w f g a b c d 0 w1) := ⟨Nat.zero_le _, Nat.zero_le _, rfl, HB1.out, B1'.out, B2'.out⟩
  clear B1' B2'
  go_wp2_with (first | (go_at_call 48; refine (numbers48 _ _ _).mono ?_; rintro e w' ⟨rfl, rfl⟩) | (go_at_call 49; refine (words49 _ _ _).mono ?_; rintro e w' ⟨rfl, rfl⟩))
  clear c0 c4 d0 d4 t1 t2 t3 HB1
  go_loopw [8] (fun i wr => ∃ k : Nat, i = .int .i64 k ∧ QRel w f g a b c d k wr) (fun i _ => f.path.length - (intOf i).toNat)
  case atStart => exact ⟨0, rfl, R0.out⟩
  case round =>
    clear R0
    obtain ⟨k, rfl, hrel⟩ := hrel
    have hk := hrel.hk
    have hkm := hrel.hm
    have c5 : wr.cell? ⟨w.heap.size, 5, none⟩ = some (.slice a f.path.length c) := hrel.b1.cell 5 (by simp [fdA])
    have d5 : wr.cell? ⟨w.heap.size + 1, 5, none⟩ = some (.slice b g.path.length d) := hrel.b2.cell 5 (by simp [fdA])
    have HREL := Lib.hid hrel; clear hrel
    by_cases hboth : k < f.path.length ∧ k < g.path.length
    · obtain ⟨hlt, hmt⟩ := hboth
      have t1 : decide ((k : Int) < (f.path.length : Int)) = true := decide_eq_true (by omega)
      have t2 : decide ((k : Int) < (g.path.length : Int)) = true := decide_eq_true (by omega)
      obtain ⟨g1, o1, rfl, m0, m1, m2⟩ := HL.out.below HREL.out.hb k hlt
      obtain ⟨g2, o2, rfl, n0, n1, n2⟩ := HM.out.below HREL.out.hb k hmt
      have HC := Lib.hid (HREL.out.hc.trans (cmpPs_drop hlt hmt))
      generalize f.path[k] = x at *
      generalize g.path[k] = y at *
      go_wp2
      go_still_tail 10, (by kernel_rfl)
      have HBD := Lib.hid HREL.out.hb.drew
      have B1D : Hid (Blk wr.drew w.heap.size (fdA f (some ⟨g1, o1, none⟩) c) 28) := HREL.out.b1
      have B2D : Hid (Blk wr.drew (w.heap.size + 1) (fdA g (some ⟨g2, o2, none⟩) d) 28) := HREL.out.b2
      change wpList _ _ _ _ _ wr.drew
      clear m0 m1 m2 n0 n1 n2 c5 d5 HREL
      generalize wr.drew = w2 at *
      go_wp2_with fail
      refine (cmpPlaces47 x y _).mono ?_
      rintro e w3 ⟨rfl, hb3⟩
      have HB3 := Lib.hid (HBD.out.trans (hb3.mono HBD.out.size))
      have B1E := Lib.hid (B1D.out.below hb3)
      have B2E := Lib.hid (B2D.out.below hb3)
      clear hb3 HBD B1D B2D
      by_cases h0 : cmpP x y = 0
      · have t0 : (cmpP x y != 0) = false := by simp [h0]
        rw [orC_t h0] at HC
        clear h0
        go_wp2
        go_roundw
        case rel => exact ⟨k + 1, by go_num, by omega, by omega, HC.out, HB3.out, B1E.out, B2E.out⟩
        case measure => simp [intOf]; omega
      · have t0 : (cmpP x y != 0) = true := by simpa using h0
        rw [orC_f h0] at HC
        clear h0
        go_wp2
        go_ret
        exact ⟨ret_int (HF.out.trans HC.out).symm, HB3.out⟩
    · have HC := Lib.hid (HF.out.trans (HREL.out.hc.trans (cmpPs_num hboth hk hkm)))
      by_cases h1 : k < f.path.length
      · have t1 : decide ((k : Int) < (f.path.length : Int)) = true := decide_eq_true (by omega)
        have h2 : ¬ k < g.path.length := fun h => hboth ⟨h1, h⟩
        have t2 : decide (k < g.path.length) = false := decide_eq_false h2
        clear hboth
        go_wp2_with (go_at_call 48; refine (numbers48 _ _ _).mono ?_; rintro e w' ⟨rfl, rfl⟩)
        go_ret
        exact ⟨ret_int HC.out.symm, HREL.out.hb⟩
      · have t1 : decide (k < f.path.length) = false := decide_eq_false h1
        clear hboth
        go_wp2_with (go_at_call 48; refine (numbers48 _ _ _).mono ?_; rintro e w' ⟨rfl, rfl⟩)
        go_ret
        exact ⟨ret_int HC.out.symm, HREL.out.hb⟩
end Go.Proofs.YtpgmjfnjdgdmcaaDoor
