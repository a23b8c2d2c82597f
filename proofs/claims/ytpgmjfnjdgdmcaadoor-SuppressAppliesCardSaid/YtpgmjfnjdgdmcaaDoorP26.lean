/-
  finding.Check and its reference.
-/
import Derived.Test.YtpgmjfnjdgdmcaaDoorP25
import Derived.Test.YtpgmjfnjdgdmcaaDoorPls
import Derived.Deep.QuietTactic
namespace Go.Proofs.YtpgmjfnjdgdmcaaDoor
open Go.RowKit Go.Sort

/-- the first error of the places -/
def pathE : List Pl → Int
  | [] => 0
  | p :: l => if placeE p ≠ 0 then placeE p else pathE l
theorem pathE_at : ∀ {l : List Pl} {k : Nat} (h : k < l.length), (∀ n ∈ l.take k, placeE n = 0) → placeE l[k] ≠ 0 → pathE l = placeE l[k]
  | n :: l, 0, _, _, h2 => by simp only [pathE]; rw [if_pos (by simpa using h2)]; rfl
  | n :: l, k + 1, h, h1, h2 => by
    simp only [pathE]
    rw [if_neg (by simpa using h1 n (by simp))]
    exact pathE_at (l := l) (k := k) (by simpa using h) (fun m hm => h1 m (by simp [hm])) (by simpa using h2)
theorem pathE_all : ∀ {l : List Pl}, (∀ n ∈ l, placeE n = 0) → pathE l = 0
  | [], _ => rfl
  | n :: l, h => by
    simp only [pathE]
    rw [if_neg (by simpa using h n (by simp))]
    exact pathE_all fun m hm => h m (by simp [hm])
def eqP (p q : Pl) : Bool := p.cls.toList == q.cls.toList && (p.meth.toList == q.meth.toList && p.instr == q.instr)
theorem eqP4 (p q : Pl) : ((p.cls.toList == q.cls.toList) = false ∧ eqP p q = false) ∨ ((p.cls.toList == q.cls.toList) = true ∧ (p.meth.toList == q.meth.toList) = false ∧ eqP p q = false) ∨ ((p.cls.toList == q.cls.toList) = true ∧ (p.meth.toList == q.meth.toList) = true ∧ (p.instr == q.instr) = false ∧ eqP p q = false) ∨ ((p.cls.toList == q.cls.toList) = true ∧ (p.meth.toList == q.meth.toList) = true ∧ (p.instr == q.instr) = true ∧ eqP p q = true) := by
  unfold eqP
  cases (p.cls.toList == q.cls.toList) <;> cases (p.meth.toList == q.meth.toList) <;> cases (p.instr == q.instr) <;> simp
def lastOk (f : Fd) : Bool := match f.path[f.path.length - 1]? with
  | none => false
  | some p => eqP p f.pl
/-- the error of a finding -/
def findE (f : Fd) : Int := if f.kind < 1 ∨ 4 < f.kind then 12 else if placeE f.pl ≠ 0 then placeE f.pl else if pathE f.path ≠ 0 then pathE f.path else if whatOk f.kind f.what = false then 5 else if 4097 < f.path.length then 3 else if lastOk f = false then 16 else 0

structure CRel (w : World) (f : Fd) (a : Option Addr) (c : Nat) (k : Nat) (wr : World) : Prop where
  hk : k ≤ f.path.length
  hok : ∀ n ∈ f.path.take k, placeE n = 0
  hb : Below w.heap.size w wr
  blk : Blk wr w.heap.size #[.int .i64 f.kind, .string f.pl.cls, .string f.pl.meth, .int .i64 f.pl.instr, .string f.what, .slice a f.path.length c] 28

set_option maxRecDepth 100000 in
set_option maxHeartbeats 4000000 in
theorem fcheck40 (f : Fd) (a : Option Addr) (c : Nat) (w : World) (hk : KW w) (hp : PlsAt w a f.path) (hl : f.path.length ≤ 1000000) : Calls Tryd.prog 40 #[FdV f a c] w (Ret w (.int .i64 (findE f))) := by
  unfold FdV
  have hb := (Below.refl w.heap.size w).alloc (Nat.le_refl _) (.cells #[.int .i64 f.kind, .string f.pl.cls, .string f.pl.meth, .int .i64 f.pl.instr, .string f.what, .slice a f.path.length c] 28)
  have HB0 := Lib.hid hb
  have HK := Lib.hid hk
  have HP := Lib.hid hp
  have B0 : Hid (Blk (w.alloc (.cells #[.int .i64 f.kind, .string f.pl.cls, .string f.pl.meth, .int .i64 f.pl.instr, .string f.what, .slice a f.path.length c] 28)) w.heap.size #[.int .i64 f.kind, .string f.pl.cls, .string f.pl.meth, .int .i64 f.pl.instr, .string f.what, .slice a f.path.length c] 28) := blk_new _ _ _
  clear hb hk hp
  by_cases hkind : f.kind < 1 ∨ 4 < f.kind
  · have HF : Hid (findE f = 12) := if_pos hkind
    rcases hkind with h | h
    · have t1 : decide (f.kind < 1) = true := by simp; omega
      go_enter Tryd.func40, Tryd.ntmps40
      go_wp2
      go_ret
      exact ⟨ret_int HF.out.symm, HB0.out⟩
    · have t1 : decide (f.kind < 1) = false := by simp; omega
      have t2 : decide (4 < f.kind) = true := by simp; omega
      go_enter Tryd.func40, Tryd.ntmps40
      go_wp2
      go_ret
      exact ⟨ret_int HF.out.symm, HB0.out⟩
  have HF : Hid (findE f = if placeE f.pl ≠ 0 then placeE f.pl else if pathE f.path ≠ 0 then pathE f.path else if whatOk f.kind f.what = false then 5 else if 4097 < f.path.length then 3 else if lastOk f = false then 16 else 0) := if_neg hkind
  have t1 : decide (f.kind < 1) = false := by simp; omega
  have t2 : decide (4 < f.kind) = false := by simp; omega
  clear hkind
  go_enter Tryd.func40, Tryd.ntmps40
  go_wp2_with fail
  refine (checkPlace66 f.pl _ (HK.out.below HB0.out)).mono ?_
  rintro e w1 ⟨rfl, hb1⟩
  have HB1 := Lib.hid (HB0.out.trans (hb1.mono HB0.out.size))
  have B1 := Lib.hid (B0.out.below hb1)
  clear hb1 HB0 B0 t1 t2
  by_cases h0 : placeE f.pl = 0
  case neg =>
    have e0 : (placeE f.pl != 0) = true := by simpa using h0
    rw [if_pos h0] at HF
    clear h0
    go_wp2
    go_ret
    exact ⟨ret_int HF.out.symm, HB1.out⟩
  have e0 : (placeE f.pl != 0) = false := by simpa using h0
  rw [if_neg (by simpa using h0)] at HF
  clear h0
  have R0 : Hid (CRel w f a c 0 w1) := ⟨Nat.zero_le _, by simp, HB1.out, B1.out⟩
  have c5 : w1.cell? ⟨w.heap.size, 5, none⟩ = some (.slice a f.path.length c) := B1.out.cell 5 (by simp)
  go_wp2
  clear c5
  go_loopw [25] (fun i wr => ∃ k : Nat, i = .int .i64 k ∧ CRel w f a c k wr) (fun i _ => f.path.length - (intOf i).toNat)
  case atStart => exact ⟨0, rfl, R0.out⟩
  case round =>
    clear R0 HB1 B1
    obtain ⟨k, rfl, hrel⟩ := hrel
    have hk := hrel.hk
    have HREL := Lib.hid hrel; clear hrel
    by_cases hlt : k < f.path.length
    · obtain ⟨b, off, rfl, m0, m1, m2⟩ := HP.out.below HREL.out.hb k hlt
      have HX : Hid (f.path.take (k + 1) = f.path.take k ++ [f.path[k]]) := List.take_succ_eq_append_getElem hlt
      have HER := Lib.hid (pathE_at hlt HREL.out.hok)
      generalize f.path[k] = x at *
      go_wp2_with fail
      have HB2 := Lib.hid (HREL.out.hb.alloc (by have := HREL.out.hb.size; omega) (.cells #[.string x.cls, .string x.meth, .int .i64 x.instr] 25))
      have B2 := Lib.hid (HREL.out.blk.below ((Below.refl _ _).alloc (Nat.le_refl _) (.cells #[.string x.cls, .string x.meth, .int .i64 x.instr] 25)))
      refine (checkPlace66 x _ (HK.out.below HB2.out)).mono ?_
      rintro e w3 ⟨rfl, hb3⟩
      have HB3 := Lib.hid (HB2.out.trans (hb3.mono HB2.out.size))
      have B3 := Lib.hid (B2.out.below hb3)
      clear hb3 HB2 B2 m0 m1 m2
      by_cases h0 : placeE x = 0
      · have t0 : (placeE x != 0) = false := by simp [h0]
        have H0 := Lib.hid h0; clear h0
        go_wp2
        go_roundw
        case rel =>
          refine ⟨k + 1, by go_num, by omega, ?_, HB3.out, B3.out⟩
          rw [HX.out]
          intro n hn
          rcases List.mem_append.1 hn with h | h
          · exact HREL.out.hok n h
          · rw [List.mem_singleton.1 h]; exact H0.out
        case measure => simp [intOf]; omega
      · have t0 : (placeE x != 0) = true := by simpa using h0
        rw [HER.out h0, if_pos h0] at HF
        clear h0
        go_wp2
        go_ret
        exact ⟨ret_int HF.out.symm, HB3.out⟩
    · obtain rfl : k = f.path.length := by omega
      have h1 := HREL.out.hok
      rw [List.take_of_length_le (Nat.le_refl _)] at h1
      rw [pathE_all h1, if_neg (by simp)] at HF
      clear h1
      have c0 : wr.cell? ⟨w.heap.size, 0, none⟩ = some (.int .i64 f.kind) := HREL.out.blk.cell 0 (by simp)
      have c1 : wr.cell? ⟨w.heap.size, 1, none⟩ = some (.string f.pl.cls) := HREL.out.blk.cell 1 (by simp)
      have c2 : wr.cell? ⟨w.heap.size, 2, none⟩ = some (.string f.pl.meth) := HREL.out.blk.cell 2 (by simp)
      have c3 : wr.cell? ⟨w.heap.size, 3, none⟩ = some (.int .i64 f.pl.instr) := HREL.out.blk.cell 3 (by simp)
      have c4 : wr.cell? ⟨w.heap.size, 4, none⟩ = some (.string f.what) := HREL.out.blk.cell 4 (by simp)
      have c5 : wr.cell? ⟨w.heap.size, 5, none⟩ = some (.slice a f.path.length c) := HREL.out.blk.cell 5 (by simp)
      go_wp2_with fail
      refine (validWhat67 _ _ _ (HK.out.below HREL.out.hb)).mono ?_
      rintro e w4 ⟨rfl, rfl⟩
      cases hw : whatOk f.kind f.what
      · rw [hw, if_pos rfl] at HF
        go_wp2
        go_ret
        exact ⟨ret_int HF.out.symm, HREL.out.hb⟩
      rw [hw, if_neg (by simp)] at HF
      by_cases hbig : 4097 < f.path.length
      · rw [if_pos hbig] at HF
        go_wp2
        go_ret
        exact ⟨ret_int HF.out.symm, HREL.out.hb⟩
      rw [if_neg hbig] at HF
      by_cases hz : f.path.length = 0
      · have hlo : lastOk f = false := by
          unfold lastOk
          rw [List.getElem?_eq_none (by omega)]
        rw [hlo, if_pos rfl] at HF
        have t0 : ((f.path.length : Int) == 0) = true := by simp [hz]
        clear hlo hz
        go_wp2
        go_quiet (fail)
        go_wp2
        go_ret
        exact ⟨ret_int HF.out.symm, below_drewN' HREL.out.hb _⟩
      · have t0 : ((f.path.length : Int) == 0) = false := beq_eq_false_iff_ne.2 (by omega)
        have hlt : f.path.length - 1 < f.path.length := by omega
        obtain ⟨b, off, rfl, m0, m1, m2⟩ := HP.out.below HREL.out.hb _ hlt
        have hlo : lastOk f = eqP f.path[f.path.length - 1] f.pl := by
          unfold lastOk
          rw [List.getElem?_eq_getElem hlt]
        generalize f.path[f.path.length - 1] = x at *
        rw [hlo] at HF
        clear hlo
        have HREL2 := Lib.hid HREL.out.hb
        clear HREL HP HK hk hz hw
        generalize f.path.length = L at *
        obtain ⟨n, hn⟩ : ∃ n, n = L - 1 := ⟨L - 1, rfl⟩
        rw [← hn] at m0 m1 m2 hlt
        have hwr : IntKind.i64.wrap ((L : Int) - 1) = (n : Int) := by rw [IntWalk.i64_in _ (by omega)]; omega
        clear hn
        have t1 : decide ((4097 : Int) < (L : Int)) = false := decide_eq_false (by omega)
        rcases eqP4 x f.pl with ⟨q1, hq⟩ | ⟨q1, q2, hq⟩ | ⟨q1, q2, q3, hq⟩ | ⟨q1, q2, q3, hq⟩
        all_goals
          rw [hq] at HF
          clear hq
          go_wp2
          go_quiet (fail)
          go_wp2
          go_ret
          exact ⟨ret_int HF.out.symm, below_drewN' HREL2.out _⟩
set_option maxRecDepth 100000 in
set_option maxHeartbeats 4000000 in
theorem fcheck45 (f : Fd) (a : Option Addr) (c : Nat) (w : World) (hwz : f.what.size ≤ 9223372036854775807) (hp : PlsAt w a f.path) (hl : f.path.length ≤ 1000000) : Calls Tryd.prog 45 #[FdV f a c] w (Ret w (.int .i64 (findE f))) := by
  unfold FdV
  have hb := (Below.refl w.heap.size w).alloc (Nat.le_refl _) (.cells #[.int .i64 f.kind, .string f.pl.cls, .string f.pl.meth, .int .i64 f.pl.instr, .string f.what, .slice a f.path.length c] 28)
  have HB0 := Lib.hid hb
  have HP := Lib.hid hp
  have B0 : Hid (Blk (w.alloc (.cells #[.int .i64 f.kind, .string f.pl.cls, .string f.pl.meth, .int .i64 f.pl.instr, .string f.what, .slice a f.path.length c] 28)) w.heap.size #[.int .i64 f.kind, .string f.pl.cls, .string f.pl.meth, .int .i64 f.pl.instr, .string f.what, .slice a f.path.length c] 28) := blk_new _ _ _
  clear hb hp
  by_cases hkind : f.kind < 1 ∨ 4 < f.kind
  · have HF : Hid (findE f = 12) := if_pos hkind
    rcases hkind with h | h
    · have t1 : decide (f.kind < 1) = true := by simp; omega
      go_enter Tryd.func45, Tryd.ntmps45
      go_wp2
      go_ret
      exact ⟨ret_int HF.out.symm, HB0.out⟩
    · have t1 : decide (f.kind < 1) = false := by simp; omega
      have t2 : decide (4 < f.kind) = true := by simp; omega
      go_enter Tryd.func45, Tryd.ntmps45
      go_wp2
      go_ret
      exact ⟨ret_int HF.out.symm, HB0.out⟩
  have HF : Hid (findE f = if placeE f.pl ≠ 0 then placeE f.pl else if pathE f.path ≠ 0 then pathE f.path else if whatOk f.kind f.what = false then 5 else if 4097 < f.path.length then 3 else if lastOk f = false then 16 else 0) := if_neg hkind
  have t1 : decide (f.kind < 1) = false := by simp; omega
  have t2 : decide (4 < f.kind) = false := by simp; omega
  clear hkind
  go_enter Tryd.func45, Tryd.ntmps45
  go_wp2_with fail
  refine (checkPlace72 f.pl _).mono ?_
  rintro e w1 ⟨rfl, hb1⟩
  have HB1 := Lib.hid (HB0.out.trans (hb1.mono HB0.out.size))
  have B1 := Lib.hid (B0.out.below hb1)
  clear hb1 HB0 B0 t1 t2
  by_cases h0 : placeE f.pl = 0
  case neg =>
    have e0 : (placeE f.pl != 0) = true := by simpa using h0
    rw [if_pos h0] at HF
    clear h0
    go_wp2
    go_ret
    exact ⟨ret_int HF.out.symm, HB1.out⟩
  have e0 : (placeE f.pl != 0) = false := by simpa using h0
  rw [if_neg (by simpa using h0)] at HF
  clear h0
  have R0 : Hid (CRel w f a c 0 w1) := ⟨Nat.zero_le _, by simp, HB1.out, B1.out⟩
  go_wp2
  go_loopw [4] (fun i wr => ∃ k : Nat, i = .int .i64 k ∧ CRel w f a c k wr) (fun i _ => f.path.length - (intOf i).toNat)
  case atStart => exact ⟨0, rfl, R0.out⟩
  case round =>
    clear R0 HB1 B1
    obtain ⟨k, rfl, hrel⟩ := hrel
    have hk := hrel.hk
    have c5 : wr.cell? ⟨w.heap.size, 5, none⟩ = some (.slice a f.path.length c) := hrel.blk.cell 5 (by simp)
    have HREL := Lib.hid hrel; clear hrel
    by_cases hlt : k < f.path.length
    · obtain ⟨b, off, rfl, m0, m1, m2⟩ := HP.out.below HREL.out.hb k hlt
      have HX : Hid (f.path.take (k + 1) = f.path.take k ++ [f.path[k]]) := List.take_succ_eq_append_getElem hlt
      have HER := Lib.hid (pathE_at hlt HREL.out.hok)
      generalize f.path[k] = x at *
      go_wp2_with fail
      have HB2 := Lib.hid HREL.out.hb
      have B2 := Lib.hid HREL.out.blk
      refine (checkPlace72 x _).mono ?_
      rintro e w3 ⟨rfl, hb3⟩
      have HB3 := Lib.hid (HB2.out.trans (hb3.mono HB2.out.size))
      have B3 := Lib.hid (B2.out.below hb3)
      clear hb3 HB2 B2 m0 m1 m2 c5
      by_cases h0 : placeE x = 0
      · have t0 : (placeE x != 0) = false := by simp [h0]
        have H0 := Lib.hid h0; clear h0
        go_wp2
        go_roundw
        case rel =>
          refine ⟨k + 1, by go_num, by omega, ?_, HB3.out, B3.out⟩
          rw [HX.out]
          intro n hn
          rcases List.mem_append.1 hn with h | h
          · exact HREL.out.hok n h
          · rw [List.mem_singleton.1 h]; exact H0.out
        case measure => simp [intOf]; omega
      · have t0 : (placeE x != 0) = true := by simpa using h0
        rw [HER.out h0, if_pos h0] at HF
        clear h0
        go_wp2
        go_ret
        exact ⟨ret_int HF.out.symm, HB3.out⟩
    · obtain rfl : k = f.path.length := by omega
      have h1 := HREL.out.hok
      rw [List.take_of_length_le (Nat.le_refl _)] at h1
      rw [pathE_all h1, if_neg (by simp)] at HF
      clear h1
      have c0 : wr.cell? ⟨w.heap.size, 0, none⟩ = some (.int .i64 f.kind) := HREL.out.blk.cell 0 (by simp)
      have c1 : wr.cell? ⟨w.heap.size, 1, none⟩ = some (.string f.pl.cls) := HREL.out.blk.cell 1 (by simp)
      have c2 : wr.cell? ⟨w.heap.size, 2, none⟩ = some (.string f.pl.meth) := HREL.out.blk.cell 2 (by simp)
      have c3 : wr.cell? ⟨w.heap.size, 3, none⟩ = some (.int .i64 f.pl.instr) := HREL.out.blk.cell 3 (by simp)
      have c4 : wr.cell? ⟨w.heap.size, 4, none⟩ = some (.string f.what) := HREL.out.blk.cell 4 (by simp)
      go_wp2_with fail
      refine (named73 _ _ _ hwz).mono ?_
      rintro e w4 ⟨rfl, hb4⟩
      have HB4 := Lib.hid (HREL.out.hb.trans (hb4.mono HREL.out.hb.size))
      have d1 := cell_below hb4 c1
      have d2 := cell_below hb4 c2
      have d3 := cell_below hb4 c3
      have d5 := cell_below hb4 c5
      clear hb4 c0 c1 c2 c3 c4 c5
      cases hw : whatOk f.kind f.what
      · rw [hw, if_pos rfl] at HF
        go_wp2
        go_ret
        exact ⟨ret_int HF.out.symm, HB4.out⟩
      rw [hw, if_neg (by simp)] at HF
      by_cases hbig : 4097 < f.path.length
      · rw [if_pos hbig] at HF
        go_wp2
        go_ret
        exact ⟨ret_int HF.out.symm, HB4.out⟩
      rw [if_neg hbig] at HF
      by_cases hz : f.path.length = 0
      · have hlo : lastOk f = false := by
          unfold lastOk
          rw [List.getElem?_eq_none (by omega)]
        rw [hlo, if_pos rfl] at HF
        have t0 : ((f.path.length : Int) == 0) = true := by simp [hz]
        clear hlo hz
        go_wp2
        go_quiet (fail)
        go_wp2
        go_ret
        exact ⟨ret_int HF.out.symm, below_drewN' HB4.out _⟩
      · have t0 : ((f.path.length : Int) == 0) = false := beq_eq_false_iff_ne.2 (by omega)
        have hlt : f.path.length - 1 < f.path.length := by omega
        obtain ⟨b, off, rfl, m0, m1, m2⟩ := HP.out.below HB4.out _ hlt
        have hlo : lastOk f = eqP f.path[f.path.length - 1] f.pl := by
          unfold lastOk
          rw [List.getElem?_eq_getElem hlt]
        generalize f.path[f.path.length - 1] = x at *
        rw [hlo] at HF
        clear hlo
        have HREL2 := HB4
        clear HREL HP HB4 hk hz hw
        generalize f.path.length = L at *
        obtain ⟨n, hn⟩ : ∃ n, n = L - 1 := ⟨L - 1, rfl⟩
        rw [← hn] at m0 m1 m2 hlt
        have hwr : IntKind.i64.wrap ((L : Int) - 1) = (n : Int) := by rw [IntWalk.i64_in _ (by omega)]; omega
        clear hn
        have t1 : decide ((4097 : Int) < (L : Int)) = false := decide_eq_false (by omega)
        rcases eqP4 x f.pl with ⟨q1, hq⟩ | ⟨q1, q2, hq⟩ | ⟨q1, q2, q3, hq⟩ | ⟨q1, q2, q3, hq⟩
        all_goals
          rw [hq] at HF
          clear hq
          go_wp2
          go_quiet (fail)
          go_wp2
          go_ret
          exact ⟨ret_int HF.out.symm, below_drewN' HREL2.out _⟩
end Go.Proofs.YtpgmjfnjdgdmcaaDoor
