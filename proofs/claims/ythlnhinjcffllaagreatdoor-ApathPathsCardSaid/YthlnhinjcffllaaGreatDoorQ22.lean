/-
  The program's Parse.
-/
import Derived.Test.YthlnhinjcffllaaGreatDoorQ21
namespace Go.Proofs.YthlnhinjcffllaaGreatDoor
open Go.RowKit

theorem splitOn_len (c : UInt8) : ∀ l, (splitOn c l).length = l.count c + 1
  | [] => rfl
  | b :: l => by
    have ih := splitOn_len c l
    simp only [splitOn]
    by_cases hb : b = c
    · rw [if_pos hb, List.length_cons, ih, hb, List.count_cons_self]
    · rw [if_neg hb, List.count_cons_of_ne hb]
      cases hs : splitOn c l with
      | nil => exact absurd hs (splitOn_ne c l)
      | cons x r => rw [hs] at ih; simpa using ih
theorem countB_on (l : List UInt8) : Lib.countB (mkB l) ⟨#[46]⟩ + 1 = (splitOn 46 l).length := by
  rw [splitOn_len, ← Lib.count_one]
  have h1 : (⟨#[46]⟩ : ByteArray).data.toList = [46] := rfl
  unfold Lib.countB
  rw [mkB_data]
theorem splitB_on (l : List UInt8) : Lib.splitB ⟨#[46]⟩ 0 (Lib.countB (mkB l) ⟨#[46]⟩) (mkB l) = (splitOn 46 l).map mkB := by
  rw [← bytes_map (Lib.splitB ⟨#[46]⟩ 0 (Lib.countB (mkB l) ⟨#[46]⟩) (mkB l)), Lib.splitB_data, mkB_data]
  congr 1
  have : Lib.countB (mkB l) ⟨#[46]⟩ = Lib.count l [46] := by unfold Lib.countB; rw [mkB_data]
  rw [this]
  exact split_eq 46 l
/-- strings.Split at a point -/
theorem split32 (l : List UInt8) (m : Int) (w : World) (hl : l.length ≤ 65536) (hm : w.cell? ⟨1, 0, none⟩ = some (.int .i64 m)) : Calls Tryz.prog 32 #[.string (mkB l), .string ⟨#[46]⟩] w fun e w' => e = .returned (.slice (some ⟨w.heap.size, 0, none⟩) (splitOn 46 l).length (splitOn 46 l).length) ∧ Below w.heap.size w w' ∧ StrsAt w' (some ⟨w.heap.size, 0, none⟩) ((splitOn 46 l).map mkB) := by
  have := Tryz.strings_Split (mkB l) ⟨#[46]⟩ m w (by rw [mkB_size]; omega) hm (by decide)
  rw [splitB_on, countB_on] at this
  refine this.mono ?_
  rintro e w' ⟨rfl, rfl⟩
  refine ⟨rfl, one_below .., fun k hk => ⟨w.heap.size, 0, rfl, ?_⟩⟩
  rw [cell_of_row _ _ _ _ 9 (0, 0) (heap_alloc_new w _)]
  simp at hk
  simp [hk]
/-- strings.CutSuffix of a star -/
theorem unS_suf (l : List UInt8) : Lib.hasSuffix l [42] = (unS l).1 ∧ Lib.trimSuffix l [42] = (unS l).2 := by
  have h : Lib.hasSuffix l [42] = decide (l.getLast? = some 42) := by
    unfold Lib.hasSuffix
    rw [Bool.eq_iff_iff, decide_eq_true_iff, List.isSuffixOf_iff_suffix]
    constructor
    · rintro ⟨t, rfl⟩; simp
    · intro h
      have hne : l ≠ [] := fun e => by subst e; cases h
      rw [List.getLast?_eq_some_getLast hne] at h
      exact ⟨l.dropLast, by rw [← Option.some.inj h]; exact List.dropLast_concat_getLast hne⟩
  unfold unS Lib.trimSuffix
  rw [h]
  by_cases hl : l.getLast? = some 42
  · rw [if_pos hl, decide_eq_true hl]
    exact ⟨rfl, by rw [if_pos rfl, List.dropLast_eq_take]; rfl⟩
  · rw [if_neg hl, decide_eq_false hl]
    exact ⟨rfl, by simp⟩
theorem cutSuf31 (l : List UInt8) (w : World) (hl : l.length ≤ 65536) : Calls Tryz.prog 31 #[.string (mkB l), .string ⟨#[42]⟩] w fun e w' => e = .returned (.tuple #[.string (mkB (unS l).2), .bool (unS l).1]) ∧ w' = w := by
  have := Tryz.strings_CutSuffix (mkB l) ⟨#[42]⟩ w (by rw [mkB_size]; omega)
  rw [mkB_data] at this
  obtain ⟨h1, h2⟩ := unS_suf l
  rw [← h1, ← h2]
  exact this
theorem star34 (x : List UInt8) (w : World) : Calls Tryz.prog 34 #[.string (mkB x), .string ⟨#[42]⟩] w fun e w' => e = .returned (.bool (x.contains 42)) ∧ w = w' := by
  have := Tryz.strings_Contains_one (mkB x) 42 w
  rw [mkB_data] at this
  have key : ∀ x : List UInt8, (0 ≤ Lib.indexByte x 42) ↔ x.contains 42 = true := by
    intro x
    induction x with
    | nil => exact ⟨fun h => absurd h (by decide), fun h => by cases h⟩
    | cons b x ih =>
      show (0 ≤ (if (b == 42) = true then 0 else if (Lib.indexByte x 42 == -1) = true then -1 else Lib.indexByte x 42 + 1)) ↔ _
      rw [List.contains_cons, Bool.or_eq_true, ← ih]
      by_cases hb : b = 42
      · subst hb; simp
      · have h1 : (b == 42) = false := by simpa using hb
        have h2 : ((42 : UInt8) == b) = false := by simpa using fun e : (42 : UInt8) = b => hb e.symm
        rw [h1, h2]
        have := Lib.indexByte_ge x 42
        by_cases hm : Lib.indexByte x 42 = -1
        · rw [hm]; simp
        · have h3 : (Lib.indexByte x 42 == -1) = false := by simpa using hm
          rw [h3]
          simp only [Bool.false_eq_true, if_false, false_or]
          omega
  have h : decide (0 ≤ Lib.indexByte x 42) = x.contains 42 := by rw [Bool.eq_iff_iff, decide_eq_true_iff]; exact key x
  rw [h] at this
  exact this.mono fun e w' h => ⟨h.1, h.2.symm⟩
/-- what Parse returns -/
def ParPost (l : List UInt8) (w : World) (e : Ending) (w' : World) : Prop := Below w.heap.size w w' ∧
  (((parseP l).1 ≠ 0 ∧ e = .returned (.tuple #[pV zeroP none 0, .int .i64 (parseP l).1])) ∨
   ((parseP l).1 = 0 ∧ ∃ b d, e = .returned (.tuple #[pV (parseP l).2 b d, .int .i64 0]) ∧ StrsAt w' b (parseP l).2.fs ∧ (parseP l).2.fs.length ≤ d))
theorem par_bad {l : List UInt8} {e : Int} (h : parseP l = (e, zeroP)) (he : e ≠ 0) {w w' : World} {x : Ending} (hb : Below w.heap.size w w') (hx : x = .returned (.tuple #[pV zeroP none 0, .int .i64 e])) : ParPost l w x w' :=
  ⟨hb, .inl ⟨by rw [h]; exact he, by rw [h]; exact hx⟩⟩

theorem StrsAt.grown {w w' : World} {g o : Nat} {l : List ByteArray} {row : Option Nat} (h : StrsAt w (some ⟨g, o, none⟩) l) (hg : w.grownBy w' row) (hne : some g ≠ row) : StrsAt w' (some ⟨g, o, none⟩) l := by
  intro k hk
  obtain ⟨b, off, he, hc⟩ := h k hk
  cases he
  refine ⟨g, o, rfl, ?_⟩
  rw [World.cell?_of_block (w := w) (hg.block g (World.block_lt_of_cell? w _ hc) hne)]; exact hc
/-- at the head of a round: the fields so far -/
structure PRel (w wr : World) (K N : Int) (st : Bool) (gw base : Nat) (words ws : List (List UInt8)) (k : Nat) (v : Value) : Prop where
  hb : Below w.heap.size w wr
  z : Blk wr w.heap.size #[.int .i64 0, .int .i64 0, .slice none 0 0, .bool false] 24
  p : Blk wr (w.heap.size + 1) #[.int .i64 K, .int .i64 N, v, .bool st] 24
  own : wr.ownsRow base 9 1 v ((ws.take k).map mkB).length (((ws.take k).map mkB).map Value.string)
  sw : StrsAt wr (some ⟨gw, 0, none⟩) (words.map mkB)
  good : ∀ x ∈ ws.take k, badW x = false
  bz : base ≤ wr.heap.size

set_option maxRecDepth 100000 in
set_option maxHeartbeats 8000000 in
theorem parse21 (l : List UInt8) (m : Int) (w : World) (hk : KW w) (hm : w.cell? ⟨1, 0, none⟩ = some (.int .i64 m)) : Calls Tryz.prog 21 #[.string (mkB l)] w (ParPost l w) := by
  have HK0 := Lib.hid hk; clear hk
  have hz := mkB_size l
  have C0 : Hid (Blk (w.alloc (.cells #[.int .i64 0, .int .i64 0, .slice none 0 0, .bool false] 24)) w.heap.size #[.int .i64 0, .int .i64 0, .slice none 0 0, .bool false] 24) := blk_new ..
  by_cases hbig : 65536 < l.length
  · have d1 : decide (65536 < ((mkB l).size : Int)) = true := by simp; omega
    have HF : Hid (parseP l = (3, zeroP)) := if_pos hbig
    clear hbig hz
    generalize mkB l = s at *
    go_enter Tryz.func21, Tryz.ntmps21
    go_wp2_with (refine store24 rfl _ _ rfl w.heap.size _ _ _ _ _ _ rfl rfl _ C0.out rfl ?_)
    refine bodyPost_ret (v := .tuple #[pV zeroP none 0, .int .i64 3]) (results_c2' Tryz.results21 _ _ w.heap.size _ _ _ _ _ rfl rfl (C0.out.setRow _)) rfl ?_
    exact par_bad HF.out (by omega) (below_setRow (one_below ..) (Nat.le_refl _) _) rfl
  have d1 : decide (65536 < ((mkB l).size : Int)) = false := by simp; omega
  have HPP : Hid (parseP l = pathW (unS l).1 (splitOn 46 (unS l).2)) := if_neg hbig
  have hl : l.length ≤ 65536 := by omega
  have hul : (unS l).2.length ≤ 65536 := by
    unfold unS
    split
    · simp; omega
    · exact hl
  have HCS := Lib.hid (cutSuf31 l · hl)
  have C1 : Hid (Blk ((w.alloc (.cells #[.int .i64 0, .int .i64 0, .slice none 0 0, .bool false] 24)).alloc (.cells #[.int .i64 0, .int .i64 0, .slice none 0 0, .bool false] 24)) (w.heap.size + 1) #[.int .i64 0, .int .i64 0, .slice none 0 0, .bool false] 24) := blk_new2 ..
  have HB1 := Lib.hid (two_below w (.cells #[.int .i64 0, .int .i64 0, .slice none 0 0, .bool false] 24) (.cells #[.int .i64 0, .int .i64 0, .slice none 0 0, .bool false] 24))
  have C0' := Lib.hid (C0.out.below (one_below _ (.cells #[.int .i64 0, .int .i64 0, .slice none 0 0, .bool false] 24)))
  clear hbig hz
  generalize mkB l = s at *
  go_enter Tryz.func21, Tryz.ntmps21
  go_upto_region 4 with (fail)
  clear C0
  generalize (w.alloc (.cells #[.int .i64 0, .int .i64 0, .slice none 0 0, .bool false] 24)).alloc (.cells #[.int .i64 0, .int .i64 0, .slice none 0 0, .bool false] 24) = W1 at *
  go_wp2_with fail
  refine (HCS.out _).mono ?_
  rintro e w' ⟨rfl, rfl⟩
  generalize hun : unS l = un at *
  obtain ⟨st, b⟩ := un
  simp only at HPP hul ⊢
  clear hun HCS
  obtain ⟨x0, x1, x2, x3⟩ := C1.out.four
  have f3 := C1.out.free 3
  go_upto_region 5 with (fail)
  have P2 : Hid (Blk (w'.setCell ⟨w.heap.size + 1, 3, none⟩ (.bool st)) (w.heap.size + 1) #[.int .i64 0, .int .i64 0, .slice none 0 0, .bool st] 24) := by
    have := C1.out.set 3 (.bool st)
    show Blk _ _ _ _
    simpa using this
  have Z2 : Hid (Blk (w'.setCell ⟨w.heap.size + 1, 3, none⟩ (.bool st)) w.heap.size #[.int .i64 0, .int .i64 0, .slice none 0 0, .bool false] 24) := C0'.out.other (by omega) 3 _
  have HB2 := Lib.hid (HB1.out.setCell (p := ⟨w.heap.size + 1, 3, none⟩) (show w.heap.size ≤ w.heap.size + 1 by omega) (.bool st))
  clear x0 x1 x2 x3 f3 C1 C0' HB1
  generalize w'.setCell ⟨w.heap.size + 1, 3, none⟩ (.bool st) = W2 at *
  go_wp2_with fail
  refine (split32 b m W2 hul (cell_below HB2.out hm)).mono ?_
  rintro e w3 ⟨rfl, hb, hsw⟩
  have HB3 := Lib.hid (HB2.out.trans (hb.mono HB2.out.size))
  have P3 := Lib.hid (P2.out.below hb)
  have Z3 := Lib.hid (Z2.out.below hb)
  have hg2 : w.heap.size + 1 < W2.heap.size := P2.out.lt
  obtain ⟨gw, hgw⟩ : ∃ gw, gw = W2.heap.size := ⟨_, rfl⟩
  rw [← hgw] at hsw hg2 ⊢
  clear hgw hb HB2 P2 Z2
  cases hsp : splitOn 46 b with
  | nil => exact absurd hsp (splitOn_ne 46 b)
  | cons w0 ws =>
    rw [hsp] at hsw HPP
    have hjoin := split_join 46 b w0 ws hsp
    have hw0 : w0.length ≤ 65536 := by
      have := congrArg List.length hjoin
      rw [List.length_append] at this; omega
    have hwl : ws.length ≤ 65536 := by
      have := splitOn_len 46 b
      rw [hsp, List.length_cons] at this
      have := List.count_le_length (a := (46 : UInt8)) (l := b)
      omega
    clear hjoin hsp
    have HSW := Lib.hid hsw
    obtain ⟨_, _, he0, hc0⟩ := hsw 0 (by simp)
    cases he0
    clear hsw
    simp only [List.map_cons, List.getElem_cons_zero, Nat.add_zero] at hc0
    have hgw3 : gw < w3.heap.size := World.block_lt_of_cell? w3 _ hc0
    simp only [List.length_cons]
    go_wp2_with fail
    refine (parseRoot33 w0 w3 hw0).mono ?_
    rintro e w4 ⟨rfl, hb⟩
    have HB4 := Lib.hid (HB3.out.trans (hb.mono HB3.out.size))
    have P4 := Lib.hid (P3.out.below hb)
    have Z4 := Lib.hid (Z3.out.below hb)
    have SW4 := Lib.hid (HSW.out.below hb)
    have hz34 := hb.size
    clear hb HB3 P3 Z3 HSW hc0
    obtain ⟨K, N, okb, hrv, hcase⟩ : ∃ (K N : Int) (okb : Bool), rootV w0 = .tuple #[.int .i64 K, .int .i64 N, .bool okb] ∧ ((okb = false ∧ rootOf w0 = none) ∨ (okb = true ∧ rootOf w0 = some (K, N))) := by
      unfold rootV
      cases hr : rootOf w0 with
      | none => exact ⟨0, 0, false, rfl, .inl ⟨rfl, rfl⟩⟩
      | some kn => exact ⟨kn.1, kn.2, true, rfl, .inr ⟨rfl, rfl⟩⟩
    rw [hrv]
    have HCASE := Lib.hid hcase
    clear hrv hcase
    obtain ⟨y0, y1, y2, y3⟩ := P4.out.four
    have f0 := P4.out.free 0
    have P5 : Hid (Blk (w4.setCell ⟨w.heap.size + 1, 0, none⟩ (.int .i64 K)) (w.heap.size + 1) #[.int .i64 K, .int .i64 0, .slice none 0 0, .bool st] 24) := by
      have := P4.out.set 0 (.int .i64 K)
      show Blk _ _ _ _
      simpa using this
    have f1 := P5.out.free 1
    obtain ⟨z0, z1, z2, z3⟩ := P5.out.four
    have P6 : Hid (Blk ((w4.setCell ⟨w.heap.size + 1, 0, none⟩ (.int .i64 K)).setCell ⟨w.heap.size + 1, 1, none⟩ (.int .i64 N)) (w.heap.size + 1) #[.int .i64 K, .int .i64 N, .slice none 0 0, .bool st] 24) := by
      have := P5.out.set 1 (.int .i64 N)
      show Blk _ _ _ _
      simpa using this
    have Z6 : Hid (Blk ((w4.setCell ⟨w.heap.size + 1, 0, none⟩ (.int .i64 K)).setCell ⟨w.heap.size + 1, 1, none⟩ (.int .i64 N)) w.heap.size #[.int .i64 0, .int .i64 0, .slice none 0 0, .bool false] 24) := (Z4.out.other (by omega) 0 _).other (by omega) 1 _
    have SW6 : Hid (StrsAt ((w4.setCell ⟨w.heap.size + 1, 0, none⟩ (.int .i64 K)).setCell ⟨w.heap.size + 1, 1, none⟩ (.int .i64 N)) (some ⟨gw, 0, none⟩) ((w0 :: ws).map mkB)) := (SW4.out.setCell (n := gw) (fun g o e => by cases e; exact Nat.le_refl _) (by omega) 0 _).setCell (n := gw) (fun g o e => by cases e; exact Nat.le_refl _) (by omega) 1 _
    have HB6 := Lib.hid ((HB4.out.setCell (p := ⟨w.heap.size + 1, 0, none⟩) (show w.heap.size ≤ w.heap.size + 1 by omega) (.int .i64 K)).setCell (p := ⟨w.heap.size + 1, 1, none⟩) (show w.heap.size ≤ w.heap.size + 1 by omega) (.int .i64 N))
    have hz6 : gw < ((w4.setCell ⟨w.heap.size + 1, 0, none⟩ (.int .i64 K)).setCell ⟨w.heap.size + 1, 1, none⟩ (.int .i64 N)).heap.size := by simp [World.setCell]; omega
    go_upto_region 8 with (fail)
    clear y0 y1 y2 y3 z0 z1 z2 z3 f0 f1 P4 P5 Z4 SW4 HB4 hz34 hgw3
    generalize (w4.setCell ⟨w.heap.size + 1, 0, none⟩ (.int .i64 K)).setCell ⟨w.heap.size + 1, 1, none⟩ (.int .i64 N) = w6 at *
    cases okb
    case false =>
      have HF : Hid (parseP l = (2, zeroP)) := by
        show _ = _
        rcases HCASE.out with ⟨_, h⟩ | ⟨h, _⟩
        · rw [HPP]; simp [pathW, h]
        · cases h
      go_wp2_with (refine store24 rfl _ _ rfl w.heap.size _ _ _ _ _ _ rfl rfl _ Z6.out rfl ?_)
      refine bodyPost_ret (v := .tuple #[pV zeroP none 0, .int .i64 2]) (results_c2' Tryz.results21 _ _ w.heap.size _ _ _ _ _ rfl rfl (Z6.out.setRow _)) rfl ?_
      exact par_bad HF.out (by omega) (below_setRow HB6.out (Nat.le_refl _) _) rfl
    case true =>
      have HRT : Hid (rootOf w0 = some (K, N)) := by
        rcases HCASE.out with ⟨h, _⟩ | ⟨_, h⟩
        · cases h
        · exact h
      have HPW : Hid (parseP l = if ws.any badW = true then (2, zeroP) else if chkE ⟨K, N, ws.map mkB, st⟩ = 0 then (0, ⟨K, N, ws.map mkB, st⟩) else (chkE ⟨K, N, ws.map mkB, st⟩, zeroP)) := by
        show _ = _
        rw [HPP]; simp only [pathW, HRT.out]
      obtain ⟨a', hsl, hdrop⟩ := slice22l (some ⟨gw, 0, none⟩) (ws.length + 1) (ws.length + 1) 1 (by omega) (Nat.le_refl _)
      have HDR : Hid (∀ W, StrsAt W (some ⟨gw, 0, none⟩) ((w0 :: ws).map mkB) → StrsAt W a' (ws.map mkB)) := fun W h => by
        have := hdrop W ((w0 :: ws).map mkB) (by simp) h
        simpa using this
      have hsl1 : ∀ W : World, (Instr.slice 22 (.slice (some ⟨gw, 0, none⟩) (ws.length + 1) (ws.length + 1)) (some (.int .i64 1)) none none).run Tryz.prog W = .ok (.slice a' ws.length ws.length) W := fun W => by
        have := hsl W
        simpa using this
      clear hsl hdrop HCASE
      have REL : Hid (PRel w w6 K N st gw w6.heap.size (w0 :: ws) ws 0 (.slice none 0 0)) := ⟨HB6.out, Z6.out, P6.out, World.ownsRow_nil _ _ _ _, SW6.out, fun x hx => (by simp at hx), Nat.le_refl _⟩
      obtain ⟨base, hbase⟩ : ∃ base, base = w6.heap.size := ⟨_, rfl⟩
      rw [← hbase] at REL hz6
      clear hbase HB6 Z6 P6 SW6
      go_wp2
      clear hsl1
      go_loopw [38] (fun i wr => ∃ k v, k ≤ ws.length ∧ i = .int .i64 (k : Nat) ∧ PRel w wr K N st gw base (w0 :: ws) ws k v) (fun i _ => ws.length - (intOf i).toNat)
      case atStart => exact ⟨0, _, Nat.zero_le _, rfl, REL.out⟩
      case round =>
        clear REL
        obtain ⟨k, v, hk, rfl, hrel⟩ := hrel
        have REL := Lib.hid hrel; clear hrel
        by_cases hlt : k < ws.length
        · obtain ⟨bb, off, rfl, hcell⟩ := HDR.out wr REL.out.sw k (by simpa using hlt)
          rw [List.getElem_map] at hcell
          have HT := Lib.hid (List.take_succ_eq_append_getElem hlt)
          have HBAD : Hid (badW ws[k] = true → ws.any badW = true) := fun h => List.any_eq_true.2 ⟨_, List.getElem_mem hlt, h⟩
          generalize ws[k] = x at *
          have HBX : Hid (badW x = (x.isEmpty || x.contains 42)) := rfl
          cases hx1 : x.isEmpty with
          | true =>
            have e1 : (mkB x).toList = [] := by rw [mkB_toList]; simpa using hx1
            have e2 : (mkB x).toList.isEmpty = true := by rw [e1]; rfl
            have HF : Hid (parseP l = (2, zeroP)) := by show _ = _; rw [HPW.out, if_pos (HBAD.out (by rw [HBX.out, hx1]; rfl))]
            clear hx1
            go_wp2_with (refine store24 rfl _ _ rfl w.heap.size _ _ _ _ _ _ rfl rfl _ REL.out.z rfl ?_)
            refine bodyPost_ret (v := .tuple #[pV zeroP none 0, .int .i64 2]) (results_c2' Tryz.results21 _ _ w.heap.size _ _ _ _ _ rfl rfl (REL.out.z.setRow _)) rfl ?_
            exact par_bad HF.out (by omega) (below_setRow REL.out.hb (Nat.le_refl _) _) rfl
          | false =>
            have e1 : ¬ (mkB x).toList = [] := by rw [mkB_toList]; simpa using hx1
            have e2 : (mkB x).toList.isEmpty = false := by simpa using e1
            cases hx2 : x.contains 42 with
            | true =>
              have HF : Hid (parseP l = (2, zeroP)) := by show _ = _; rw [HPW.out, if_pos (HBAD.out (by rw [HBX.out, hx1, hx2]; rfl))]
              clear hx1
              go_wp2_with (first | (refine (star34 x _).mono ?_; rw [hx2]; rintro e w' ⟨rfl, rfl⟩) | (refine store24 rfl _ _ rfl w.heap.size _ _ _ _ _ _ rfl rfl _ REL.out.z rfl ?_))
              refine bodyPost_ret (v := .tuple #[pV zeroP none 0, .int .i64 2]) (results_c2' Tryz.results21 _ _ w.heap.size _ _ _ _ _ rfl rfl (REL.out.z.setRow _)) rfl ?_
              exact par_bad HF.out (by omega) (below_setRow REL.out.hb (Nat.le_refl _) _) rfl
            | false =>
              have HBF : Hid (badW x = false) := by show _ = _; rw [HBX.out, hx1, hx2]; rfl
              clear hx1
              obtain ⟨y0, y1, y2, y3⟩ := REL.out.p.four
              have hbz := REL.out.bz
              have OA := Lib.hid (REL.out.own.alloc (.cells #[.string (mkB x)] 9))
              have BA : Hid (Blk (wr.alloc (.cells #[.string (mkB x)] 9)) wr.heap.size #[.string (mkB x)] 9) := blk_new ..
              have HOB := one_below wr (.cells #[.string (mkB x)] 9)
              have PA := Lib.hid (REL.out.p.below HOB)
              have ZA := Lib.hid (REL.out.z.below HOB)
              have SA := Lib.hid (REL.out.sw.below HOB)
              have HA := Lib.hid (REL.out.hb.alloc REL.out.hb.size (.cells #[.string (mkB x)] 9))
              have HGD := Lib.hid REL.out.good
              clear HOB
              go_wp2_with (first | (refine (star34 x _).mono ?_; rw [hx2]; rintro e w' ⟨rfl, rfl⟩) | (at_builtin; refine app_str rfl _ _ rfl base _ ((ws.take k).map mkB) rfl OA.out wr.heap.size _ rfl BA.out (by rw [List.length_map, List.length_take]; omega) (by simp; omega) ?_))
              intro v' w5 hown hgrow
              have hlow : ∀ g, v.ownBlock = some g → base ≤ g := fun g hg => (OA.out.lt g hg).1
              have P5 := Lib.hid (PA.out.grown hgrow (owns_ne OA.out PA.out (by decide)))
              have Z5 := Lib.hid (ZA.out.grown hgrow (owns_ne OA.out ZA.out (by decide)))
              have S5 := Lib.hid (SA.out.grown hgrow (fun e => by have := hlow gw e.symm; omega))
              have HB5 := Lib.hid (HA.out.grown hgrow HA.out.size (fun g hg => by have := hlow g hg; omega))
              have O5 : Hid (w5.ownsRow base 9 1 v' ((ws.take (k + 1)).map mkB).length (((ws.take (k + 1)).map mkB).map Value.string)) := by
                have h := hown
                rw [HT.out]
                show World.ownsRow _ _ _ _ _ _ _
                simpa [Nat.min_eq_left (Nat.le_of_lt hlt)] using h
              obtain ⟨_, b2, d2, hv, hle, _⟩ := owns_strs O5.out
              have hl1 : ((ws.take (k + 1)).map mkB).length = k + 1 := by rw [List.length_map, List.length_take]; omega
              rw [hl1] at hv hle
              subst hv
              have hz5 : base ≤ w5.heap.size := by have := hgrow.size; simp at this; omega
              clear hown hgrow OA BA PA ZA SA HA REL y0 y1 y2 y3 hlow
              obtain ⟨y0, y1, y2, y3⟩ := P5.out.four
              have f2 := P5.out.free 2
              have RELN : Hid (PRel w (w5.setCell ⟨w.heap.size + 1, 2, none⟩ (.slice b2 (k + 1) d2)) K N st gw base (w0 :: ws) ws (k + 1) (.slice b2 (k + 1) d2)) := by
                refine ⟨HB5.out.setCell (p := ⟨w.heap.size + 1, 2, none⟩) (show w.heap.size ≤ w.heap.size + 1 by omega) _, Z5.out.other (by omega) 2 _, ?_, owns_set O5.out P5.out 2 _, S5.out.setCell (n := gw) (fun g o e => by cases e; exact Nat.le_refl _) (by omega) 2 _, ?_, by simp [World.setCell]; omega⟩
                · have := P5.out.set 2 (.slice b2 (k + 1) d2)
                  simpa using this
                · intro y hy
                  rw [HT.out] at hy
                  rcases List.mem_append.1 hy with h | h
                  · exact HGD.out y h
                  · rw [List.mem_singleton.1 h]; exact HBF.out
              go_wp2
              go_roundw
              case rel => exact ⟨k + 1, _, by omega, by go_num, RELN.out⟩
              case measure => simp [intOf]; omega
        · obtain rfl : k = ws.length := by omega
          have hgood := REL.out.good
          rw [List.take_length] at hgood
          have hown := REL.out.own
          rw [List.take_length] at hown
          obtain ⟨_, b', d', hv, hle, hat⟩ := owns_strs hown
          have hany : ws.any badW = false := by rw [List.any_eq_false]; intro x hx; rw [hgood x hx]; simp
          have HPW2 : Hid (parseP l = if chkE ⟨K, N, ws.map mkB, st⟩ = 0 then (0, ⟨K, N, ws.map mkB, st⟩) else (chkE ⟨K, N, ws.map mkB, st⟩, zeroP)) := by show _ = _; rw [HPW.out, if_neg (by rw [hany]; simp)]
          clear hgood hany HPW
          subst hv
          have HFR : Hid (Fr b' base) := owns_fr hown (Nat.le_refl _)
          clear hown
          have HAT := Lib.hid hat; clear hat
          have HKW := Lib.hid (HK0.out.below REL.out.hb)
          go_wp2_with (refine wload24 rfl _ rfl (w.heap.size + 1) _ rfl REL.out.p rfl ?_)
          have hpv := fun W h1 h2 => check12 ⟨K, N, ws.map mkB, st⟩ b' d' W h1 h2
          unfold pV at hpv
          rw [List.length_map] at hpv
          refine (hpv _ HKW.out HAT.out).mono ?_
          clear hpv
          rintro e w7 ⟨rfl, hb⟩
          have HB7 := Lib.hid (REL.out.hb.trans (hb.mono REL.out.hb.size))
          have P7 := Lib.hid (REL.out.p.below hb)
          have Z7 := Lib.hid (REL.out.z.below hb)
          have HAT7 := Lib.hid (HAT.out.below hb)
          clear hb REL HAT HKW
          rw [List.length_map] at P7 hle
          by_cases hch : chkE ⟨K, N, ws.map mkB, st⟩ = 0
          · have HF : Hid (parseP l = (0, ⟨K, N, ws.map mkB, st⟩)) := by show _ = _; rw [HPW2.out, if_pos hch]
            rw [hch]
            clear hch
            go_wp2_with (first | (refine wload24 rfl _ rfl (w.heap.size + 1) _ rfl P7.out rfl ?_) | (refine store24 rfl _ _ rfl w.heap.size _ _ _ _ _ _ rfl rfl _ Z7.out rfl ?_))
            refine bodyPost_ret (v := .tuple #[.agg #[.int .i64 K, .int .i64 N, .slice b' ws.length d', .bool st], .int .i64 0]) (results_c2' Tryz.results21 _ _ w.heap.size _ _ _ _ _ rfl rfl (Z7.out.setRow _)) rfl ?_
            exact ⟨below_setRow HB7.out (Nat.le_refl _) _, .inr ⟨by rw [HF.out], b', d', by rw [HF.out]; unfold pV; simp only [List.length_map], by rw [HF.out]; exact HAT7.out.setRow HFR.out (by omega) _, by rw [HF.out]; simpa using hle⟩⟩
          · have HF : Hid (parseP l = (chkE ⟨K, N, ws.map mkB, st⟩, zeroP)) := by show _ = _; rw [HPW2.out, if_neg hch]
            have hne : (chkE ⟨K, N, ws.map mkB, st⟩ != 0) = true := by simpa using hch
            have HCH := Lib.hid hch
            clear hch
            generalize chkE ⟨K, N, ws.map mkB, st⟩ = ec at *
            go_wp2_with (refine store24 rfl _ _ rfl w.heap.size _ _ _ _ _ _ rfl rfl _ Z7.out rfl ?_)
            refine bodyPost_ret (v := .tuple #[pV zeroP none 0, .int .i64 ec]) (results_c2' Tryz.results21 _ _ w.heap.size _ _ _ _ _ rfl rfl (Z7.out.setRow _)) rfl ?_
            exact par_bad HF.out HCH.out (below_setRow HB7.out (Nat.le_refl _) _) rfl
end Go.Proofs.YthlnhinjcffllaaGreatDoor
