/-
  The reference's Parse.
-/
import Derived.Test.YthlnhinjcffllaaGreatDoorQ22
import Derived.Test.YthlnhinjcffllaaGreatDoorRegy
namespace Go.Proofs.YthlnhinjcffllaaGreatDoor
open Go.RowKit

theorem StrsAt.setNon {w : World} {a : Option Addr} {l : List ByteArray} {g i : Nat} {cs : Array Value} {t : TypeId} (h : StrsAt w a l) (hg : Blk w g cs t) (hn : ∀ x, cs[i]? ≠ some (.string x)) (v : Value) : StrsAt (w.setCell ⟨g, i, none⟩ v) a l := by
  intro k hk
  obtain ⟨b, off, rfl, hc⟩ := h k hk
  refine ⟨b, off, rfl, ?_⟩
  by_cases hb : b = g
  · subst hb
    rw [cell_of_row _ _ _ _ _ _ hg] at hc
    rw [cell_of_row _ _ _ _ _ _ (hg.set i v)]
    have : i ≠ off + k := fun e => hn _ (by rw [e]; exact hc)
    rw [Array.getElem?_setIfInBounds_ne this]; exact hc
  · have hb' : (w.setCell ⟨g, i, none⟩ v).heap[b]? = w.heap[b]? := by
      simp only [World.setCell, Array.getElem?_modify]
      rw [if_neg (by omega)]
    rw [World.cell?_of_block (w := w) hb']; exact hc
/-- the last byte and the star -/
theorem unS_hit {l : List UInt8} (h : 0 < l.length) (hc : l[l.length - 1] = 42) : unS l = (true, l.take (l.length - 1)) := by
  have hne : l ≠ [] := fun e => by subst e; simp at h
  have : l.getLast? = some 42 := by rw [List.getLast?_eq_getElem?, List.getElem?_eq_getElem (by omega), hc]
  unfold unS; rw [if_pos this, List.dropLast_eq_take]
theorem unS_miss {l : List UInt8} (h : 0 < l.length) (hc : l[l.length - 1] ≠ 42) : unS l = (false, l) := by
  have : ¬ l.getLast? = some 42 := by
    rw [List.getLast?_eq_getElem?, List.getElem?_eq_getElem (by omega)]
    exact fun e => hc (Option.some.inj e)
  unfold unS; rw [if_neg this]

theorem splitOn_mem_len (c : UInt8) : ∀ l, ∀ x ∈ splitOn c l, x.length ≤ l.length
  | [], x, h => by
    simp only [splitOn, List.mem_singleton] at h
    rw [h]; exact Nat.le_refl _
  | b :: l, x, h => by
    have ih := splitOn_mem_len c l
    simp only [splitOn] at h
    by_cases hb : b = c
    · rw [if_pos hb] at h
      rcases List.mem_cons.1 h with rfl | h
      · simp
      · exact Nat.le_succ_of_le (ih x h)
    · rw [if_neg hb] at h
      cases hs : splitOn c l with
      | nil => exact absurd hs (splitOn_ne c l)
      | cons y r =>
        rw [hs] at h ih
        rcases List.mem_cons.1 h with rfl | h
        · exact Nat.succ_le_succ (ih y (List.mem_cons_self ..))
        · exact Nat.le_succ_of_le (ih x (List.mem_cons_of_mem _ h))
/-- at the head of a round: the fields so far -/
structure PRel2 (w wr : World) (K N : Int) (st : Bool) (gw ow base : Nat) (words ws : List (List UInt8)) (k : Nat) (v : Value) : Prop where
  hb : Below w.heap.size w wr
  z : Blk wr w.heap.size #[.int .i64 0, .int .i64 0, .slice none 0 0, .bool false] 24
  p : Blk wr (w.heap.size + 1) #[.int .i64 K, .int .i64 N, v, .bool st] 24
  own : wr.ownsRow base 9 1 v ((ws.take k).map mkB).length (((ws.take k).map mkB).map Value.string)
  sw : StrsAt wr (some ⟨gw, ow, none⟩) (words.map mkB)
  good : ∀ x ∈ ws.take k, badW x = false
  bz : base ≤ wr.heap.size

theorem PRel2.below {w wr w' : World} {K N : Int} {st : Bool} {gw ow base : Nat} {words ws : List (List UInt8)} {k : Nat} {v : Value} (h : PRel2 w wr K N st gw ow base words ws k v) (hb : Below wr.heap.size wr w') : PRel2 w w' K N st gw ow base words ws k v :=
  ⟨h.hb.trans (hb.mono h.hb.size), h.z.below hb, h.p.below hb, owns_below h.own hb, h.sw.below hb, h.good, Nat.le_trans h.bz hb.size⟩
/-- a world in which one block is as it was -/
structure WK (W : World) (g : Nat) where
  u : World
  h : u.heap[g]? = W.heap[g]?
theorem WK.cell {W : World} {g : Nat} (o : WK W g) {i : Nat} {v : Value} (h : W.cell? ⟨g, i, none⟩ = some v) : o.u.cell? ⟨g, i, none⟩ = some v := by
  rw [World.cell?_of_block (w := W) o.h]; exact h
set_option maxRecDepth 100000 in
set_option maxHeartbeats 8000000 in
theorem parse22 (l : List UInt8) (w : World) : Calls Tryz.prog 22 #[.string (mkB l)] w (ParPost l w) := by
  have hz := mkB_size l
  have C0 : Hid (Blk (w.alloc (.cells #[.int .i64 0, .int .i64 0, .slice none 0 0, .bool false] 24)) w.heap.size #[.int .i64 0, .int .i64 0, .slice none 0 0, .bool false] 24) := blk_new ..
  by_cases hbig : 65536 < l.length
  · have d1 : decide (65536 < ((mkB l).size : Int)) = true := by simp; omega
    have HF : Hid (parseP l = (3, zeroP)) := if_pos hbig
    clear hbig hz
    generalize mkB l = s at *
    go_enter Tryz.func22, Tryz.ntmps22
    go_wp2_with (refine store24 rfl _ _ rfl w.heap.size _ _ _ _ _ _ rfl rfl _ C0.out rfl ?_)
    refine bodyPost_ret (v := .tuple #[pV zeroP none 0, .int .i64 3]) (results_c2' Tryz.results22 _ _ w.heap.size _ _ _ _ _ rfl rfl (C0.out.setRow _)) rfl ?_
    exact par_bad HF.out (by omega) (below_setRow (one_below ..) (Nat.le_refl _) _) rfl
  have d1 : decide (65536 < ((mkB l).size : Int)) = false := by simp; omega
  have HPP : Hid (parseP l = pathW (unS l).1 (splitOn 46 (unS l).2)) := if_neg hbig
  have hl : l.length ≤ 65536 := by omega
  have hul : (unS l).2.length ≤ 65536 := by
    unfold unS
    split
    · simp; omega
    · exact hl
  have C1 : Hid (Blk ((w.alloc (.cells #[.int .i64 0, .int .i64 0, .slice none 0 0, .bool false] 24)).alloc (.cells #[.int .i64 0, .int .i64 0, .slice none 0 0, .bool false] 24)) (w.heap.size + 1) #[.int .i64 0, .int .i64 0, .slice none 0 0, .bool false] 24) := blk_new2 ..
  have HB1 := Lib.hid (two_below w (.cells #[.int .i64 0, .int .i64 0, .slice none 0 0, .bool false] 24) (.cells #[.int .i64 0, .int .i64 0, .slice none 0 0, .bool false] 24))
  have C0' := Lib.hid (C0.out.below (one_below _ (.cells #[.int .i64 0, .int .i64 0, .slice none 0 0, .bool false] 24)))
  obtain ⟨s, hs⟩ : ∃ s, s = mkB l := ⟨_, rfl⟩
  rw [← hs] at hz d1
  rw [← hs]
  have HS := Lib.hid hs; clear hs
  have hsz : s.size ≤ 65536 := by omega
  have HZ := Lib.hid hz
  have HLL := Lib.hid hl
  clear hbig hz hl
  go_enter Tryz.func22, Tryz.ntmps22
  go_upto_region 4 with (fail)
  clear C0
  generalize (w.alloc (.cells #[.int .i64 0, .int .i64 0, .slice none 0 0, .bool false] 24)).alloc (.cells #[.int .i64 0, .int .i64 0, .slice none 0 0, .bool false] 24) = W1 at *
  go_cut [26] (fun v wx => v = .bool (unS l).1 ∧ wx = W1)
  case first =>
    by_cases h0 : s.size = 0
    · have d2 : decide (0 < (s.size : Int)) = false := by rw [h0]; rfl
      have d3 : decide (0 < s.size) = false := by rw [h0]; rfl
      have HU : Hid (unS l = (false, l)) := by
        have : l = [] := List.length_eq_zero_iff.1 (by rw [← HZ.out, h0])
        show _ = _; rw [this]; rfl
      clear h0
      go_wp2
      go_meet
      exact ⟨by rw [HU.out], rfl⟩
    have d2 : decide (0 < (s.size : Int)) = true := by simp; omega
    have d3 : decide (0 < s.size) = true := by simp; omega
    have hlt : s.size - 1 < s.size := by omega
    have HP : Hid (0 < l.length) := by show _ < _; rw [← HZ.out]; omega
    have hltl : l.length - 1 < l.length := by have := HP.out; omega
    have HG : Hid (s[s.size - 1] = l[l.length - 1]) := by
      have h1 := HS.out
      have h2 : s.size - 1 = l.length - 1 := by rw [HZ.out]
      simp only [h2]
      subst h1
      exact mkB_get l _ (by have h3 := HZ.out; omega) hltl
    rcases byte_is s (s.size - 1) hlt 42 42 rfl with ⟨hc, t2⟩ | ⟨hc, t2⟩
    · have HU := Lib.hid (unS_hit HP.out (HG.out.symm.trans hc))
      clear hc
      go_wp2
      go_meet
      exact ⟨by rw [HU.out], rfl⟩
    · have HU := Lib.hid (unS_miss HP.out (fun e => hc (HG.out.trans e)))
      clear hc
      go_wp2
      go_meet
      exact ⟨by rw [HU.out], rfl⟩
  case rest =>
  obtain ⟨rfl, rfl⟩ := hcut
  have f3 := C1.out.free 3
  obtain ⟨x0, x1, x2, x3⟩ := C1.out.four
  go_upto_if 26 with (fail)
  obtain ⟨st, hst⟩ : ∃ st, st = (unS l).1 := ⟨_, rfl⟩
  obtain ⟨b, hb⟩ : ∃ b, b = (unS l).2 := ⟨_, rfl⟩
  rw [← hst]
  rw [← hst, ← hb] at HPP
  rw [← hb] at hul
  have HU : Hid (unS l = (st, b)) := by show _ = _; rw [hst, hb]
  clear hst hb
  go_cut [0] (fun v wx => v = .string (mkB b) ∧ Below w.heap.size w wx ∧ Blk wx w.heap.size #[.int .i64 0, .int .i64 0, .slice none 0 0, .bool false] 24 ∧ Blk wx (w.heap.size + 1) #[.int .i64 0, .int .i64 0, .slice none 0 0, .bool st] 24)
  case first =>
    cases st
    case false =>
      have HB : Hid (b = l) := by
        have h := HU.out
        unfold unS at h
        split at h
        · cases h
        · exact (congrArg Prod.snd h).symm
      go_wp2
      go_meet
      exact ⟨by rw [HB.out, HS.out], HB1.out, C0'.out, C1.out⟩
    case true =>
      have HB : Hid (b = l.take (l.length - 1) ∧ 0 < l.length) := by
        have h := HU.out
        unfold unS at h
        split at h
        · rename_i h42
          refine ⟨by rw [← List.dropLast_eq_take]; exact (congrArg Prod.snd h).symm, ?_⟩
          cases l with
          | nil => cases h42
          | cons => simp
        · cases h
      have hpos : 0 < s.size := by rw [HZ.out]; exact HB.out.2
      have HX : Hid (s.extract 0 (s.size - 1) = mkB b) := by
        have h2 : s.size - 1 = l.length - 1 := by rw [HZ.out]
        show _ = _; rw [h2, HS.out, mkB_ext, HB.out.1]; simp
      go_wp2
      go_meet
      refine ⟨by rw [← HX.out], ?_, ?_, ?_⟩
      · exact HB1.out.setCell (p := ⟨w.heap.size + 1, 3, none⟩) (show w.heap.size ≤ w.heap.size + 1 by omega) _
      · exact C0'.out.other (by omega) 3 _
      · have := C1.out.set 3 (.bool true)
        simpa using this
  case rest =>
  obtain ⟨rfl, hb2, hz2, hp2⟩ := hcut
  have HB2 := Lib.hid hb2
  have Z2 := Lib.hid hz2
  have P2 := Lib.hid hp2
  clear hb2 hz2 hp2 HB1 C0' C1 x0 x1 x2 x3 f3 HU HS HZ HLL hsz d1
  go_wp2_with fail
  refine (words35 b wc hul).mono ?_
  rintro e w3 ⟨hb, a, c, rfl, hlc, hsw⟩
  have HB3 := Lib.hid (HB2.out.trans (hb.mono HB2.out.size))
  have P3 := Lib.hid (P2.out.below hb)
  have Z3 := Lib.hid (Z2.out.below hb)
  clear hb HB2 P2 Z2
  cases hsp : splitOn 46 b with
  | nil => exact absurd hsp (splitOn_ne 46 b)
  | cons w0 ws =>
    rw [hsp] at hsw HPP hlc
    have hjoin := split_join 46 b w0 ws hsp
    have hw0 : w0.length ≤ 65536 := by
      have := congrArg List.length hjoin
      rw [List.length_append] at this; omega
    have hwl : ws.length ≤ 65536 := by
      have := splitOn_len 46 b
      rw [hsp, List.length_cons] at this
      have := List.count_le_length (a := (46 : UInt8)) (l := b)
      omega
    have HWL : Hid (∀ x ∈ ws, x.length ≤ 65536) := fun x hx => Nat.le_trans (splitOn_mem_len 46 b x (by rw [hsp]; exact List.mem_cons_of_mem _ hx)) hul
    clear hjoin hsp
    have HSW := Lib.hid hsw
    obtain ⟨gw, ow, rfl, hc0⟩ := hsw 0 (by simp)
    clear hsw
    simp only [List.map_cons, List.getElem_cons_zero, Nat.add_zero] at hc0
    have hgw3 : gw < w3.heap.size := World.block_lt_of_cell? w3 _ hc0
    simp only [List.length_cons] at hlc ⊢
    go_wp2_with fail
    refine (root36 w0 w3 hw0).mono ?_
    rintro e w4 ⟨rfl, rfl⟩
    obtain ⟨K, N, okb, hrv, hcase⟩ : ∃ (K N : Int) (okb : Bool), rootV w0 = .tuple #[.int .i64 K, .int .i64 N, .bool okb] ∧ ((okb = false ∧ rootOf w0 = none) ∨ (okb = true ∧ rootOf w0 = some (K, N))) := by
      unfold rootV
      cases hr : rootOf w0 with
      | none => exact ⟨0, 0, false, rfl, .inl ⟨rfl, rfl⟩⟩
      | some kn => exact ⟨kn.1, kn.2, true, rfl, .inr ⟨rfl, rfl⟩⟩
    rw [hrv]
    have HCASE := Lib.hid hcase
    clear hrv hcase hc0
    go_upto_region 9 with (fail)
    cases okb
    case false =>
      have HF : Hid (parseP l = (2, zeroP)) := by
        show _ = _
        rcases HCASE.out with ⟨_, h⟩ | ⟨h, _⟩
        · rw [HPP]; simp [pathW, h]
        · cases h
      go_wp2_with (refine store24 rfl _ _ rfl w.heap.size _ _ _ _ _ _ rfl rfl _ Z3.out rfl ?_)
      refine bodyPost_ret (v := .tuple #[pV zeroP none 0, .int .i64 2]) (results_c2' Tryz.results22 _ _ w.heap.size _ _ _ _ _ rfl rfl (Z3.out.setRow _)) rfl ?_
      exact par_bad HF.out (by omega) (below_setRow HB3.out (Nat.le_refl _) _) rfl
    case true =>
      have HRT : Hid (rootOf w0 = some (K, N)) := by
        rcases HCASE.out with ⟨h, _⟩ | ⟨_, h⟩
        · cases h
        · exact h
      have HPW : Hid (parseP l = if ws.any badW = true then (2, zeroP) else if chkE ⟨K, N, ws.map mkB, st⟩ = 0 then (0, ⟨K, N, ws.map mkB, st⟩) else (chkE ⟨K, N, ws.map mkB, st⟩, zeroP)) := by
        show _ = _
        rw [HPP]; simp only [pathW, HRT.out]
      obtain ⟨y0, y1, y2, y3⟩ := P3.out.four
      have f0 := P3.out.free 0
      have P5 : Hid (Blk (w3.setCell ⟨w.heap.size + 1, 0, none⟩ (.int .i64 K)) (w.heap.size + 1) #[.int .i64 K, .int .i64 0, .slice none 0 0, .bool st] 24) := by
        have := P3.out.set 0 (.int .i64 K)
        show Blk _ _ _ _
        simpa using this
      have f1 := P5.out.free 1
      obtain ⟨z0, z1, z2, z3⟩ := P5.out.four
      have P6 : Hid (Blk ((w3.setCell ⟨w.heap.size + 1, 0, none⟩ (.int .i64 K)).setCell ⟨w.heap.size + 1, 1, none⟩ (.int .i64 N)) (w.heap.size + 1) #[.int .i64 K, .int .i64 N, .slice none 0 0, .bool st] 24) := by
        have := P5.out.set 1 (.int .i64 N)
        show Blk _ _ _ _
        simpa using this
      have Z6 : Hid (Blk ((w3.setCell ⟨w.heap.size + 1, 0, none⟩ (.int .i64 K)).setCell ⟨w.heap.size + 1, 1, none⟩ (.int .i64 N)) w.heap.size #[.int .i64 0, .int .i64 0, .slice none 0 0, .bool false] 24) := (Z3.out.other (by omega) 0 _).other (by omega) 1 _
      have SW6 : Hid (StrsAt ((w3.setCell ⟨w.heap.size + 1, 0, none⟩ (.int .i64 K)).setCell ⟨w.heap.size + 1, 1, none⟩ (.int .i64 N)) (some ⟨gw, ow, none⟩) ((w0 :: ws).map mkB)) := (HSW.out.setNon P3.out (by simp) _).setNon P5.out (by simp) _
      have HB6 := Lib.hid ((HB3.out.setCell (p := ⟨w.heap.size + 1, 0, none⟩) (show w.heap.size ≤ w.heap.size + 1 by omega) (.int .i64 K)).setCell (p := ⟨w.heap.size + 1, 1, none⟩) (show w.heap.size ≤ w.heap.size + 1 by omega) (.int .i64 N))
      have hz6 : gw < ((w3.setCell ⟨w.heap.size + 1, 0, none⟩ (.int .i64 K)).setCell ⟨w.heap.size + 1, 1, none⟩ (.int .i64 N)).heap.size := by simpa [World.setCell] using hgw3
      go_upto_region 13 with (fail)
      clear y0 y1 y2 y3 z0 z1 z2 z3 f0 f1 P3 P5 Z3 HSW HB3 hgw3 HCASE
      generalize (w3.setCell ⟨w.heap.size + 1, 0, none⟩ (.int .i64 K)).setCell ⟨w.heap.size + 1, 1, none⟩ (.int .i64 N) = w6 at *
      have REL : Hid (PRel2 w w6 K N st gw ow w6.heap.size (w0 :: ws) ws 0 (.slice none 0 0)) := ⟨HB6.out, Z6.out, P6.out, World.ownsRow_nil _ _ _ _, SW6.out, fun x hx => (by simp at hx), Nat.le_refl _⟩
      obtain ⟨base, hbase⟩ : ∃ base, base = w6.heap.size := ⟨_, rfl⟩
      rw [← hbase] at REL hz6
      have hgp : w.heap.size + 1 < base := by rw [hbase]; exact P6.out.lt
      clear hbase HB6 Z6 P6 SW6
      go_wp2
      go_loopw [9] (fun i wr => ∃ k v, k ≤ ws.length ∧ i = .int .i64 ((k + 1 : Nat) : Int) ∧ PRel2 w wr K N st gw ow base (w0 :: ws) ws k v) (fun i _ => ws.length + 1 - (intOf i).toNat)
      case atStart => exact ⟨0, _, Nat.zero_le _, rfl, REL.out⟩
      case round =>
        clear REL
        obtain ⟨k, v, hk, rfl, hrel⟩ := hrel
        have REL := Lib.hid hrel; clear hrel
        by_cases hlt : k < ws.length
        · obtain ⟨_, _, he, hcell⟩ := REL.out.sw (k + 1) (by simp; omega)
          cases he
          simp only [List.map_cons, List.getElem_cons_succ, List.getElem_map] at hcell
          have HT := Lib.hid (List.take_succ_eq_append_getElem hlt)
          have HBAD : Hid (badW ws[k] = true → ws.any badW = true) := fun h => List.any_eq_true.2 ⟨_, List.getElem_mem hlt, h⟩
          have hxl := HWL.out _ (List.getElem_mem hlt)
          generalize ws[k] = x at *
          have HBX : Hid (badW x = (x.isEmpty || x.contains 42)) := rfl
          cases hx1 : x.isEmpty with
          | true =>
            have e1 : (mkB x).toList = [] := by rw [mkB_toList]; simpa using hx1
            have e2 : (mkB x).toList.isEmpty = true := by rw [e1]; rfl
            have HF : Hid (parseP l = (2, zeroP)) := by show _ = _; rw [HPW.out, if_pos (HBAD.out (by rw [HBX.out, hx1]; rfl))]
            clear hx1 hxl
            go_wp2_with (refine store24 rfl _ _ rfl w.heap.size _ _ _ _ _ _ rfl rfl _ REL.out.z rfl ?_)
            refine bodyPost_ret (v := .tuple #[pV zeroP none 0, .int .i64 2]) (results_c2' Tryz.results22 _ _ w.heap.size _ _ _ _ _ rfl rfl (REL.out.z.setRow _)) rfl ?_
            exact par_bad HF.out (by omega) (below_setRow REL.out.hb (Nat.le_refl _) _) rfl
          | false =>
            have e1 : ¬ (mkB x).toList = [] := by rw [mkB_toList]; simpa using hx1
            have e2 : (mkB x).toList.isEmpty = false := by simpa using e1
            have HE1 := Lib.hid hx1
            clear hx1
            have hsx : (mkB x).size ≤ 65536 := by rw [mkB_size]; exact hxl
            have HZX := Lib.hid (mkB_size x)
            clear hxl
            obtain ⟨sx, hsx2⟩ : ∃ sx, sx = mkB x := ⟨_, rfl⟩
            rw [← hsx2] at hcell e1 e2 hsx HZX
            have HSX := Lib.hid hsx2
            clear hsx2
            go_wp2
            go_loopw [10] (fun j wx => ∃ i, i ≤ sx.size ∧ j = .int .i64 (i : Nat) ∧ wx = wr ∧ Hid (42 ∉ x.take i)) (fun j _ => sx.size - (intOf j).toNat)
            case atStart => exact ⟨0, Nat.zero_le _, rfl, rfl, by show ¬ (42 ∈ x.take 0); simp⟩
            case round =>
              obtain ⟨i, hi, rfl, rfl, HNO⟩ := hrel
              by_cases hie : i < sx.size
              · have hix : i < x.length := by rw [← HZX.out]; exact hie
                have HG : Hid (sx[i] = x[i]) := by
                  have h1 := HSX.out
                  subst h1
                  exact mkB_get x i hie hix
                have HIX := Lib.hid hix
                rcases byte_is sx i hie 42 42 rfl with ⟨hc, t2⟩ | ⟨hc, t2⟩
                · have HF : Hid (parseP l = (2, zeroP)) := by
                    have hm : x.contains 42 = true := by rw [List.contains_iff_mem, ← HG.out.symm.trans hc]; exact List.getElem_mem hix
                    show _ = _; rw [HPW.out, if_pos (HBAD.out (by rw [HBX.out, hm]; simp))]
                  clear hc
                  go_wp2_with (refine store24 rfl _ _ rfl w.heap.size _ _ _ _ _ _ rfl rfl _ REL.out.z rfl ?_)
                  refine bodyPost_ret (v := .tuple #[pV zeroP none 0, .int .i64 2]) (results_c2' Tryz.results22 _ _ w.heap.size _ _ _ _ _ rfl rfl (REL.out.z.setRow _)) rfl ?_
                  exact par_bad HF.out (by omega) (below_setRow REL.out.hb (Nat.le_refl _) _) rfl
                · have HNN : Hid (42 ∉ x.take (i + 1)) := by
                    show ¬ (42 ∈ x.take (i + 1))
                    rw [List.take_succ_eq_append_getElem hix, List.mem_append, List.mem_singleton]
                    rintro (h | h)
                    · exact HNO.out h
                    · exact hc (HG.out.trans h.symm)
                  clear hc HIX
                  go_wp2
                  go_roundw
                  case rel => exact ⟨i + 1, by omega, by go_num, trivial, HNN⟩
                  case measure => simp [intOf]; omega
              · obtain rfl : i = sx.size := by omega
                have HBF : Hid (badW x = false) := by
                  show _ = _
                  have h := HNO.out
                  rw [HZX.out, List.take_length] at h
                  rw [HBX.out, HE1.out]; simpa using h
                clear HNO
                go_upto_region 23 with (fail)
                obtain ⟨y0, y1, y2, y3⟩ := REL.out.p.four
                have hgw : gw < wr.heap.size := World.block_lt_of_cell? wr _ hcell
                have hbz := REL.out.bz
                have hgne : gw ≠ w.heap.size + 1 := fun e => by
                  have h1 := REL.out.p
                  obtain ⟨_, b2, d2, hv2, _⟩ := owns_strs REL.out.own
                  rw [hv2] at h1
                  have h2 : Blk wr gw #[.int .i64 K, .int .i64 N, .slice b2 ((ws.take k).map mkB).length d2, .bool st] 24 := by rw [e]; exact h1
                  rw [cell_of_row _ _ _ _ _ _ h2] at hcell
                  match h3 : ow + (k + 1), hcell with
                  | 0, h => cases h
                  | 1, h => cases h
                  | 2, h => cases h
                  | 3, h => cases h
                  | n + 4, h => cases h
                have hne : Nonempty (WK wr gw) := ⟨⟨wr, rfl⟩⟩
                have k5 : ∀ o : WK wr gw, o.u.cell? ⟨gw, ow + (k + 1), none⟩ = some (.string sx) := fun o => o.cell hcell
                clear hcell
                have hcur : wr.drew.heap[gw]? = wr.heap[gw]? := rfl
                have hd0 : Below wr.heap.size wr wr.drew := (Below.refl _ _).drew
                have hdz : wr.drew.heap.size = wr.heap.size := rfl
                have HOB : Below wr.heap.size wr (wr.alloc (.cells #[.string sx] 9)).drew := (one_below wr (.cells #[.string sx] 9)).drew
                have RELA := Lib.hid (REL.out.below HOB)
                have BA : Hid (Blk (wr.alloc (.cells #[.string sx] 9)).drew wr.heap.size #[.string sx] 9) := (blk_new wr #[.string sx] 9).below ((Below.refl _ _).drew)
                have hcurA : (wr.alloc (.cells #[.string sx] 9)).drew.heap[gw]? = wr.heap[gw]? := HOB.block gw hgw
                have HAPP : Hid (∀ (v' : Value) (w5 : World), w5.ownsRow base 9 1 v' ((ws.take k).map mkB ++ [sx]).length (((ws.take k).map mkB ++ [sx]).map Value.string) → (wr.alloc (.cells #[.string sx] 9)).drew.grownBy w5 v.ownBlock → w5.heap[gw]? = wr.heap[gw]? ∧ ∃ b2 d2, v' = .slice b2 (k + 1) d2 ∧ (Blk w5 (w.heap.size + 1) #[.int .i64 K, .int .i64 N, v, .bool st] 24) ∧ PRel2 w (w5.setCell ⟨w.heap.size + 1, 2, none⟩ (.slice b2 (k + 1) d2)) K N st gw ow base (w0 :: ws) ws (k + 1) (.slice b2 (k + 1) d2)) := by
                  intro v' w5 hown hgrow
                  have hlow : ∀ g, v.ownBlock = some g → base ≤ g := fun g hg => (RELA.out.own.lt g hg).1
                  have P5 := RELA.out.p.grown hgrow (owns_ne RELA.out.own RELA.out.p (by decide))
                  have Z5 := RELA.out.z.grown hgrow (owns_ne RELA.out.own RELA.out.z (by decide))
                  have S5 := RELA.out.sw.grown hgrow (fun e => by have := hlow gw e.symm; omega)
                  have HB5 := RELA.out.hb.grown hgrow RELA.out.hb.size (fun g hg => by have := hlow g hg; omega)
                  have O5 : w5.ownsRow base 9 1 v' ((ws.take (k + 1)).map mkB).length (((ws.take (k + 1)).map mkB).map Value.string) := by
                    have h := hown
                    rw [HSX.out] at h
                    rw [HT.out, List.map_append]
                    exact h
                  obtain ⟨_, b2, d2, hv, hle, _⟩ := owns_strs O5
                  have hl1 : ((ws.take (k + 1)).map mkB).length = k + 1 := by rw [List.length_map, List.length_take]; omega
                  rw [hl1] at hv hle
                  subst hv
                  have hz5 : base ≤ w5.heap.size := by have := hgrow.size; simp at this; omega
                  have hgA : gw < (wr.alloc (.cells #[.string sx] 9)).drew.heap.size := Nat.lt_of_lt_of_le hgw HOB.size
                  refine ⟨(hgrow.block gw hgA (fun e => by have := hlow gw e.symm; omega)).trans hcurA, b2, d2, rfl, P5, ⟨HB5.setCell (p := ⟨w.heap.size + 1, 2, none⟩) (show w.heap.size ≤ w.heap.size + 1 by omega) _, Z5.other (by omega) 2 _, ?_, owns_set O5 P5 2 _, S5.setNon P5 (by
                    obtain ⟨_, b3, d3, hv3, _⟩ := owns_strs REL.out.own
                    rw [hv3]; simp) _, ?_, by simp [World.setCell]; omega⟩⟩
                  · have := P5.set 2 (.slice b2 (k + 1) d2)
                    simpa using this
                  · intro y hy
                    rw [HT.out] at hy
                    rcases List.mem_append.1 hy with h | h
                    · exact REL.out.good y h
                    · rw [List.mem_singleton.1 h]; exact HBF.out
                have y2A : (wr.alloc (.cells #[.string sx] 9)).cell? ⟨w.heap.size + 1, 2, none⟩ = some v := cell_below (one_below wr (.cells #[.string sx] 9)) y2
                have hkz : ((ws.take k).map mkB).length ≤ 1000000 := by rw [List.length_map, List.length_take]; omega
                have hbA : base ≤ (wr.alloc (.cells #[.string sx] 9)).drew.heap.size := Nat.le_trans hbz HOB.size
                clear HOB
                refine wp_region_Y (fun w' => ∃ o : WK wr gw, w' = o.u) (by kernel_rfl) ?_
                change wpAnyY _ _ _ _ _ _ _ _ wr.drew
                refine wpAnyY_take 0 rfl (by kernel_rfl) (fun _ _ _ _ h => h) ⟨⟨_, hcur⟩, rfl⟩ (fun K hK => ?_)
                go_simp
                refine hK _ ?_
                clear hK K
                refine wpAnyY_take 2 rfl (by kernel_rfl) (fun _ _ _ _ h => h) ⟨⟨_, hcur⟩, rfl⟩ (fun K hK => ?_)
                go_simp
                refine hK _ ?_
                clear hK K
                refine wpAnyY_take 3 rfl (by kernel_rfl) (fun _ _ _ _ h => h) ⟨⟨_, hcur⟩, rfl⟩ (fun K hK => ?_)
                go_simp
                refine hK _ ?_
                clear hK K
                refine wpAnyY_take 4 rfl (by kernel_rfl) (fun _ _ _ _ h => h) ⟨⟨_, hcur⟩, rfl⟩ (fun K hK => ?_)
                have hk0 : (0 : Int) ≤ (k : Int) + 1 := by omega
                go_simp
                try simp only [if_pos hk0]
                try go_simp
                refine hK _ ?_
                clear hK K
                refine wpAnyY_take 5 rfl (by kernel_rfl) (fun _ _ _ _ h => h) ⟨⟨_, hcur⟩, rfl⟩ (fun K hK => ?_)
                go_simp
                refine hK _ ?_
                clear hK K k5
                refine wpAnyY_two 1 6 rfl rfl (by kernel_rfl) ?_ ?_
                · go_wp2
                  refine ⟨⟨⟨_, hcur⟩, rfl⟩, ?_⟩
                  refine wpAnyY_one 6 rfl (by kernel_rfl) ?_
                  go_wp2
                  refine ⟨⟨⟨_, hcurA⟩, rfl⟩, ?_⟩
                  refine wpAnyY_one 7 rfl (by kernel_rfl) ?_
                  simp only [List.getElem_toArray, List.getElem_cons_succ, List.getElem_cons_zero]
                  go_wp2_with (at_builtin; refine app_str rfl _ _ rfl base _ ((ws.take k).map mkB) rfl RELA.out.own wr.heap.size sx rfl BA.out hkz hbA ?_)
                  intro v' w5 hown hgrow
                  obtain ⟨hcur5, b2, d2, rfl, hp5, hreln⟩ := HAPP.out v' w5 (by simpa [Nat.min_eq_left (Nat.le_of_lt hlt)] using hown) hgrow
                  have P5 := Lib.hid hp5
                  have RELN := Lib.hid hreln
                  clear hown hgrow hp5 hreln y0 y1 y2 y3 y2A hcur hcurA
                  obtain ⟨y0, y1, y2, y3⟩ := P5.out.four
                  have f2 := P5.out.free 2
                  have hcur6 : (w5.setCell ⟨w.heap.size + 1, 2, none⟩ (.slice b2 (k + 1) d2)).heap[gw]? = wr.heap[gw]? := by
                    simp only [World.setCell, Array.getElem?_modify]
                    rw [if_neg (Ne.symm hgne)]; exact hcur5
                  go_wp2
                  refine ⟨⟨⟨_, hcur5⟩, rfl⟩, ?_⟩
                  refine wpAnyY_take 8 rfl (by kernel_rfl) (fun _ _ _ _ h => h) ⟨⟨_, hcur5⟩, rfl⟩ (fun K hK => ?_)
                  go_simp
                  refine hK _ ?_
                  clear hK K
                  refine wpAnyY_one 9 rfl (by kernel_rfl) ?_
                  go_wp2
                  refine ⟨⟨⟨_, hcur6⟩, rfl⟩, ?_⟩
                  refine wpAnyY_done (by kernel_rfl) ?_ _
                  clear hcur5 hcur6 hne y0 y1 y2 y3 f2
                  go_wp2
                  go_roundw
                  case rel => exact ⟨k + 1, _, by omega, by go_num, RELN.out⟩
                  case measure => simp [intOf]; omega
                · go_wp2
                  refine ⟨⟨⟨_, hcurA⟩, rfl⟩, ?_⟩
                  refine wpAnyY_one 1 rfl (by kernel_rfl) ?_
                  go_wp2
                  refine ⟨⟨⟨_, hcurA⟩, rfl⟩, ?_⟩
                  refine wpAnyY_one 7 rfl (by kernel_rfl) ?_
                  simp only [List.getElem_toArray, List.getElem_cons_succ, List.getElem_cons_zero]
                  go_wp2_with (at_builtin; refine app_str rfl _ _ rfl base _ ((ws.take k).map mkB) rfl RELA.out.own wr.heap.size sx rfl BA.out hkz hbA ?_)
                  intro v' w5 hown hgrow
                  obtain ⟨hcur5, b2, d2, rfl, hp5, hreln⟩ := HAPP.out v' w5 (by simpa [Nat.min_eq_left (Nat.le_of_lt hlt)] using hown) hgrow
                  have P5 := Lib.hid hp5
                  have RELN := Lib.hid hreln
                  clear hown hgrow hp5 hreln y0 y1 y2 y3 y2A hcur hcurA
                  obtain ⟨y0, y1, y2, y3⟩ := P5.out.four
                  have f2 := P5.out.free 2
                  have hcur6 : (w5.setCell ⟨w.heap.size + 1, 2, none⟩ (.slice b2 (k + 1) d2)).heap[gw]? = wr.heap[gw]? := by
                    simp only [World.setCell, Array.getElem?_modify]
                    rw [if_neg (Ne.symm hgne)]; exact hcur5
                  go_wp2
                  refine ⟨⟨⟨_, hcur5⟩, rfl⟩, ?_⟩
                  refine wpAnyY_take 8 rfl (by kernel_rfl) (fun _ _ _ _ h => h) ⟨⟨_, hcur5⟩, rfl⟩ (fun K hK => ?_)
                  go_simp
                  refine hK _ ?_
                  clear hK K
                  refine wpAnyY_one 9 rfl (by kernel_rfl) ?_
                  go_wp2
                  refine ⟨⟨⟨_, hcur6⟩, rfl⟩, ?_⟩
                  refine wpAnyY_done (by kernel_rfl) ?_ _
                  clear hcur5 hcur6 hne y0 y1 y2 y3 f2
                  go_wp2
                  go_roundw
                  case rel => exact ⟨k + 1, _, by omega, by go_num, RELN.out⟩
                  case measure => simp [intOf]; omega
        · obtain rfl : k = ws.length := by omega
          have hgood := REL.out.good
          rw [List.take_length] at hgood
          have hown := REL.out.own
          rw [List.take_length] at hown
          obtain ⟨_, b', d', hv, hle, hat⟩ := owns_strs hown
          have hany : ws.any badW = false := by rw [List.any_eq_false]; intro x hx; rw [hgood x hx]; simp
          have HPW2 : Hid (parseP l = if chkE ⟨K, N, ws.map mkB, st⟩ = 0 then (0, ⟨K, N, ws.map mkB, st⟩) else (chkE ⟨K, N, ws.map mkB, st⟩, zeroP)) := by show _ = _; rw [HPW.out, if_neg (by rw [hany]; simp)]
          clear hgood hany HPW
          subst hv
          have HFR : Hid (Fr b' base) := owns_fr hown (Nat.le_refl _)
          clear hown
          have HAT := Lib.hid hat; clear hat
          go_wp2_with (refine wload24 rfl _ rfl (w.heap.size + 1) _ rfl REL.out.p rfl ?_)
          have hpv := fun W h1 => check13 ⟨K, N, ws.map mkB, st⟩ b' d' W h1
          unfold pV at hpv
          rw [List.length_map] at hpv
          refine (hpv _ HAT.out).mono ?_
          clear hpv
          rintro e w7 ⟨rfl, hb⟩
          have HB7 := Lib.hid (REL.out.hb.trans (hb.mono REL.out.hb.size))
          have P7 := Lib.hid (REL.out.p.below hb)
          have Z7 := Lib.hid (REL.out.z.below hb)
          have HAT7 := Lib.hid (HAT.out.below hb)
          clear hb REL HAT
          rw [List.length_map] at P7 hle
          by_cases hch : chkE ⟨K, N, ws.map mkB, st⟩ = 0
          · have HF : Hid (parseP l = (0, ⟨K, N, ws.map mkB, st⟩)) := by show _ = _; rw [HPW2.out, if_pos hch]
            rw [hch]
            clear hch
            go_wp2_with (first | (refine wload24 rfl _ rfl (w.heap.size + 1) _ rfl P7.out rfl ?_) | (refine store24 rfl _ _ rfl w.heap.size _ _ _ _ _ _ rfl rfl _ Z7.out rfl ?_))
            refine bodyPost_ret (v := .tuple #[.agg #[.int .i64 K, .int .i64 N, .slice b' ws.length d', .bool st], .int .i64 0]) (results_c2' Tryz.results22 _ _ w.heap.size _ _ _ _ _ rfl rfl (Z7.out.setRow _)) rfl ?_
            exact ⟨below_setRow HB7.out (Nat.le_refl _) _, .inr ⟨by rw [HF.out], b', d', by rw [HF.out]; unfold pV; simp only [List.length_map], by rw [HF.out]; exact HAT7.out.setRow HFR.out (by omega) _, by rw [HF.out]; simpa using hle⟩⟩
          · have HF : Hid (parseP l = (chkE ⟨K, N, ws.map mkB, st⟩, zeroP)) := by show _ = _; rw [HPW2.out, if_neg hch]
            have hne : (chkE ⟨K, N, ws.map mkB, st⟩ != 0) = true := by simpa using hch
            have HCH := Lib.hid hch
            clear hch
            generalize chkE ⟨K, N, ws.map mkB, st⟩ = ec at *
            go_wp2_with (refine store24 rfl _ _ rfl w.heap.size _ _ _ _ _ _ rfl rfl _ Z7.out rfl ?_)
            refine bodyPost_ret (v := .tuple #[pV zeroP none 0, .int .i64 ec]) (results_c2' Tryz.results22 _ _ w.heap.size _ _ _ _ _ rfl rfl (Z7.out.setRow _)) rfl ?_
            exact par_bad HF.out HCH.out (below_setRow HB7.out (Nat.le_refl _) _) rfl
end Go.Proofs.YthlnhinjcffllaaGreatDoor
