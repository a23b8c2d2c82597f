/-
  The reference's words.
-/
import Derived.Test.YthlnhinjcffllaaGreatDoorQ18
namespace Go.Proofs.YthlnhinjcffllaaGreatDoor
open Go.RowKit

theorem mkB_get (l : List UInt8) (k : Nat) (_h : k < (mkB l).size) (h' : k < l.length) : (mkB l)[k] = l[k] := by
  simp [ByteArray.getElem_eq_getElem_data, mkB]
theorem mkB_ext (l : List UInt8) (f k : Nat) : (mkB l).extract f k = mkB ((l.take k).drop f) := by
  apply WideShapes.bytes_inj
  rw [Lib.extract_data, mkB_data, mkB_data, ← List.drop_take]
theorem byte_is (s : ByteArray) (k : Nat) (h : k < s.size) (c : UInt8) (n : Int) (hn : (c.toNat : Int) = n) : (s[k] = c ∧ ((s[k].toNat : Int) == n) = true) ∨ (s[k] ≠ c ∧ ((s[k].toNat : Int) == n) = false) := by
  subst hn
  by_cases e : s[k] = c
  · exact .inl ⟨e, by simp [e]⟩
  · refine .inr ⟨e, ?_⟩
    simp only [beq_eq_false_iff_ne, ne_eq]
    intro h2
    exact e (UInt8.toNat_inj.1 (by omega))
def WordsPost (l : List UInt8) (w : World) (e : Ending) (w' : World) : Prop := Below w.heap.size w w' ∧ ∃ a c, e = .returned (.slice a (splitOn 46 l).length c) ∧ (splitOn 46 l).length ≤ c ∧ StrsAt w' a ((splitOn 46 l).map mkB)
/-- the words in front of place i -/
def Wat (l : List UInt8) (O : List (List UInt8)) (f i : Nat) : Prop := if i ≤ l.length then splitOn 46 (l.take i) = O ++ [(l.take i).drop f] else O = splitOn 46 l
theorem wat_miss {l : List UInt8} {O : List (List UInt8)} {f i : Nat} (h : Wat l O f i) (hi : i < l.length) (hf : f ≤ i) (hc : l[i] ≠ 46) : Wat l O f (i + 1) := by
  unfold Wat at *
  rw [if_pos (by omega)] at h
  rw [if_pos (by omega), List.take_succ_eq_append_getElem hi, splitOn_snoc_ne 46 l[i] hc _ _ _ h, List.drop_append_of_le_length (by rw [List.length_take]; omega)]
theorem wat_hit {l : List UInt8} {O : List (List UInt8)} {f i : Nat} (h : Wat l O f i) (hi : i < l.length) (hc : l[i] = 46) : Wat l (O ++ [(l.take i).drop f]) (i + 1) (i + 1) := by
  unfold Wat at *
  rw [if_pos (by omega)] at h
  rw [if_pos (by omega), List.take_succ_eq_append_getElem hi, hc, splitOn_snoc_eq, h]
  congr 2
  rw [List.drop_of_length_le (by simp; omega)]
theorem wat_end {l : List UInt8} {O : List (List UInt8)} {f : Nat} (h : Wat l O f l.length) : Wat l (O ++ [(l.take l.length).drop f]) (l.length + 1) (l.length + 1) := by
  unfold Wat at *
  rw [if_pos (Nat.le_refl _), List.take_length] at h
  rw [if_neg (by omega), List.take_length, h]

structure WRel (w wr : World) (l : List UInt8) (O : List (List UInt8)) (f i : Nat) (v : Value) : Prop where
  hb : Below w.heap.size w wr
  own : wr.ownsRow w.heap.size 9 1 v (O.map mkB).length ((O.map mkB).map Value.string)
  hi : i ≤ l.length + 1
  hf : f ≤ i
  hO : O.length ≤ i
  wat : Wat l O f i
set_option maxRecDepth 100000 in
set_option maxHeartbeats 2000000 in
theorem words35 (l : List UInt8) (w : World) (hl : l.length ≤ 65536) : Calls Tryz.prog 35 #[.string (mkB l)] w (WordsPost l w) := by
  have hz := mkB_size l
  obtain ⟨s, hs⟩ : ∃ s, s = mkB l := ⟨_, rfl⟩
  rw [← hs] at hz
  rw [← hs]
  have HS := Lib.hid hs; clear hs
  obtain ⟨N, hN⟩ : ∃ N, N = l.length := ⟨_, rfl⟩
  rw [← hN] at hz hl
  have HN := Lib.hid hN; clear hN
  have HZ := Lib.hid hz
  have hzN : s.size ≤ 65536 := by omega
  clear hz
  go_enter Tryz.func35, Tryz.ntmps35
  go_wp2
  go_loopw [3, 4, 5] (fun v u t wr => ∃ O f i, u = .int .i64 (f : Nat) ∧ t = .int .i64 (i : Nat) ∧ WRel w wr l O f i v) (fun _ _ t _ => s.size + 1 - (intOf t).toNat)
  case atStart => exact ⟨[], 0, 0, rfl, rfl, ⟨Below.refl _ _, World.ownsRow_nil _ _ _ _, by omega, by omega, by simp, by unfold Wat; rw [if_pos (by omega)]; rfl⟩⟩
  case round =>
    obtain ⟨O, f, i, rfl, rfl, hrel⟩ := hrel
    have hi := hrel.hi
    have hf := hrel.hf
    have hO := hrel.hO
    have REL := Lib.hid hrel; clear hrel
    rw [← HN.out, ← HZ.out] at hi
    by_cases hend : i = s.size + 1
    · have HE : Hid (O = splitOn 46 l) := by
        have := REL.out.wat
        unfold Wat at this
        rw [if_neg (by rw [← HN.out, ← HZ.out]; omega)] at this
        exact this
      have d1 : decide ((i : Int) ≤ (s.size : Int)) = false := by simp; omega
      have d2 : decide (i ≤ s.size) = false := by simp; omega
      obtain ⟨_, a, c, hv, hle, hat⟩ := owns_strs REL.out.own
      rw [List.length_map] at hv hle
      have HAT := Lib.hid hat; clear hat
      rw [hv]
      go_wp2
      go_ret
      exact ⟨REL.out.hb, a, c, by rw [← HE.out]; rfl, by rw [← HE.out]; exact hle, by rw [← HE.out]; exact HAT.out⟩
    have d1 : decide (i ≤ s.size) = true := by simp; omega
    have hz1 := REL.out.hb.size
    have OA := Lib.hid (REL.out.own.alloc (.cells #[.string (s.extract f i)] 9))
    have BA : Hid (Blk (wr.alloc (.cells #[.string (s.extract f i)] 9)) wr.heap.size #[.string (s.extract f i)] 9) := blk_new ..
    have HA := Lib.hid (REL.out.hb.alloc REL.out.hb.size (.cells #[.string (s.extract f i)] 9))
    have HX : Hid (s.extract f i = mkB ((l.take i).drop f)) := by show _ = _; rw [HS.out, mkB_ext]
    by_cases hlast : i = s.size
    · have t1 : ((i : Int) == (s.size : Int)) = true := by simp [hlast]
      have HL := Lib.hid hlast
      have hil : i ≤ s.size := by omega
      clear hlast
      go_wp2_with (at_builtin; refine app_str rfl _ _ rfl w.heap.size _ (O.map mkB) rfl OA.out wr.heap.size _ rfl BA.out (by rw [List.length_map]; omega) (by simp; omega) ?_)
      intro v' w5 hown hgrow
      have RELN : Hid (WRel w w5 l (O ++ [(l.take i).drop f]) (i + 1) (i + 1) v') := by
        refine ⟨HA.out.grown hgrow HA.out.size (fun k hk => (OA.out.lt k hk).1), ?_, ?_, Nat.le_refl _, by simp; omega, ?_⟩
        · have h := hown
          rw [HX.out] at h
          simpa using h
        · rw [← HN.out, ← HZ.out]; omega
        · have e : i = l.length := by rw [HL.out, HZ.out, HN.out]
          have h := REL.out.wat
          rw [e] at h ⊢
          exact wat_end h
      clear hown hgrow OA BA HA REL
      go_wp2
      go_roundw
      case rel => exact ⟨_, i + 1, i + 1, by go_num, by go_num, RELN.out⟩
      case measure => simp [intOf]; omega
    · have hlt : i < s.size := by omega
      have hlt2 : i < l.length := by rw [← HN.out, ← HZ.out]; exact hlt
      have t1 : ((i : Int) == (s.size : Int)) = false := by simp; omega
      have HG : Hid (s[i] = l[i]) := by
        have h1 := HS.out
        subst h1
        exact mkB_get l i hlt hlt2
      have hil : i ≤ s.size := by omega
      rcases byte_is s i hlt 46 46 rfl with ⟨hc, t2⟩ | ⟨hc, t2⟩
      · have HCC : Hid (l[i] = 46) := HG.out.symm.trans hc
        clear hc
        go_wp2_with (at_builtin; refine app_str rfl _ _ rfl w.heap.size _ (O.map mkB) rfl OA.out wr.heap.size _ rfl BA.out (by rw [List.length_map]; omega) (by simp; omega) ?_)
        intro v' w5 hown hgrow
        have RELN : Hid (WRel w w5 l (O ++ [(l.take i).drop f]) (i + 1) (i + 1) v') := by
          refine ⟨HA.out.grown hgrow HA.out.size (fun k hk => (OA.out.lt k hk).1), ?_, ?_, Nat.le_refl _, by simp; omega, ?_⟩
          · have h := hown
            rw [HX.out] at h
            simpa using h
          · rw [← HN.out, ← HZ.out]; omega
          · exact wat_hit REL.out.wat hlt2 HCC.out
        clear hown hgrow OA BA HA REL
        go_wp2
        go_roundw
        case rel => exact ⟨_, i + 1, i + 1, by go_num, by go_num, RELN.out⟩
        case measure => simp [intOf]; omega
      · have HCC : Hid (l[i] ≠ 46) := fun e => hc (HG.out.trans e)
        clear hc OA BA HA
        go_wp2
        go_roundw
        case rel => exact ⟨O, f, i + 1, rfl, by go_num, ⟨REL.out.hb, REL.out.own, by rw [← HN.out, ← HZ.out]; omega, by omega, by omega, wat_miss REL.out.wat hlt2 REL.out.hf HCC.out⟩⟩
        case measure => simp [intOf]; omega
end Go.Proofs.YthlnhinjcffllaaGreatDoor
