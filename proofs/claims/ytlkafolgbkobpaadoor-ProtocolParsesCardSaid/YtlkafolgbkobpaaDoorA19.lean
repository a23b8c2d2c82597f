import Derived.Test.YtlkafolgbkobpaaDoorPars2
namespace Go.Proofs.YtlkafolgbkobpaaDoor
open Go.RowKit Go.Sort

/-- the result: a slice of strings, in new memory -/
def StrsPost (w : World) (l : List ByteArray) (e : Ending) (w' : World) : Prop := Below w.heap.size w w' ∧ ∃ a cap, e = .returned (.slice a l.length cap) ∧ StrsAt w' a l ∧ l.length ≤ cap ∧ ∀ b off, a = some ⟨b, off, none⟩ → w.heap.size ≤ b
def mkB (x : List UInt8) : ByteArray := ⟨x.toArray⟩
theorem mkB_data (x : List UInt8) : (mkB x).data.toList = x := by simp [mkB]
theorem mkB_snoc (s : ByteArray) (x : List UInt8) (k : Nat) (h : k < s.size) : mkB x ++ s.extract k (k + 1) = mkB (x ++ [s[k]]) := by
  apply WideShapes.bytes_inj
  rw [data_append, mkB_data, mkB_data, Lib.extract_data]
  congr 1
  simp only [Nat.add_sub_cancel_left]
  rw [List.drop_eq_getElem_cons (by simpa using h)]
  simp
  rfl
theorem take_snoc (s : ByteArray) (k : Nat) (h : k < s.size) : s.data.toList.take (k + 1) = s.data.toList.take k ++ [s[k]] := by
  rw [List.take_succ_eq_append_getElem (by simpa using h)]
  rfl
theorem byte_is (s : ByteArray) (k : Nat) (h : k < s.size) (c : UInt8) (n : Int) (hn : (c.toNat : Int) = n) : (s[k] = c ∧ ((s[k].toNat : Int) == n) = true) ∨ (s[k] ≠ c ∧ ((s[k].toNat : Int) == n) = false) := by
  subst hn
  by_cases e : s[k] = c
  · exact .inl ⟨e, by simp [e]⟩
  · refine .inr ⟨e, ?_⟩
    simp only [beq_eq_false_iff_ne, ne_eq]
    intro h2
    exact e (UInt8.toNat_inj.1 (by omega))
theorem splitOn_len (c : UInt8) (l : List UInt8) : (splitOn c l).length ≤ l.length + 1 := by
  induction l with
  | nil => simp [splitOn]
  | cons b l ih =>
    simp only [splitOn]
    split
    · simp; omega
    · split
      · simp
      · rename_i x r h
        rw [h] at ih
        simp at ih ⊢; omega
theorem splitOn_mem_len (c : UInt8) (l : List UInt8) : ∀ x ∈ splitOn c l, x.length ≤ l.length := by
  induction l with
  | nil => simp [splitOn]
  | cons b l ih =>
    simp only [splitOn]
    split
    · intro x hx
      simp only [List.mem_cons] at hx
      rcases hx with rfl | hx
      · simp
      · have := ih x hx; simp; omega
    · split
      · simp
      · rename_i y r h
        rw [h] at ih
        intro x hx
        simp only [List.mem_cons] at hx
        rcases hx with rfl | hx
        · have := ih y (by simp); simp; omega
        · have := ih x (by simp [hx]); simp; omega

set_option maxRecDepth 100000 in
set_option maxHeartbeats 1000000 in
theorem words36 (s : ByteArray) (w : World) (hs : s.size ≤ 65536) : Calls Tryd.prog 36 #[.string s] w (StrsPost w (wordsB s.data.toList)) := by
  go_enter Tryd.func36, Tryd.ntmps36
  go_wp2
  have OWN0 : Hid (w.ownsRow w.heap.size 9 1 (.slice none 0 0) 0 (([] : List (List UInt8)).map (fun x => Value.string (mkB x)))) := World.ownsRow_nil w w.heap.size 9 1
  go_loopw [3, 4, 5] (fun v x i wr => ∃ (k : Nat) (o : List (List UInt8)) (y : List UInt8), k ≤ s.size ∧ i = .int .i64 k ∧ x = .string (mkB y) ∧ Hid (splitOn 32 (s.data.toList.take k) = o ++ [y]) ∧ Hid (wr.ownsRow w.heap.size 9 1 v o.length (o.map (fun x => Value.string (mkB x)))) ∧ Below w.heap.size w wr) (fun _ _ i _ => s.size - (intOf i).toNat)
  case atStart => exact ⟨0, [], [], Nat.zero_le _, rfl, rfl, rfl, OWN0.out, Below.refl _ _⟩
  case round =>
    clear OWN0
    obtain ⟨k, o, y, hk, rfl, rfl, HS, OWN, hb⟩ := hrel
    have hol : o.length ≤ 65536 := by
      have h1 := splitOn_len 32 (s.data.toList.take k)
      rw [HS.out] at h1
      simp at h1; omega
    have hyl : y.length ≤ 65536 := by
      have h1 := splitOn_mem_len 32 (s.data.toList.take k) y (by rw [HS.out]; simp)
      simp at h1; omega
    by_cases hlt : k < s.size
    · have HTK := Lib.hid (take_snoc s k hlt)
      have HSN := Lib.hid (mkB_snoc s y k hlt)
      rcases byte_is s k hlt 32 32 rfl with ⟨he, hq⟩ | ⟨he, hq⟩
      · have HE := Lib.hid he; clear he
        have OWN3 := OWN.out
        have hbs := hb.size
        generalize hY : mkB y = Y at *
        have HY := Lib.hid hY; clear hY
        obtain ⟨i0, hi, hz0, hz1, hz2⟩ := info_parts Tryd_info9
        go_wp2_with (at_builtin; refine wpList_append_own _ rfl _ _ 22 rfl w.heap.size 9 i0 (.string ⟨#[]⟩) 1 16 Tryd.underlying22 hi hz0 hz1 hz2 rfl (by decide) _ _ _ rfl (OWN3.alloc _) ⟨wr.heap.size, 0, none⟩ 1 1 [.string Y] rfl rfl ?c1 ?c2 ?c3 ?c4 ?c5 ?_)
        case c1 => exact (cell_one_new _ _ _)
        case c2 => intro u hu; simp only [List.mem_singleton] at hu; subst hu; rfl
        case c3 => unfold maxLen; omega
        case c4 => omega
        case c5 => simp; omega
        intro v' w5 hown' hgrow _
        have hb5 : Below w.heap.size w w5 := (hb.alloc hb.size _).grown hgrow (by simp; omega) (fun k hk => by have := (OWN3.lt k hk).1; omega)
        have OWN5 : Hid (w5.ownsRow w.heap.size 9 1 v' (o ++ [y]).length ((o ++ [y]).map (fun x => Value.string (mkB x)))) := by
          show World.ownsRow ..
          rw [List.map_append, List.length_append, List.map_cons, List.map_nil, HY.out]
          exact hown'
        clear hown' hgrow OWN3 hi hz0 hz1 hz2
        go_wp2
        go_roundw
        case rel =>
          refine ⟨k + 1, o ++ [y], [], by omega, by go_num, rfl, ?_, OWN5.out, hb5⟩
          show _ = _
          rw [HTK.out, HE.out, splitOn_snoc_eq, HS.out]
        case measure => simp [intOf]; omega
      · have HE := Lib.hid he; clear he
        have hys : (mkB y).size = y.length := by simp [mkB, ByteArray.size]
        have n1 : ¬ 9223372036854775807 < (mkB y).size + 1 := by omega
        go_wp2
        rw [HSN.out]
        go_wp2
        go_roundw
        case rel =>
          refine ⟨k + 1, o, y ++ [s[k]], by omega, by go_num, rfl, ?_, OWN.out, hb⟩
          show _ = _
          rw [HTK.out, splitOn_snoc_ne 32 s[k] HE.out _ _ _ HS.out]
        case measure => simp [intOf]; omega
    · obtain rfl : k = s.size := by omega
      have HW : Hid (wordsB s.data.toList = (o ++ [y]).map mkB) := by
        show _ = _
        have := HS.out
        rw [List.take_of_length_le (by simp)] at this
        unfold wordsB
        rw [this]; rfl
      have OWN3 := OWN.out
      have hbs := hb.size
      generalize hY : mkB y = Y at *
      have HY := Lib.hid hY; clear hY
      obtain ⟨i0, hi, hz0, hz1, hz2⟩ := info_parts Tryd_info9
      go_wp2_with (at_builtin; refine wpList_append_own _ rfl _ _ 22 rfl w.heap.size 9 i0 (.string ⟨#[]⟩) 1 16 Tryd.underlying22 hi hz0 hz1 hz2 rfl (by decide) _ _ _ rfl (OWN3.alloc _) ⟨wr.heap.size, 0, none⟩ 1 1 [.string Y] rfl rfl ?d1 ?d2 ?d3 ?d4 ?d5 ?_)
      case d1 => exact (cell_one_new _ _ _)
      case d2 => intro u hu; simp only [List.mem_singleton] at hu; subst hu; rfl
      case d3 => unfold maxLen; omega
      case d4 => omega
      case d5 => simp; omega
      intro v' w5 hown' hgrow _
      have hb5 : Below w.heap.size w w5 := (hb.alloc hb.size _).grown hgrow (by simp; omega) (fun k hk => by have := (OWN3.lt k hk).1; omega)
      have OWN5 : w5.ownsRow w.heap.size 9 1 v' (o ++ [y]).length (((o ++ [y]).map mkB).map Value.string) := by
        rw [List.map_map, List.map_append, List.length_append, List.map_cons, List.map_nil]
        show World.ownsRow _ _ _ _ _ _ (_ ++ [Value.string (mkB y)])
        rw [HY.out]
        exact hown'
      obtain ⟨hn, av, cv, hv, hst, hcap⟩ := owns_strs OWN5
      have HOV : Hid (∀ b off, av = some ⟨b, off, none⟩ → w.heap.size ≤ b) := fun b off e => (OWN5.lt b (by rw [hv, e]; rfl)).1
      clear hown' hgrow OWN3 OWN5 OWN hi hz0 hz1 hz2
      rw [hn] at hv hcap
      rw [← HW.out] at hst hv hcap
      rw [hv]
      have HST := Lib.hid hst; clear hst
      go_wp2
      go_ret
      exact ⟨hb5, av, cv, rfl, HST.out, hcap, HOV.out⟩

theorem ext_snoc (s : ByteArray) (f k : Nat) (y : List UInt8) (hf : f ≤ k) (h : k < s.size) (he : s.extract f k = mkB y) : s.extract f (k + 1) = mkB (y ++ [s[k]]) := by
  rw [← mkB_snoc s y k h, ← he]
  apply WideShapes.bytes_inj
  rw [data_append, Lib.extract_data, Lib.extract_data, Lib.extract_data, ← List.drop_take, ← List.drop_take, ← List.drop_take]
  rw [List.take_succ_eq_append_getElem (by simpa using h), List.drop_append_of_le_length (by simp; omega)]
  congr 1
  rw [List.drop_append_of_le_length (by simp; omega), List.drop_of_length_le (by simp; omega)]
  simp
theorem ext_nil (s : ByteArray) (f : Nat) : s.extract f f = mkB [] := by
  apply WideShapes.bytes_inj
  rw [Lib.extract_data]; simp [mkB]
def LinesPost (s : ByteArray) (w : World) (e : Ending) (w' : World) : Prop := Below w.heap.size w w' ∧ ∃ (o : List (List UInt8)) (y : List UInt8) (a : Option Addr) (cap : Nat), splitOn 10 s.data.toList = o ++ [y] ∧ e = .returned (.tuple #[.slice a o.length cap, .string (mkB y)]) ∧ StrsAt w' a (o.map mkB)

set_option maxRecDepth 100000 in
set_option maxHeartbeats 1000000 in
theorem lines35 (s : ByteArray) (w : World) (hs : s.size ≤ 65536) : Calls Tryd.prog 35 #[.string s] w (LinesPost s w) := by
  go_enter Tryd.func35, Tryd.ntmps35
  go_wp2
  have OWN0 : Hid (w.ownsRow w.heap.size 9 1 (.slice none 0 0) 0 (([] : List (List UInt8)).map (fun x => Value.string (mkB x)))) := World.ownsRow_nil w w.heap.size 9 1
  go_loopw [4, 5, 6] (fun v x i wr => ∃ (k f : Nat) (o : List (List UInt8)) (y : List UInt8), k ≤ s.size ∧ f ≤ k ∧ i = .int .i64 k ∧ x = .int .i64 f ∧ Hid (s.extract f k = mkB y) ∧ Hid (splitOn 10 (s.data.toList.take k) = o ++ [y]) ∧ Hid (wr.ownsRow w.heap.size 9 1 v o.length (o.map (fun x => Value.string (mkB x)))) ∧ Below w.heap.size w wr) (fun _ _ i _ => s.size - (intOf i).toNat)
  case atStart => exact ⟨0, 0, [], [], Nat.zero_le _, Nat.le_refl _, rfl, rfl, ext_nil s 0, rfl, OWN0.out, Below.refl _ _⟩
  case round =>
    clear OWN0
    obtain ⟨k, f, o, y, hk, hf, rfl, rfl, HX, HS, OWN, hb⟩ := hrel
    have hol : o.length ≤ 65536 := by
      have h1 := splitOn_len 10 (s.data.toList.take k)
      rw [HS.out] at h1
      simp at h1; omega
    by_cases hlt : k < s.size
    · have HTK := Lib.hid (take_snoc s k hlt)
      have HSN := Lib.hid (ext_snoc s f k y hf hlt HX.out)
      rcases byte_is s k hlt 10 10 rfl with ⟨he, hq⟩ | ⟨he, hq⟩
      · have HE := Lib.hid he; clear he
        have OWN3 := OWN.out
        have hbs := hb.size
        obtain ⟨i0, hi, hz0, hz1, hz2⟩ := info_parts Tryd_info9
        go_wp2_with (at_builtin; refine wpList_append_own _ rfl _ _ 22 rfl w.heap.size 9 i0 (.string ⟨#[]⟩) 1 16 Tryd.underlying22 hi hz0 hz1 hz2 rfl (by decide) _ _ _ rfl (OWN3.alloc _) ⟨wr.heap.size, 0, none⟩ 1 1 [.string (s.extract f k)] rfl rfl ?c1 ?c2 ?c3 ?c4 ?c5 ?_)
        case c1 => exact (cell_one_new _ _ _)
        case c2 => intro u hu; simp only [List.mem_singleton] at hu; subst hu; rfl
        case c3 => unfold maxLen; omega
        case c4 => omega
        case c5 => simp; omega
        intro v' w5 hown' hgrow _
        have hb5 : Below w.heap.size w w5 := (hb.alloc hb.size _).grown hgrow (by simp; omega) (fun k hk => by have := (OWN3.lt k hk).1; omega)
        have OWN5 : Hid (w5.ownsRow w.heap.size 9 1 v' (o ++ [y]).length ((o ++ [y]).map (fun x => Value.string (mkB x)))) := by
          show World.ownsRow ..
          rw [List.map_append, List.length_append, List.map_cons, List.map_nil, ← HX.out]
          exact hown'
        clear hown' hgrow OWN3 hi hz0 hz1 hz2
        go_wp2
        go_roundw
        case rel =>
          refine ⟨k + 1, k + 1, o ++ [y], [], by omega, by omega, by go_num, by go_num, ext_nil s _, ?_, OWN5.out, hb5⟩
          show _ = _
          rw [HTK.out, HE.out, splitOn_snoc_eq, HS.out]
        case measure => simp [intOf]; omega
      · have HE := Lib.hid he; clear he
        go_wp2
        go_roundw
        case rel =>
          refine ⟨k + 1, f, o, y ++ [s[k]], by omega, by omega, by go_num, rfl, HSN.out, ?_, OWN.out, hb⟩
          show _ = _
          rw [HTK.out, splitOn_snoc_ne 10 s[k] HE.out _ _ _ HS.out]
        case measure => simp [intOf]; omega
    · obtain rfl : k = s.size := by omega
      have HW : Hid (splitOn 10 s.data.toList = o ++ [y]) := by
        show _ = _
        have := HS.out
        rw [List.take_of_length_le (by simp)] at this
        exact this
      have OWN5 : wr.ownsRow w.heap.size 9 1 u4 o.length ((o.map mkB).map Value.string) := by
        rw [List.map_map]
        exact OWN.out
      obtain ⟨hn, av, cv, hv, hst, hcap⟩ := owns_strs OWN5
      clear OWN5 OWN
      rw [hv]
      have HST := Lib.hid hst; clear hst
      go_wp2
      go_quiet (fail)
      rw [HX.out]
      go_wp2
      go_ret2
      exact ⟨below_drewN' hb _, o, y, av, cv, HW.out, rfl, HST.out.below (below_drewN' (Below.refl _ _) _)⟩
end Go.Proofs.YtlkafolgbkobpaaDoor
