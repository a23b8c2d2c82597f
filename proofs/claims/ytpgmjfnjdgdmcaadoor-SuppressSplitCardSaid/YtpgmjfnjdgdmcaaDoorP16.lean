import Derived.Test.YtpgmjfnjdgdmcaaDoorP15
namespace Go.Proofs.YtpgmjfnjdgdmcaaDoor
open Go.RowKit Go.Sort

theorem first_unique {c : UInt8} : ∀ {a a' r r' : List UInt8}, a ++ c :: r = a' ++ c :: r' → c ∉ a → c ∉ a' → a = a' ∧ r = r'
  | [], [], _, _, h, _, _ => by simpa using h
  | [], x :: a', _, _, h, _, h2 => by
    simp only [List.nil_append, List.cons_append, List.cons.injEq] at h
    exact absurd (by rw [h.1]; simp) h2
  | x :: a, [], _, _, h, h1, _ => by
    simp only [List.nil_append, List.cons_append, List.cons.injEq] at h
    exact absurd (by rw [h.1]; simp) h1
  | x :: a, y :: a', r, r', h, h1, h2 => by
    simp only [List.cons_append, List.cons.injEq] at h
    obtain ⟨e1, e2⟩ := first_unique h.2 (fun e => h1 (by simp [e])) (fun e => h2 (by simp [e]))
    exact ⟨by rw [h.1, e1], e2⟩
theorem cut_at {c : UInt8} {a r : List UInt8} (h : c ∉ a) : Lib.cut (a ++ c :: r) [c] = (a, r, true) := by
  rcases cut_index c (a ++ c :: r) with ⟨h1, _⟩ | ⟨a', r', e, h2, _, h4⟩
  · rcases index_one c (a ++ c :: r) with ⟨_, h2⟩ | ⟨a', r', _, _, h3⟩
    · exact absurd (by simp) h2
    · rw [h1] at h3; omega
  · obtain ⟨rfl, rfl⟩ := first_unique e h h2
    exact h4
theorem cut_no {c : UInt8} {l : List UInt8} (h : c ∉ l) : Lib.cut l [c] = (l, [], false) := by
  rcases cut_index c l with ⟨_, h2⟩ | ⟨a, r, rfl, _⟩
  · exact h2
  · exact absurd (by simp) h
theorem mkB_get (l : List UInt8) (k : Nat) (_h : k < (mkB l).size) (h' : k < l.length) : (mkB l)[k] = l[k] := by
  simp [ByteArray.getElem_eq_getElem_data, mkB]
theorem mkB_ext (l : List UInt8) (f k : Nat) : (mkB l).extract f k = mkB ((l.take k).drop f) := by
  apply WideShapes.bytes_inj
  rw [Lib.extract_data, mkB_data, mkB_data, ← List.drop_take]
theorem byte_is (s : ByteArray) (k : Nat) (h : k < s.size) (c : UInt8) (n : Int) (hn : (c.toNat : Int) = n) : (s[k] = c ∧ ((s[k].toNat : Int) == n) = true) ∨ (s[k] ≠ c ∧ ((s[k].toNat : Int) == n) = false) := by
  subst hn
  by_cases e : s[k] = c
  · exact .inl ⟨e, by simp [e]⟩
  · refine .inr ⟨e, ?_⟩
    simp only [beq_eq_false_iff_ne, ne_eq]
    intro h2
    exact e (UInt8.toNat_inj.1 (by omega))
def WordPost (l : List UInt8) (w : World) (e : Ending) (w' : World) : Prop := Below w.heap.size w w' ∧ e = .returned (.tuple #[.string (mkB (Lib.cut l [32]).1), .string (mkB (Lib.cut l [32]).2.1), .bool (Lib.cut l [32]).2.2])

set_option maxRecDepth 100000 in
set_option maxHeartbeats 1000000 in
theorem word64 (l : List UInt8) (w : World) (hl : l.length ≤ 65536) : Calls Tryd.prog 64 #[.string (mkB l)] w (WordPost l w) := by
  have hz := mkB_size l
  have hz' : (mkB l).size ≤ 65536 := by omega
  have HZ := Lib.hid hz; clear hz
  go_enter Tryd.func64, Tryd.ntmps64
  go_wp2
  go_loop [5] (fun i => ∃ k : Nat, k ≤ (mkB l).size ∧ i = .int .i64 k ∧ Hid ((32 : UInt8) ∉ l.take k)) (fun i => (mkB l).size - (intOf i).toNat)
  case atStart => exact ⟨0, Nat.zero_le _, rfl, by show (32 : UInt8) ∉ l.take 0; simp⟩
  case round =>
    obtain ⟨k, hk, rfl, HI⟩ := hrel
    by_cases hlt : k < (mkB l).size
    · have hlt' : k < l.length := by rw [← HZ.out]; exact hlt
      have hget := mkB_get l k hlt hlt'
      have hsucc : l.take (k + 1) = l.take k ++ [l[k]] := List.take_succ_eq_append_getElem hlt'
      have HGET := Lib.hid hget; clear hget
      have HSUC := Lib.hid hsucc; clear hsucc
      rcases byte_is (mkB l) k hlt 32 32 rfl with ⟨he, hq⟩ | ⟨he, hq⟩
      · have HC : Hid (Lib.cut l [32] = (l.take k, l.drop (k + 1), true)) := by
          show _ = _
          have hk32 : l[k] = 32 := HGET.out.symm.trans he
          have e : l = l.take k ++ 32 :: l.drop (k + 1) := by
            rw [← hk32, ← List.drop_eq_getElem_cons hlt', List.take_append_drop]
          conv => lhs; rw [e]
          exact cut_at HI.out
        have HX1 : Hid ((mkB l).extract 0 k = mkB (l.take k)) := by show _ = _; rw [mkB_ext]; rfl
        have HX2 : Hid ((mkB l).extract (k + 1) (mkB l).size = mkB (l.drop (k + 1))) := by show _ = _; rw [mkB_ext, HZ.out, List.take_of_length_le (Nat.le_refl _)]
        clear he
        go_wp2
        go_quiet (fail)
        rw [HX1.out, HX2.out]
        go_wp2
        go_ret3
        exact ⟨below_drewN' (Below.refl _ _) _, by rw [HC.out]; rfl⟩
      · have HE := Lib.hid he; clear he
        go_wp2
        go_round
        case rel =>
          refine ⟨k + 1, by omega, by go_num, ?_⟩
          show (32 : UInt8) ∉ l.take (k + 1)
          rw [HSUC.out, List.mem_append, List.mem_singleton]
          rintro (h | h)
          · exact HI.out h
          · exact HE.out (HGET.out.trans h.symm)
        case measure => simp [intOf]; omega
    · have HC : Hid (Lib.cut l [32] = (l, [], false)) := by
        show _ = _
        refine cut_no ?_
        have := HI.out
        rw [List.take_of_length_le (by rw [← HZ.out]; omega)] at this
        exact this
      go_wp2
      go_ret3
      exact ⟨Below.refl _ _, by rw [HC.out]; rfl⟩
theorem unst (x : List UInt8) : unstar x = if x = [42] then ⟨#[]⟩ else mkB x := rfl
theorem none65 (x : List UInt8) (w : World) : Calls Tryd.prog 65 #[.string (mkB x)] w (Same w (.string (unstar x))) := by
  have hl := mkB_toList x
  by_cases h : x = [42]
  · have HF : Hid (unstar x = ⟨#[]⟩) := by show _ = _; rw [unst, if_pos h]
    have e : ((mkB x).toList == [42]) = true := by rw [hl]; simp [h]
    clear h hl
    go_enter Tryd.func65, Tryd.ntmps65
    go_wp2
    go_ret
    exact ⟨by rw [HF.out]; rfl, rfl⟩
  · have HF : Hid (unstar x = mkB x) := by show _ = _; rw [unst, if_neg h]
    have e : ((mkB x).toList == [42]) = false := by rw [hl]; simpa using h
    clear h hl
    go_enter Tryd.func65, Tryd.ntmps65
    go_wp2
    go_ret
    exact ⟨by rw [HF.out]; rfl, rfl⟩
/-- the word of a kind -/
def kindW (k : Int) : ByteArray := if k = 1 then ⟨#[117, 110, 115, 101, 116]⟩ else if k = 2 then ⟨#[115, 116, 97, 116, 101]⟩ else if k = 3 then ⟨#[116, 97, 105, 110, 116]⟩ else if k = 4 then ⟨#[98, 114, 97, 110, 99, 104]⟩ else ⟨#[42]⟩
theorem kind34 (k : Int) (w : World) : Calls Tryd.prog 34 #[.int .i64 k] w (Same w (.string (kindW k))) := by
  have HF : Hid (kindW k = if k = 1 then ⟨#[117, 110, 115, 101, 116]⟩ else if k = 2 then ⟨#[115, 116, 97, 116, 101]⟩ else if k = 3 then ⟨#[116, 97, 105, 110, 116]⟩ else if k = 4 then ⟨#[98, 114, 97, 110, 99, 104]⟩ else ⟨#[42]⟩) := rfl
  by_cases h1 : k = 1
  · have t1 : (k == 1) = true := by simp [h1]
    rw [if_pos h1] at HF
    clear h1
    go_enter Tryd.func34, Tryd.ntmps34
    go_wp2
    go_ret
    exact ⟨by rw [HF.out]; rfl, rfl⟩
  have t1 : (k == 1) = false := by simpa using h1
  rw [if_neg h1] at HF
  by_cases h2 : k = 2
  · have t2 : (k == 2) = true := by simp [h2]
    rw [if_pos h2] at HF
    clear h2
    go_enter Tryd.func34, Tryd.ntmps34
    go_wp2
    go_ret
    exact ⟨by rw [HF.out]; rfl, rfl⟩
  have t2 : (k == 2) = false := by simpa using h2
  rw [if_neg h2] at HF
  by_cases h3 : k = 3
  · have t3 : (k == 3) = true := by simp [h3]
    rw [if_pos h3] at HF
    clear h3
    go_enter Tryd.func34, Tryd.ntmps34
    go_wp2
    go_ret
    exact ⟨by rw [HF.out]; rfl, rfl⟩
  have t3 : (k == 3) = false := by simpa using h3
  rw [if_neg h3] at HF
  by_cases h4 : k = 4
  · have t4 : (k == 4) = true := by simp [h4]
    rw [if_pos h4] at HF
    clear h4
    go_enter Tryd.func34, Tryd.ntmps34
    go_wp2
    go_ret
    exact ⟨by rw [HF.out]; rfl, rfl⟩
  have t4 : (k == 4) = false := by simpa using h4
  rw [if_neg h4] at HF
  clear h1 h2 h3 h4
  go_enter Tryd.func34, Tryd.ntmps34
  go_wp2
  go_ret
  exact ⟨by rw [HF.out]; rfl, rfl⟩
end Go.Proofs.YtpgmjfnjdgdmcaaDoor
