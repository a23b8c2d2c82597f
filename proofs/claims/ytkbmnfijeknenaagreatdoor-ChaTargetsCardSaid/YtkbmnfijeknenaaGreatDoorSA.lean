/-
  The reference's put: a name put into a list. (Printed by gens1.py.)
  The reference's subclasses and targets.
-/
import Derived.Test.YtkbmnfijeknenaaGreatDoorVC
import Derived.Test.YtkbmnfijeknenaaGreatDoorHB
namespace Go.Proofs.YtkbmnfijeknenaaGreatDoor
open Go.RowKit Go.Unit0 Go.AM

set_option maxRecDepth 100000 in
theorem sliceHi (a : Option Addr) (n cap k : Nat) (h : k ≤ cap) (w : World) : (Instr.slice 59 (.slice a n cap) none (some (.int .i64 (k : Int))) none).run Tryz.prog w = .ok (.slice a k cap) w := by
  have hs : (sizeOf (Tryz.prog.elem 59)).run Tryz.prog w = .ok 1 w := by kernel_rfl
  rw [run_slice_h w 59 a n cap Tryz.underlying59 .i64 (k : Int) (by omega) (by omega), hs]
  have e : a.map (fun x => x.add 0) = a := by
    cases a with
    | none => rfl
    | some x => simp [Addr.add]
  simp [Result.andThen, sliced, e]
theorem strsAt_take {w : World} {a : Option Addr} {l : List ByteArray} (h : StrsAt w a l) (n : Nat) : StrsAt w a (l.take n) := by
  intro k hk
  have hk' : k < l.length := by simp at hk; omega
  obtain ⟨b, off, ha, hc⟩ := h k hk'
  exact ⟨b, off, ha, by rw [hc]; simp⟩
set_option maxRecDepth 100000 in
set_option maxHeartbeats 8000000 in
theorem putR (l : List Str) (s : Str) (la : Option Addr) (lc : Nat) (w : World) (hs : StrsAt w la l) (hc : l.length ≤ lc) (hl : l.length ≤ 100000) :
    Calls Tryz.prog 163 #[.slice la l.length lc, .string s] w (StrsSet (fun x => x = s ∨ x ∈ l) (l.length + 1) w) := by
  have HL := Lib.hid hs
  clear hs
  go_enter Tryz.func163, Tryz.ntmps163
  go_upto_block 0 with (fail)
  go_cut [5] (fun v wx => ∃ k : Nat, k ≤ l.length ∧ v = .int .i64 k ∧ Hid (w = wx))
  case first =>
    go_wp2
    go_loop [5] (fun v => ∃ k : Nat, k ≤ l.length ∧ v = .int .i64 k) (fun v => l.length - (intOf v).toNat)
    case atStart => exact ⟨0, Nat.zero_le _, rfl⟩
    case round =>
      obtain ⟨k, hk, rfl⟩ := hrel
      by_cases hlt : k < l.length
      case neg =>
        go_wp2
        go_meet
        exact ⟨k, hk, rfl, rfl⟩
      case pos =>
        obtain ⟨b, off, he, c0⟩ := HL.out k hlt
        subst he
        generalize l[k] = x at *
        cases e2 : Op.bytesLess x.toList s.toList
        · go_wp2
          go_meet
          exact ⟨k, hk, rfl, rfl⟩
        · go_wp2
          go_round
          case rel => exact ⟨k + 1, by omega, by go_num⟩
          case measure => simp [intOf]; omega
  case rest =>
    obtain ⟨k, hk, rfl, HW⟩ := hcut
    obtain rfl := HW.out
    clear HW
    by_cases hf : ∃ hlt : k < l.length, (l[k].toList == s.toList) = true
    case pos =>
      obtain ⟨hlt, e1⟩ := hf
      obtain ⟨b, off, he, c0⟩ := HL.out k hlt
      subst he
      have HM : Hid (∀ x, x ∈ l ↔ x = s ∨ x ∈ l) := fun x => ⟨.inr, fun e => by
        rcases e with e | e
        · rw [e, ← eqB_iff.1 e1]; exact List.getElem_mem hlt
        · exact e⟩
      generalize l[k] = x at *
      go_wp2
      go_ret
      exact ⟨Below.refl _ _, l, _, lc, rfl, Nat.le_succ _, hc, HM.out, HL.out⟩
    case neg =>
      go_upto_region 4 with (fail)
      go_cut [31] (fun v wx => v = .bool false ∧ Hid (w = wx))
      case first =>
        by_cases hlt : k < l.length
        · have e1 : (l[k].toList == s.toList) = false := by
            cases hb : (l[k].toList == s.toList) with
            | false => rfl
            | true => exact absurd ⟨hlt, hb⟩ hf
          clear hf
          obtain ⟨b, off, he, c0⟩ := HL.out k hlt
          subst he
          generalize l[k] = x at *
          go_wp2
          go_meet
          exact ⟨rfl, rfl⟩
        · clear hf
          go_wp2
          go_meet
          exact ⟨rfl, rfl⟩
      case rest =>
        obtain ⟨rfl, HW⟩ := hcut
        obtain rfl := HW.out
        clear HW hf
        obtain ⟨m1, m2, hl12, hk1⟩ : ∃ m1 m2 : List Str, l = m1 ++ m2 ∧ k = m1.length := ⟨l.take k, l.drop k, (List.take_append_drop k l).symm, by simp; omega⟩
        subst hk1
        have HLN : Hid (l.length = m1.length + m2.length) := by show _ = _; rw [hl12, List.length_append]
        have hm1 : m1.length ≤ 1000000 := by have := HLN.out; omega
        have hm2 : m2.length ≤ 1000000 := by have := HLN.out; omega
        have HMEM : Hid (∀ x, x ∈ m1 ++ [s] ++ m2 ↔ x = s ∨ x ∈ l) := fun x => by
          rw [hl12]
          simp only [List.mem_append, List.mem_singleton]
          constructor
          · rintro ((h | h) | h) <;> simp [h]
          · rintro (h | h | h) <;> simp [h]
        have HA1 : Hid (StrsAt w la m1) := by
          have := strsAt_take HL.out m1.length
          rw [hl12, List.take_left'  rfl] at this
          exact this
        obtain ⟨a2, hsl, hdr⟩ := slice59l la l.length lc m1.length hk hc
        have HA2 : Hid (StrsAt w a2 m2) := by
          have := hdr w l rfl HL.out
          rw [hl12, List.drop_left' rfl] at this
          exact this
        have hd : l.length - m1.length = m2.length := by have := HLN.out; omega
        rw [hd] at hsl
        have hs1 := sliceHi la l.length lc m1.length (by omega)
        clear hdr hd hl12
        go_upto_region 6 with (fail)
        have hneW : Nonempty (WB w) := ⟨⟨w, Below.refl _ _⟩⟩
        have h0 : Below w.heap.size w w.drew := (Below.refl _ _).drew
        refine wp_region_Y (fun w' => ∃ o : WB w, w' = o.u) (by kernel_rfl) ?_
        change wpAnyY _ _ _ _ _ _ _ _ w.drew
        generalize w.drew = W0 at *
        refine wpAnyY_take 1 rfl (by kernel_rfl) (fun _ _ _ _ h => h) ⟨⟨_, h0⟩, rfl⟩ (fun K hK => ?_)
        go_simp
        refine hK _ ?_
        clear hK K
        refine wpAnyY_take 2 rfl (by kernel_rfl) (fun _ _ _ _ h => h) ⟨⟨_, h0⟩, rfl⟩ (fun K hK => ?_)
        go_simp
        refine hK _ ?_
        clear hK K
        refine wpAnyY_take 3 rfl (by kernel_rfl) (fun _ _ _ _ h => h) ⟨⟨_, h0⟩, rfl⟩ (fun K hK => ?_)
        go_simp
        refine hK _ ?_
        clear hK K
        refine wpAnyY_take 5 rfl (by kernel_rfl) (fun _ _ _ _ h => h) ⟨⟨_, h0⟩, rfl⟩ (fun K hK => ?_)
        go_simp
        refine hK _ ?_
        clear hK K
        refine wpAnyY_take 8 rfl (by kernel_rfl) (fun _ _ _ _ h => h) ⟨⟨_, h0⟩, rfl⟩ (fun K hK => ?_)
        go_simp
        refine hK _ ?_
        clear hK K
        refine wpAnyY_take 9 rfl (by kernel_rfl) (fun _ _ _ _ h => h) ⟨⟨_, h0⟩, rfl⟩ (fun K hK => ?_)
        go_simp
        refine hK _ ?_
        clear hK K
        refine wpAnyY_take 10 rfl (by kernel_rfl) (fun _ _ _ _ h => h) ⟨⟨_, h0⟩, rfl⟩ (fun K hK => ?_)
        go_simp
        refine hK _ ?_
        clear hK K
        clear hsl hs1
        refine wpAnyY_two 0 6 rfl rfl (by kernel_rfl) ?_ ?_
        · go_wp2
          have h1 : Below w.heap.size w (W0.alloc (.cells #[] 9)) := h0.trans ((one_below ..).mono h0.size)
          have OA : Hid ((W0.alloc (.cells #[] 9)).ownsRow w.heap.size 9 1 (.slice (some ⟨W0.heap.size, 0, none⟩) 0 0) ([] : List ByteArray).length (([] : List ByteArray).map Value.string)) := ⟨rfl, .inr ⟨W0.heap.size, 0, _, rfl, h0.size, blk_new .., Nat.le_refl _, Nat.zero_le _, rfl, rfl⟩⟩
          refine ⟨⟨⟨_, h1⟩, rfl⟩, ?_⟩
          generalize W0.alloc _ = W1 at *
          generalize W0.heap.size = gA at *
          refine wpAnyY_two 4 6 rfl rfl (by kernel_rfl) ?_ ?_
          · have AT := HA1.out.below h1
            refine app_strs rfl _ _ rfl w.heap.size _ [] rfl OA.out la lc m1 rfl AT (by simp) hm1 h1.size ?_
            intro v2 W2 own2 hg2
            rw [List.nil_append] at own2
            have h2 : Below w.heap.size w W2 := h1.grown hg2 h1.size (fun q hq => (OA.out.lt q hq).1)
            obtain ⟨-, oa2, oc2, rfl, -, -⟩ := owns_strs own2
            replace OA := Lib.hid own2
            clear own2 hg2 AT
            go_wp2
            refine ⟨⟨⟨_, h2⟩, rfl⟩, ?_⟩
            refine wpAnyY_one 6 rfl (by kernel_rfl) ?_
            go_wp2
            have h3 : Below w.heap.size w (W2.alloc (.cells #[.string s] 9)) := h2.trans ((one_below ..).mono h2.size)
            have BS : Hid (Blk (W2.alloc (.cells #[.string s] 9)) W2.heap.size #[.string s] 9) := blk_new ..
            replace OA := Lib.hid (owns_below OA.out (one_below W2 (.cells #[.string s] 9)))
            refine ⟨⟨⟨_, h3⟩, rfl⟩, ?_⟩
            generalize W2.alloc _ = W3 at *
            generalize W2.heap.size = gS at *
            refine wpAnyY_one 7 rfl (by kernel_rfl) ?_
            refine app_str rfl _ _ rfl w.heap.size _ m1 rfl OA.out gS s rfl BS.out hm1 h3.size ?_
            intro v4 W4 own4 hg4
            have h4 : Below w.heap.size w W4 := h3.grown hg4 h3.size (fun q hq => (OA.out.lt q hq).1)
            obtain ⟨-, oa4, oc4, rfl, -, -⟩ := owns_strs own4
            replace OA := Lib.hid own4
            clear own4 hg4
            go_wp2
            refine ⟨⟨⟨_, h4⟩, rfl⟩, ?_⟩
            refine wpAnyY_one 11 rfl (by kernel_rfl) ?_
            have AT := HA2.out.below h4
            have hm3 : (m1 ++ [s]).length ≤ 1000000 := by have := HLN.out; simp; omega
            refine app_strs rfl _ _ rfl w.heap.size _ (m1 ++ [s]) rfl OA.out a2 (lc - m1.length) m2 rfl AT hm3 hm2 h4.size ?_
            intro v5 W5 own5 hg5
            have h5 : Below w.heap.size w W5 := h4.grown hg5 h4.size (fun q hq => (OA.out.lt q hq).1)
            obtain ⟨-, oa5, oc5, rfl, -, -⟩ := owns_strs own5
            have OK := Lib.hid (owns_strs' own5)
            clear own5 hg5 AT
            go_wp2
            refine ⟨⟨⟨_, h5⟩, rfl⟩, ?_⟩
            refine wpAnyY_one 12 rfl (by kernel_rfl) ?_
            go_wp2
            refine ⟨⟨⟨_, h5⟩, rfl⟩, ?_⟩
            refine wpAnyY_done (by kernel_rfl) ?_ _
            go_wp2
            go_ret
            exact ⟨h5, m1 ++ [s] ++ m2, _, _, (by rw [show (m1 ++ [s] ++ m2).length = m1.length + (m2.length + 1) by simp] <;> rfl), by rw [List.length_append, List.length_append]; have := HLN.out; simp; omega, OK.out.1, HMEM.out, OK.out.2⟩
          · go_wp2
            have h6 : Below w.heap.size w (W1.alloc (.cells #[.string s] 9)) := h1.trans ((one_below ..).mono h1.size)
            have BS : Hid (Blk (W1.alloc (.cells #[.string s] 9)) W1.heap.size #[.string s] 9) := blk_new ..
            have hne : W1.heap.size ≠ gA := Nat.ne_of_gt (OA.out.lt gA rfl).2
            replace OA := Lib.hid (owns_below OA.out (one_below W1 (.cells #[.string s] 9)))
            refine ⟨⟨⟨_, h6⟩, rfl⟩, ?_⟩
            generalize W1.alloc _ = W6 at *
            generalize W1.heap.size = gS at *
            refine wpAnyY_one 4 rfl (by kernel_rfl) ?_
            have AT := HA1.out.below h6
            refine app_strs rfl _ _ rfl w.heap.size _ [] rfl OA.out la lc m1 rfl AT (by simp) hm1 h6.size ?_
            intro v7 W7 own7 hg7
            rw [List.nil_append] at own7
            have h7 : Below w.heap.size w W7 := h6.grown hg7 h6.size (fun q hq => (OA.out.lt q hq).1)
            replace BS := Lib.hid (BS.out.grown hg7 (fun e => hne (Option.some.inj (show some gS = some gA from e))))
            obtain ⟨-, oa7, oc7, rfl, -, -⟩ := owns_strs own7
            replace OA := Lib.hid own7
            clear own7 hg7 AT
            go_wp2
            refine ⟨⟨⟨_, h7⟩, rfl⟩, ?_⟩
            refine wpAnyY_one 7 rfl (by kernel_rfl) ?_
            refine app_str rfl _ _ rfl w.heap.size _ m1 rfl OA.out gS s rfl BS.out hm1 h7.size ?_
            intro v8 W8 own8 hg8
            have h8 : Below w.heap.size w W8 := h7.grown hg8 h7.size (fun q hq => (OA.out.lt q hq).1)
            obtain ⟨-, oa8, oc8, rfl, -, -⟩ := owns_strs own8
            replace OA := Lib.hid own8
            clear own8 hg8
            go_wp2
            refine ⟨⟨⟨_, h8⟩, rfl⟩, ?_⟩
            refine wpAnyY_one 11 rfl (by kernel_rfl) ?_
            have AT := HA2.out.below h8
            have hm3 : (m1 ++ [s]).length ≤ 1000000 := by have := HLN.out; simp; omega
            refine app_strs rfl _ _ rfl w.heap.size _ (m1 ++ [s]) rfl OA.out a2 (lc - m1.length) m2 rfl AT hm3 hm2 h8.size ?_
            intro v9 W9 own9 hg9
            have h9 : Below w.heap.size w W9 := h8.grown hg9 h8.size (fun q hq => (OA.out.lt q hq).1)
            obtain ⟨-, oa9, oc9, rfl, -, -⟩ := owns_strs own9
            have OK := Lib.hid (owns_strs' own9)
            clear own9 hg9 AT
            go_wp2
            refine ⟨⟨⟨_, h9⟩, rfl⟩, ?_⟩
            refine wpAnyY_one 12 rfl (by kernel_rfl) ?_
            go_wp2
            refine ⟨⟨⟨_, h9⟩, rfl⟩, ?_⟩
            refine wpAnyY_done (by kernel_rfl) ?_ _
            go_wp2
            go_ret
            exact ⟨h9, m1 ++ [s] ++ m2, _, _, (by rw [show (m1 ++ [s] ++ m2).length = m1.length + (m2.length + 1) by simp] <;> rfl), by rw [List.length_append, List.length_append]; have := HLN.out; simp; omega, OK.out.1, HMEM.out, OK.out.2⟩
        · go_wp2
          have h10 : Below w.heap.size w (W0.alloc (.cells #[.string s] 9)) := h0.trans ((one_below ..).mono h0.size)
          have BS : Hid (Blk (W0.alloc (.cells #[.string s] 9)) W0.heap.size #[.string s] 9) := blk_new ..
          refine ⟨⟨⟨_, h10⟩, rfl⟩, ?_⟩
          generalize W0.alloc _ = W10 at *
          generalize W0.heap.size = gS at *
          refine wpAnyY_one 0 rfl (by kernel_rfl) ?_
          go_wp2
          have h11 : Below w.heap.size w (W10.alloc (.cells #[] 9)) := h10.trans ((one_below ..).mono h10.size)
          have OA : Hid ((W10.alloc (.cells #[] 9)).ownsRow w.heap.size 9 1 (.slice (some ⟨W10.heap.size, 0, none⟩) 0 0) ([] : List ByteArray).length (([] : List ByteArray).map Value.string)) := ⟨rfl, .inr ⟨W10.heap.size, 0, _, rfl, h10.size, blk_new .., Nat.le_refl _, Nat.zero_le _, rfl, rfl⟩⟩
          have hne : gS ≠ W10.heap.size := Nat.ne_of_lt BS.out.lt
          replace BS := Lib.hid (BS.out.below (one_below W10 (.cells #[] 9)))
          refine ⟨⟨⟨_, h11⟩, rfl⟩, ?_⟩
          generalize W10.alloc _ = W11 at *
          generalize W10.heap.size = gA at *
          refine wpAnyY_one 4 rfl (by kernel_rfl) ?_
          have AT := HA1.out.below h11
          refine app_strs rfl _ _ rfl w.heap.size _ [] rfl OA.out la lc m1 rfl AT (by simp) hm1 h11.size ?_
          intro v12 W12 own12 hg12
          rw [List.nil_append] at own12
          have h12 : Below w.heap.size w W12 := h11.grown hg12 h11.size (fun q hq => (OA.out.lt q hq).1)
          replace BS := Lib.hid (BS.out.grown hg12 (fun e => hne (Option.some.inj (show some gS = some gA from e))))
          obtain ⟨-, oa12, oc12, rfl, -, -⟩ := owns_strs own12
          replace OA := Lib.hid own12
          clear own12 hg12 AT
          go_wp2
          refine ⟨⟨⟨_, h12⟩, rfl⟩, ?_⟩
          refine wpAnyY_one 7 rfl (by kernel_rfl) ?_
          refine app_str rfl _ _ rfl w.heap.size _ m1 rfl OA.out gS s rfl BS.out hm1 h12.size ?_
          intro v13 W13 own13 hg13
          have h13 : Below w.heap.size w W13 := h12.grown hg13 h12.size (fun q hq => (OA.out.lt q hq).1)
          obtain ⟨-, oa13, oc13, rfl, -, -⟩ := owns_strs own13
          replace OA := Lib.hid own13
          clear own13 hg13
          go_wp2
          refine ⟨⟨⟨_, h13⟩, rfl⟩, ?_⟩
          refine wpAnyY_one 11 rfl (by kernel_rfl) ?_
          have AT := HA2.out.below h13
          have hm3 : (m1 ++ [s]).length ≤ 1000000 := by have := HLN.out; simp; omega
          refine app_strs rfl _ _ rfl w.heap.size _ (m1 ++ [s]) rfl OA.out a2 (lc - m1.length) m2 rfl AT hm3 hm2 h13.size ?_
          intro v14 W14 own14 hg14
          have h14 : Below w.heap.size w W14 := h13.grown hg14 h13.size (fun q hq => (OA.out.lt q hq).1)
          obtain ⟨-, oa14, oc14, rfl, -, -⟩ := owns_strs own14
          have OK := Lib.hid (owns_strs' own14)
          clear own14 hg14 AT
          go_wp2
          refine ⟨⟨⟨_, h14⟩, rfl⟩, ?_⟩
          refine wpAnyY_one 12 rfl (by kernel_rfl) ?_
          go_wp2
          refine ⟨⟨⟨_, h14⟩, rfl⟩, ?_⟩
          refine wpAnyY_done (by kernel_rfl) ?_ _
          go_wp2
          go_ret
          exact ⟨h14, m1 ++ [s] ++ m2, _, _, (by rw [show (m1 ++ [s] ++ m2).length = m1.length + (m2.length + 1) by simp] <;> rfl), by rw [List.length_append, List.length_append]; have := HLN.out; simp; omega, OK.out.1, HMEM.out, OK.out.2⟩
end Go.Proofs.YtkbmnfijeknenaaGreatDoor
namespace Go.Proofs.YtkbmnfijeknenaaGreatDoor
open Go.RowKit Go.Unit0 Go.AM

def subNK (h : List Cls) (c : Str) (n : Nat) (x : Str) : Prop := ∃ (k : Nat) (hk : k < h.length), k < n ∧ h[k].name = x ∧ isSub h x c = true
theorem subNK_all (h : List Cls) (c : Str) (x : Str) : subNK h c h.length x ↔ subNS h c x := by
  constructor
  · rintro ⟨k, hk, _, e, hs⟩; exact ⟨h[k], List.getElem_mem hk, e, hs⟩
  · rintro ⟨d, hd, e, hs⟩
    obtain ⟨k, hk, rfl⟩ := List.getElem_of_mem hd
    exact ⟨k, hk, hk, e, hs⟩
theorem subNK_t {h : List Cls} {c : Str} {n : Nat} (hn : n < h.length) (e : isSub h h[n].name c = true) (x : Str) : subNK h c (n + 1) x ↔ x = h[n].name ∨ subNK h c n x := by
  constructor
  · rintro ⟨k, hk, hkn, e1, e2⟩
    by_cases hkn' : k < n
    · exact .inr ⟨k, hk, hkn', e1, e2⟩
    · obtain rfl : k = n := by omega
      exact .inl e1.symm
  · rintro (rfl | ⟨k, hk, hkn, e1, e2⟩)
    · exact ⟨n, hn, by omega, rfl, e⟩
    · exact ⟨k, hk, by omega, e1, e2⟩
theorem subNK_f {h : List Cls} {c : Str} {n : Nat} (hn : n < h.length) (e : isSub h h[n].name c = false) (x : Str) : subNK h c (n + 1) x ↔ subNK h c n x := by
  constructor
  · rintro ⟨k, hk, hkn, e1, e2⟩
    by_cases hkn' : k < n
    · exact ⟨k, hk, hkn', e1, e2⟩
    · obtain rfl : k = n := by omega
      rw [e1] at e
      rw [e] at e2
      cases e2
  · rintro ⟨k, hk, hkn, e1, e2⟩
    exact ⟨k, hk, by omega, e1, e2⟩
theorem mem_and {α : Type} {l r : List α} {P Q : α → Prop} {y : α} (h1 : ∀ x, x ∈ r ↔ x = y ∨ x ∈ l) (h2 : ∀ x, x ∈ l ↔ P x) (h3 : ∀ x, Q x ↔ x = y ∨ P x) (x : α) : x ∈ r ↔ Q x := by
  rw [h1, h2, h3]
set_option maxRecDepth 100000 in
set_option maxHeartbeats 8000000 in
theorem subsR (h : List Cls) (s : Str) (a : Option Addr) (c : Nat) (w : World) (hc : ClssAt w a h) (hl : h.length ≤ 10000) :
    Calls Tryz.prog 161 #[.agg #[.slice a h.length c], .string s] w (StrsSet (subNS h s) h.length w) := by
  have S0 : Hid (HX h a c w (w.alloc (.cells #[.slice a h.length c] 24))) := ⟨one_below .., blk_new .., hc.below (one_below ..)⟩
  have HIS : Hid (∀ (x : Str) (w1 : World), ClssAt w1 a h → Calls Tryz.prog 109 #[.agg #[.slice a h.length c], .string x, .string s] w1 (Ret w1 (.bool (isSub h x s)))) := fun x w1 h1 => isSub73 h x s a c w1 h1 (by omega)
  have HAL := Lib.hid (subNK_all h s)
  have HK0 : Hid (∀ x, x ∈ ([] : List Str) ↔ subNK h s 0 x) := fun x => ⟨fun h => (by cases h), fun ⟨k, hk, h0, _⟩ => absurd h0 (by omega)⟩
  clear hc
  generalize subNS h s = P at *
  go_enter Tryz.func161, Tryz.ntmps161
  go_upto_region 1 with (fail)
  generalize w.alloc _ = W at *
  go_wp2
  go_loopw [5, 6] (fun v i wr => ∃ (k : Nat) (out : List Str) (oa : Option Addr) (oc : Nat), k ≤ h.length ∧ out.length ≤ k ∧ out.length ≤ oc ∧ v = .slice oa out.length oc ∧ i = .int .i64 k ∧ Hid (∀ x, x ∈ out ↔ subNK h s k x) ∧ Hid (StrsAt wr oa out) ∧ Hid (HX h a c w wr)) (fun _ i _ => h.length - (intOf i).toNat)
  case atStart => exact ⟨0, [], none, 0, Nat.zero_le _, Nat.zero_le _, Nat.zero_le _, rfl, rfl, HK0.out, (fun k hk => absurd hk (by simp)), S0.out⟩
  case round =>
    clear S0 HK0
    obtain ⟨k, out, oa, oc, hk, hol, hoc, rfl, rfl, HM, HA, S⟩ := hrel
    have x0 := S.out.b1.cell 0 (by simp)
    simp only [List.getElem_toArray, List.getElem_cons_zero] at x0
    by_cases hlt : k < h.length
    case neg =>
      have HE : Hid (∀ x, x ∈ out ↔ P x) := fun x => by rw [HM.out, show k = h.length by omega]; exact HAL.out x
      have hoh : out.length ≤ h.length := by omega
      go_wp2
      go_ret
      exact ⟨S.out.hb, out, oa, oc, rfl, hoh, hoc, HE.out, HA.out⟩
    obtain ⟨b, off, fa, fc, ma, mc, he, m0, m1, m2, m3, _, _⟩ := S.out.hc k hlt
    subst he
    have HT := Lib.hid (@subNK_t h s k hlt)
    have HF := Lib.hid (@subNK_f h s k hlt)
    have HI := Lib.hid (HIS.out h[k].name)
    clear m1 m2 m3
    generalize isSub h h[k].name s = bb at *
    generalize h[k].name = nm at *
    have hne : Nonempty (WB wr) := ⟨⟨wr, Below.refl _ _⟩⟩
    have k0 : ∀ o : WB wr, o.u.cell? ⟨w.heap.size, 0, none⟩ = some (.slice (some ⟨b, off, none⟩) h.length c) := fun o => cell_below o.h x0
    have k1 : ∀ o : WB wr, o.u.cell? ⟨b, off + k * 4, none⟩ = some (.string nm) := fun o => cell_below o.h m0
    go_upto_region 5 with (fail)
    clear x0 m0
    refine wp_region_WB wr (by kernel_rfl) ?_
    repeat (go_big_quiet_step ((rename_i o; exact (HI.out _ (S.out.below o.h).hc).mono (fun _ _ h => Ret.inB h))))
    refine wpQuiet_nil ?_
    intro _ hw'
    obtain ⟨o, rfl⟩ := hw'
    have S2 := Lib.hid (S.out.below o.h)
    have HA2 := Lib.hid (HA.out.below o.h)
    have x0 := k0 o
    have m0 := k1 o
    clear k0 k1 S HA hne HI
    generalize o.u = W2 at *
    cases bb
    case false =>
      have HN : Hid (∀ x, x ∈ out ↔ subNK h s (k + 1) x) := fun x => by rw [HM.out, HF.out rfl]
      clear HT HF HM
      go_wp2
      go_roundw
      case rel => exact ⟨k + 1, out, oa, oc, by omega, by omega, hoc, rfl, by go_num, HN.out, HA2.out, S2.out⟩
      case measure => simp [intOf]; omega
    case true =>
      have HQ := Lib.hid (HT.out rfl)
      clear HT HF
      go_wp2_with (go_at_call 163; refine (putR out nm oa oc _ HA2.out hoc (by omega)).mono ?_; rintro e w3 ⟨hb3, r, ra, rc, rfl, hrl, hrc, hmem, hat⟩)
      have HN : Hid (∀ x, x ∈ r ↔ subNK h s (k + 1) x) := mem_and hmem HM.out HQ.out
      have S3 := Lib.hid (S2.out.below hb3)
      have HA3 := Lib.hid hat
      clear hmem hat hb3 S2 HA2 HM HQ x0 m0
      go_roundw
      case rel => exact ⟨k + 1, r, ra, rc, by omega, by omega, hrc, rfl, by go_num, HN.out, HA3.out, S3.out⟩
      case measure => simp [intOf]; omega
def LookW (r : Option (Str × Sgn)) (w : World) (e : Ending) (w' : World) : Prop := Below w.heap.size w w' ∧ ∃ (x s1 s2 : Str) (b1 b : Bool) (pa : Option Addr) (n pc : Nat),
  e = .returned (.tuple #[.string x, .agg #[.string s1, .bool b1, .slice pa n pc, .string s2], .bool b]) ∧ ((b = false ∧ r = none) ∨ (b = true ∧ ∃ g, r = some (x, g)))
theorem lookupRW (h : List Cls) (s m : Str) (a : Option Addr) (c : Nat) (w : World) (hc : ClssAt w a h) (hl : h.length ≤ 100000) (hm : ∀ x ∈ h, x.methods.length ≤ 100000) :
    Calls Tryz.prog 162 #[.agg #[.slice a h.length c], .string s, .string m] w (LookW (lookP h s m) w) :=
  (lookup110 h s m a c w hc hl hm).mono fun e w' ⟨hb, hr⟩ => ⟨hb, by
    rcases hr with ⟨h1, rfl⟩ | ⟨x, g, pa, pc, h1, rfl, _⟩
    · exact ⟨⟨#[]⟩, ⟨#[]⟩, ⟨#[]⟩, false, false, none, 0, 0, rfl, .inl ⟨rfl, h1⟩⟩
    · exact ⟨x, g.name, g.result, g.stat, true, pa, _, pc, rfl, .inr ⟨rfl, g, h1⟩⟩⟩
def lookNS (h : List Cls) (t : Str) (l : List Str) (x : Str) : Prop := ∃ s ∈ l, ∃ g, lookP h s t = some (x, g)
theorem lookNS_all {h : List Cls} {c t : Str} {l : List Str} (hl : ∀ x, x ∈ l ↔ subNS h c x) (x : Str) : lookNS h t l x ↔ tgtNS h c t x := by
  constructor
  · rintro ⟨s, hs, g, hg⟩; exact ⟨s, (hl s).1 hs, g, hg⟩
  · rintro ⟨s, hs, g, hg⟩; exact ⟨s, (hl s).2 hs, g, hg⟩
theorem lookNS_t {h : List Cls} {t s y : Str} {l : List Str} {g : Sgn} (e : lookP h s t = some (y, g)) (x : Str) : lookNS h t (l ++ [s]) x ↔ x = y ∨ lookNS h t l x := by
  constructor
  · rintro ⟨z, hz, g', hg⟩
    rcases List.mem_append.1 hz with hz | hz
    · exact .inr ⟨z, hz, g', hg⟩
    · rw [List.mem_singleton.1 hz, e] at hg
      cases hg
      exact .inl rfl
  · rintro (rfl | ⟨z, hz, g', hg⟩)
    · exact ⟨s, by simp, g, e⟩
    · exact ⟨z, by simp [hz], g', hg⟩
theorem lookNS_f {h : List Cls} {t s : Str} {l : List Str} (e : lookP h s t = none) (x : Str) : lookNS h t (l ++ [s]) x ↔ lookNS h t l x := by
  constructor
  · rintro ⟨z, hz, g', hg⟩
    rcases List.mem_append.1 hz with hz | hz
    · exact ⟨z, hz, g', hg⟩
    · rw [List.mem_singleton.1 hz, e] at hg
      cases hg
  · rintro ⟨z, hz, g', hg⟩
    exact ⟨z, by simp [hz], g', hg⟩
set_option maxRecDepth 100000 in
set_option maxHeartbeats 8000000 in
theorem targetsR (h : List Cls) (s t : Str) (a : Option Addr) (c : Nat) (w : World) (hc : ClssAt w a h) (hl : h.length ≤ 10000) (hm : ∀ x ∈ h, x.methods.length ≤ 100000) :
    Calls Tryz.prog 102 #[.agg #[.slice a h.length c], .string s, .string t] w (StrsSet (tgtNS h s t) h.length w) := by
  have S0 : Hid (HX h a c w (w.alloc (.cells #[.slice a h.length c] 24))) := ⟨one_below .., blk_new .., hc.below (one_below ..)⟩
  have HSB : Hid (∀ (w1 : World), ClssAt w1 a h → Calls Tryz.prog 161 #[.agg #[.slice a h.length c], .string s] w1 (StrsSet (subNS h s) h.length w1)) := fun w1 h1 => subsR h s a c w1 h1 hl
  have HLK : Hid (∀ (x : Str) (w1 : World), ClssAt w1 a h → Calls Tryz.prog 162 #[.agg #[.slice a h.length c], .string x, .string t] w1 (LookW (lookP h x t) w1)) := fun x w1 h1 => lookupRW h x t a c w1 h1 (by omega) hm
  have HAL : Hid (∀ (l : List Str), (∀ x, x ∈ l ↔ subNS h s x) → ∀ x, lookNS h t l x ↔ tgtNS h s t x) := fun l k => lookNS_all k
  clear hc hm
  generalize tgtNS h s t = P at *
  generalize subNS h s = PS at *
  go_enter Tryz.func102, Tryz.ntmps102
  go_upto_region 2 with (fail)
  generalize w.alloc _ = W at *
  have x0 := S0.out.b1.cell 0 (by simp)
  simp only [List.getElem_toArray, List.getElem_cons_zero] at x0
  go_upto_region 3 with (go_at_call 161; refine (HSB.out _ S0.out.hc).mono ?_; rintro e w1 ⟨hb1, l, la, lc, rfl, hll, hlc, hmem, hat⟩)
  have S1 := Lib.hid (S0.out.below hb1)
  have HL := Lib.hid hat
  have HALL := Lib.hid (HAL.out _ hmem)
  clear S0 x0 hb1 hat hmem HAL HSB hlc
  generalize w1 = W1 at *
  go_wp2
  go_loopw [7, 9] (fun v i wr => ∃ (k : Nat) (out : List Str) (oa : Option Addr) (oc : Nat), k ≤ l.length ∧ out.length ≤ k ∧ out.length ≤ oc ∧ v = .slice oa out.length oc ∧ i = .int .i64 k ∧ Hid (∀ x, x ∈ out ↔ lookNS h t (l.take k) x) ∧ Hid (StrsAt wr oa out) ∧ Hid (StrsAt wr la l) ∧ Hid (HX h a c w wr)) (fun _ i _ => l.length - (intOf i).toNat)
  case atStart => exact ⟨0, [], none, 0, Nat.zero_le _, Nat.zero_le _, Nat.zero_le _, rfl, rfl, (fun x => by simp [lookNS]), (fun k hk => absurd hk (by simp)), HL.out, S1.out⟩
  case round =>
    clear S1 HL
    obtain ⟨k, out, oa, oc, hk, hol, hoc, rfl, rfl, HM, HA, HL, S⟩ := hrel
    have x0 := S.out.b1.cell 0 (by simp)
    simp only [List.getElem_toArray, List.getElem_cons_zero] at x0
    by_cases hlt : k < l.length
    case neg =>
      have HE : Hid (∀ x, x ∈ out ↔ P x) := fun x => by rw [HM.out, List.take_of_length_le (by omega)]; exact HALL.out x
      have hoh : out.length ≤ h.length := by omega
      go_wp2
      go_ret
      exact ⟨S.out.hb, out, oa, oc, rfl, hoh, hoc, HE.out, HA.out⟩
    have HLC := Lib.hid HL.out
    obtain ⟨b, off, he, c0⟩ := HL.out k hlt
    subst he
    have HT : Hid (l.take (k + 1) = l.take k ++ [l[k]]) := List.take_succ_eq_append_getElem hlt
    have HQT := Lib.hid (fun (y : Str) (g : Sgn) => @lookNS_t h t l[k] y (l.take k) g)
    have HQF := Lib.hid (@lookNS_f h t l[k] (l.take k))
    rw [← HT.out] at HQT HQF
    have HI := Lib.hid (HLK.out l[k])
    generalize lookP h l[k] t = R at *
    generalize l[k] = nm at *
    go_upto_region 6 with (fail)
    go_cut [10, 12] (fun v u wx => ∃ (x : Str) (bb : Bool), v = .string x ∧ u = .bool bb ∧ Hid ((bb = false ∧ R = none) ∨ (bb = true ∧ ∃ g, R = some (x, g))) ∧ Hid (Below wr.heap.size wr wx))
    case first =>
      have hne : Nonempty (WB wr) := ⟨⟨wr, Below.refl _ _⟩⟩
      have k0 : ∀ o : WB wr, o.u.cell? ⟨w.heap.size, 0, none⟩ = some (.slice a h.length c) := fun o => cell_below o.h x0
      have k1 : ∀ o : WB wr, o.u.cell? ⟨b, off + k, none⟩ = some (.string nm) := fun o => cell_below o.h c0
      clear x0 c0
      have h0 : Below wr.heap.size wr wr.drew := (Below.refl _ _).drew
      refine wp_region_Y (fun w' => ∃ o : WB wr, w' = o.u) (by kernel_rfl) ?_
      change wpAnyY _ _ _ _ _ _ _ _ wr.drew
      generalize wr.drew = V0 at *
      refine wpAnyY_take 0 rfl (by kernel_rfl) (fun _ _ _ _ h => h) ⟨⟨_, h0⟩, rfl⟩ (fun K hK => ?_)
      go_simp
      refine hK _ ?_
      clear hK K
      refine wpAnyY_take 1 rfl (by kernel_rfl) (fun _ _ _ _ h => h) ⟨⟨_, h0⟩, rfl⟩ (fun K hK => ?_)
      go_simp
      refine hK _ ?_
      clear hK K
      refine wpAnyY_take 2 rfl (by kernel_rfl) (fun _ _ _ _ h => h) ⟨⟨_, h0⟩, rfl⟩ (fun K hK => ?_)
      go_simp
      refine hK _ ?_
      clear hK K
      refine wpAnyY_take 3 rfl (by kernel_rfl) (fun _ _ _ _ h => h) ⟨⟨_, h0⟩, rfl⟩ (fun K hK => ?_)
      go_simp
      refine hK _ ?_
      clear hK K
      refine wpAnyY_take 4 rfl (by kernel_rfl) (fun _ _ _ _ h => h) ⟨⟨_, h0⟩, rfl⟩ (fun K hK => ?_)
      go_simp
      refine hK _ ?_
      clear hK K
      refine wpAnyY_take 5 rfl (by kernel_rfl) (fun _ _ _ _ h => h) ⟨⟨_, h0⟩, rfl⟩ (fun K hK => ?_)
      go_simp
      refine hK _ ?_
      clear hK K
      refine wpAnyY_two 6 11 rfl rfl (by kernel_rfl) ?_ ?_
      · go_wp2_with fail
        refine (HI.out _ (S.out.hc.below h0)).mono ?_
        rintro e w2 ⟨hb2, x, s1, s2, b1, bb, pa, n, pc, rfl, hr⟩
        have h2 : Below wr.heap.size wr w2 := h0.trans (hb2.mono h0.size)
        have HR := Lib.hid hr
        clear hr hb2
        go_wp2
        refine ⟨⟨⟨_, h2⟩, rfl⟩, ?_⟩
        refine wpAnyY_take 7 rfl (by kernel_rfl) (fun _ _ _ _ h => h) ⟨⟨_, h2⟩, rfl⟩ (fun K hK => ?_)
        go_simp
        refine hK _ ?_
        clear hK K
        refine wpAnyY_take 8 rfl (by kernel_rfl) (fun _ _ _ _ h => h) ⟨⟨_, h2⟩, rfl⟩ (fun K hK => ?_)
        go_simp
        refine hK _ ?_
        clear hK K
        refine wpAnyY_take 9 rfl (by kernel_rfl) (fun _ _ _ _ h => h) ⟨⟨_, h2⟩, rfl⟩ (fun K hK => ?_)
        go_simp
        refine hK _ ?_
        clear hK K
        refine wpAnyY_take 10 rfl (by kernel_rfl) (fun _ _ _ _ h => h) ⟨⟨_, h2⟩, rfl⟩ (fun K hK => ?_)
        go_simp
        refine hK _ ?_
        clear hK K
        have h3 : Below wr.heap.size wr (w2.alloc (.cells #[.string ⟨#[]⟩, .bool false, .slice none 0 0, .string ⟨#[]⟩] 79)) := h2.trans ((one_below ..).mono h2.size)
        have B3 : Hid (Blk (w2.alloc (.cells #[.string ⟨#[]⟩, .bool false, .slice none 0 0, .string ⟨#[]⟩] 79)) w2.heap.size #[.string ⟨#[]⟩, .bool false, .slice none 0 0, .string ⟨#[]⟩] 79) := blk_new ..
        have h4 := below_setRow h3 h2.size #[.string s1, .bool b1, .slice pa n pc, .string s2]
        refine wpAnyY_one 11 rfl (by kernel_rfl) ?_
        go_wp2
        refine ⟨⟨⟨_, h3⟩, rfl⟩, ?_⟩
        refine wpAnyY_take 12 rfl (by kernel_rfl) (fun _ _ _ _ h => h) ⟨⟨_, h3⟩, rfl⟩ (fun K hK => ?_)
        go_simp
        refine hK _ ?_
        clear hK K
        refine wpAnyY_one 13 rfl (by kernel_rfl) ?_
        go_wp2_with (refine store114 rfl _ _ rfl w2.heap.size _ _ _ _ _ _ rfl rfl _ B3.out rfl ?_)
        refine ⟨⟨⟨_, h4⟩, rfl⟩, ?_⟩
        refine wpAnyY_one 14 rfl (by kernel_rfl) ?_
        go_wp2
        refine ⟨⟨⟨_, h4⟩, rfl⟩, ?_⟩
        refine wpAnyY_done (by kernel_rfl) ?_ _
        go_wp2
        go_meet
        exact ⟨x, bb, rfl, rfl, HR.out, h4⟩
      · go_wp2
        have h2 : Below wr.heap.size wr (V0.alloc (.cells #[.string ⟨#[]⟩, .bool false, .slice none 0 0, .string ⟨#[]⟩] 79)) := h0.trans ((one_below ..).mono h0.size)
        have B2 : Hid (Blk (V0.alloc (.cells #[.string ⟨#[]⟩, .bool false, .slice none 0 0, .string ⟨#[]⟩] 79)) V0.heap.size #[.string ⟨#[]⟩, .bool false, .slice none 0 0, .string ⟨#[]⟩] 79) := blk_new ..
        refine ⟨⟨⟨_, h2⟩, rfl⟩, ?_⟩
        refine wpAnyY_one 6 rfl (by kernel_rfl) ?_
        go_wp2_with fail
        refine (HI.out _ (S.out.hc.below h2)).mono ?_
        rintro e w2 ⟨hb2, x, s1, s2, b1, bb, pa, n, pc, rfl, hr⟩
        have h3 : Below wr.heap.size wr w2 := h2.trans (hb2.mono h2.size)
        have B3 := Lib.hid (B2.out.below hb2)
        have HR := Lib.hid hr
        clear hr hb2 B2
        have h4 := below_setRow h3 h0.size #[.string s1, .bool b1, .slice pa n pc, .string s2]
        go_wp2
        refine ⟨⟨⟨_, h3⟩, rfl⟩, ?_⟩
        refine wpAnyY_take 7 rfl (by kernel_rfl) (fun _ _ _ _ h => h) ⟨⟨_, h3⟩, rfl⟩ (fun K hK => ?_)
        go_simp
        refine hK _ ?_
        clear hK K
        refine wpAnyY_take 8 rfl (by kernel_rfl) (fun _ _ _ _ h => h) ⟨⟨_, h3⟩, rfl⟩ (fun K hK => ?_)
        go_simp
        refine hK _ ?_
        clear hK K
        refine wpAnyY_take 9 rfl (by kernel_rfl) (fun _ _ _ _ h => h) ⟨⟨_, h3⟩, rfl⟩ (fun K hK => ?_)
        go_simp
        refine hK _ ?_
        clear hK K
        refine wpAnyY_take 10 rfl (by kernel_rfl) (fun _ _ _ _ h => h) ⟨⟨_, h3⟩, rfl⟩ (fun K hK => ?_)
        go_simp
        refine hK _ ?_
        clear hK K
        refine wpAnyY_take 12 rfl (by kernel_rfl) (fun _ _ _ _ h => h) ⟨⟨_, h3⟩, rfl⟩ (fun K hK => ?_)
        go_simp
        refine hK _ ?_
        clear hK K
        refine wpAnyY_one 13 rfl (by kernel_rfl) ?_
        go_wp2_with (refine store114 rfl _ _ rfl V0.heap.size _ _ _ _ _ _ rfl rfl _ B3.out rfl ?_)
        refine ⟨⟨⟨_, h4⟩, rfl⟩, ?_⟩
        refine wpAnyY_one 14 rfl (by kernel_rfl) ?_
        go_wp2
        refine ⟨⟨⟨_, h4⟩, rfl⟩, ?_⟩
        refine wpAnyY_done (by kernel_rfl) ?_ _
        go_wp2
        go_meet
        exact ⟨x, bb, rfl, rfl, HR.out, h4⟩
    case rest =>
      obtain ⟨x, bb, rfl, rfl, HR, hbx⟩ := hcut
      have S2 := Lib.hid (S.out.below hbx.out)
      have HA2 := Lib.hid (HA.out.below hbx.out)
      have HL2 := Lib.hid (HLC.out.below hbx.out)
      clear hbx S HA HL HLC x0 c0 HI
      cases bb
      case false =>
        have HN : Hid (∀ x, x ∈ out ↔ lookNS h t (l.take (k + 1)) x) := fun y => by
          rcases HR.out with ⟨_, e⟩ | ⟨e, _⟩
          · rw [HM.out, HQF.out e]
          · cases e
        clear HR HQT HQF HM
        go_wp2
        go_roundw
        case rel => exact ⟨k + 1, out, oa, oc, by omega, by omega, hoc, rfl, by go_num, HN.out, HA2.out, HL2.out, S2.out⟩
        case measure => simp [intOf]; omega
      case true =>
        have HQ : Hid (∀ y, lookNS h t (l.take (k + 1)) y ↔ y = x ∨ lookNS h t (l.take k) y) := by
          rcases HR.out with ⟨e, _⟩ | ⟨_, g, e⟩
          · cases e
          · exact HQT.out x g e
        clear HR HQT HQF
        go_wp2_with (go_at_call 163; refine (putR out x oa oc _ HA2.out hoc (by omega)).mono ?_; rintro e w3 ⟨hb3, r, ra, rc, rfl, hrl, hrc, hmem, hat⟩)
        have HN : Hid (∀ x, x ∈ r ↔ lookNS h t (l.take (k + 1)) x) := mem_and hmem HM.out HQ.out
        have S3 := Lib.hid (S2.out.below hb3)
        have HA3 := Lib.hid hat
        have HL3 := Lib.hid (HL2.out.below hb3)
        clear hmem hat hb3 S2 HA2 HL2 HM HQ
        go_roundw
        case rel => exact ⟨k + 1, r, ra, rc, by omega, by omega, hrc, rfl, by go_num, HN.out, HA3.out, HL3.out, S3.out⟩
        case measure => simp [intOf]; omega
end Go.Proofs.YtkbmnfijeknenaaGreatDoor
