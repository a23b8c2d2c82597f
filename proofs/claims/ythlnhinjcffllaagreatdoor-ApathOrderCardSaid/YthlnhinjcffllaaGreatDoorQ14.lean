/-
  The reference's Extend.
-/
import Derived.Test.YthlnhinjcffllaaGreatDoorQ13
import Derived.Laws.AppendOwnNone
namespace Go.Proofs.YthlnhinjcffllaaGreatDoor
open Go.RowKit

/-- append of strings to a row of one's own -/
theorem app_strs {ops : Array Oper} {rest : List Oper} {o : Oper} {a : Act} {Q : Exit → Act → World → Prop} {w : World} (hgd : o.guard = none) (s x : Operand)
    (ho : o.op = .call { callee := .builtin .append, args := #[s, x], argTypes := #[22, 22] })
    (base : Nat) (v : Value) (l : List ByteArray) (hs : a.eval s = v) (hown : w.ownsRow base 9 1 v l.length (l.map Value.string))
    (ad : Option Addr) (c : Nat) (m : List ByteArray) (hx : a.eval x = .slice ad m.length c) (hat : StrsAt w ad m)
    (hn : l.length ≤ 1000000) (hm : m.length ≤ 1000000) (hbase : base ≤ w.heap.size)
    (h : ∀ v' w', w'.ownsRow base 9 1 v' (l ++ m).length ((l ++ m).map Value.string) → w.grownBy w' v.ownBlock → wpList Tryz.prog ops Q rest (a.put o.dst v') w') : wpList Tryz.prog ops Q (o :: rest) a w := by
  obtain ⟨i0, hi, hz0, hz1, hz2⟩ := info_parts info9
  cases ad with
  | none =>
    have hm0 : m = [] := by
      cases m with
      | nil => rfl
      | cons y m => obtain ⟨_, _, he, _⟩ := hat 0 (by simp); cases he
    subst hm0
    refine wpList_plain hgd fun K hK => ?_
    have hrun : ∀ ty, (Builtin.append_ #[22, 22] ty #[v, .slice none 0 c]).run Tryz.prog w = .ok v w := fun ty => by
      rcases hown.2 with ⟨rfl, _⟩ | ⟨g, cap, cur, rfl, _, _, hnc, _⟩
      · simp [Builtin.append_, run_underlying Tryz.underlying22, sizeOf, typeInfo, hi, Builtin.lenOf, Builtin.firstCells]
      · simp [Builtin.append_, run_underlying Tryz.underlying22, sizeOf, typeInfo, hi, Builtin.lenOf, Builtin.firstCells, hnc, storeCells]
    unfold Oper.wp
    simp [execOp, ho, resolve, invoke, builtin, hs, hx, hrun, Result.andThen]
    exact hK _ _ (h v w (by simpa using hown) (World.grownBy.refl w _))
  | some adr =>
    refine wpList_append_own w hgd s x 22 ho base 9 i0 (.string ⟨#[]⟩) 1 16 Tryz.underlying22 hi hz0 hz1 hz2 rfl (by decide) v l.length (l.map Value.string) hs hown adr m.length c (m.map Value.string) hx (by simp) ?_ (by intro u hu; obtain ⟨y, _, rfl⟩ := List.mem_map.1 hu; rfl) (by unfold maxLen; omega) (by omega) hbase ?_
    · intro j u hu
      obtain ⟨hj, rfl⟩ := List.getElem?_eq_some_iff.1 hu
      rw [List.length_map] at hj
      obtain ⟨b, off, he, hc⟩ := hat j hj
      cases he
      rw [addr_add, hc]
      simp
    · intro v' w' h1 h2 _
      refine h v' w' ?_ h2
      rw [List.map_append, List.length_append]
      exact h1

set_option maxRecDepth 100000 in
set_option maxHeartbeats 4000000 in
theorem extend11 (p : Pth) (f : ByteArray) (a : Option Addr) (c : Nat) (w : World) (hs : StrsAt w a p.fs) : Calls Tryz.prog 11 #[pV p a c, .string f] w (ExtPost p f w) := by
  unfold pV
  have HB0 := Lib.hid (two_below w (.cells #[.int .i64 p.root, .int .i64 p.n, .slice a p.fs.length c, .bool p.star] 24) (.cells #[.int .i64 0, .int .i64 0, .slice none 0 0, .bool false] 24))
  have HS := Lib.hid (hs.below HB0.out); clear hs
  obtain ⟨W, hW⟩ : ∃ W, W = (w.alloc (.cells #[.int .i64 p.root, .int .i64 p.n, .slice a p.fs.length c, .bool p.star] 24)).alloc (.cells #[.int .i64 0, .int .i64 0, .slice none 0 0, .bool false] 24) := ⟨_, rfl⟩
  have C1 : Hid (Blk W w.heap.size #[.int .i64 p.root, .int .i64 p.n, .slice a p.fs.length c, .bool p.star] 24) := by rw [hW]; exact (blk_new ..).below (one_below ..)
  have C2 : Hid (Blk W (w.heap.size + 1) #[.int .i64 0, .int .i64 0, .slice none 0 0, .bool false] 24) := by rw [hW]; exact blk_new2 ..
  rw [← hW] at HB0 HS
  go_enter Tryz.func11, Tryz.ntmps11
  go_upto_region 1 with (fail)
  rw [← hW]
  clear hW
  obtain ⟨x0, x1, x2, x3⟩ := C1.out.four
  go_wp2_with fail
  refine (check13 p a c _ HS.out).mono ?_
  rintro e w1 ⟨rfl, hb⟩
  have HB1 := Lib.hid (HB0.out.trans (hb.mono HB0.out.size))
  have HS1 := Lib.hid (HS.out.below hb)
  have D1 := Lib.hid (C1.out.below hb)
  have D2 := Lib.hid (C2.out.below hb)
  clear hb HB0 HS C1 C2 x0 x1 x2 x3
  by_cases he : chkE p = 0
  case neg =>
    have HE : Hid (extE p f = chkE p) := by show _ = _; unfold extE; rw [if_pos he]
    have HN := Lib.hid he
    have t1 : (chkE p != 0) = true := by simpa using he
    clear he
    go_wp2_with (refine store24 rfl _ _ rfl (w.heap.size + 1) _ _ _ _ _ _ rfl rfl _ D2.out rfl ?_)
    have E2 := D2.out.setRow #[.int .i64 0, .int .i64 0, .slice none 0 0, .bool false]
    refine bodyPost_ret (v := .tuple #[pV zeroP none 0, .int .i64 (chkE p)]) (results_c2' Tryz.results11 _ _ (w.heap.size + 1) _ _ _ _ _ rfl rfl E2) rfl ?_
    exact ⟨below_setRow HB1.out (by omega) _, .inl ⟨by rw [HE.out]; exact HN.out, by rw [HE.out]⟩⟩
  have HC := Lib.hid he
  have t1 : (chkE p != 0) = false := by simp [he]
  clear he
  have hl2 : p.fs.length ≤ 2 := (chkE_ok.1 HC.out).2.2.2.1
  go_wp2_with fail
  refine (ident26 f w1).mono ?_
  rintro e w2 ⟨rfl, hb⟩
  have HB2 := Lib.hid (HB1.out.trans (hb.mono HB1.out.size))
  have HS2 := Lib.hid (HS1.out.below hb)
  have F1 := Lib.hid (D1.out.below hb)
  have F2 := Lib.hid (D2.out.below hb)
  clear hb HB1 HS1 D1 D2
  cases hi : identB f
  case false =>
    have HE : Hid (extE p f = 5) := by show _ = _; unfold extE; rw [if_neg (by simpa using HC.out), if_neg (by simp [hi])]
    go_wp2_with (refine store24 rfl _ _ rfl (w.heap.size + 1) _ _ _ _ _ _ rfl rfl _ F2.out rfl ?_)
    have E2 := F2.out.setRow #[.int .i64 0, .int .i64 0, .slice none 0 0, .bool false]
    refine bodyPost_ret (v := .tuple #[pV zeroP none 0, .int .i64 5]) (results_c2' Tryz.results11 _ _ (w.heap.size + 1) _ _ _ _ _ rfl rfl E2) rfl ?_
    exact ⟨below_setRow HB2.out (by omega) _, .inl ⟨by rw [HE.out]; omega, by rw [HE.out]⟩⟩
  have HE : Hid (extE p f = 0) := by show _ = _; unfold extE; rw [if_neg (by simpa using HC.out), if_pos hi]
  obtain ⟨x0, x1, x2, x3⟩ := F1.out.four
  obtain ⟨s0, hs0⟩ : ∃ s0 : Bool, s0 = p.star := ⟨_, rfl⟩
  rw [← hs0] at x3
  have HS0 := Lib.hid hs0; clear hs0
  obtain ⟨st, hst⟩ : ∃ st : Bool, st = (s0 || decide (p.fs.length = 2)) := ⟨_, rfl⟩
  have HST := Lib.hid hst; clear hst
  have hlt : w.heap.size + 1 < w2.heap.size := F2.out.lt
  have B3 : Hid (Blk (w2.alloc (.cells #[.int .i64 0, .int .i64 0, .slice none 0 0, .bool false] 24)) w2.heap.size #[.int .i64 0, .int .i64 0, .slice none 0 0, .bool false] 24) := blk_new ..
  have hb3 := Lib.hid (one_below w2 (.cells #[.int .i64 0, .int .i64 0, .slice none 0 0, .bool false] 24))
  go_upto_region 6 with (fail)
  go_cut [7] (fun s wx => s = .pointer (some ⟨w2.heap.size, 0, none⟩) ∧ wx = (w2.alloc (.cells #[.int .i64 0, .int .i64 0, .slice none 0 0, .bool false] 24)).setRow w2.heap.size #[.int .i64 p.root, .int .i64 p.n, .slice none 0 0, .bool st])
  case first =>
    clear HS0
    cases s0
    case true =>
      go_wp2_with (refine store24 rfl _ _ rfl w2.heap.size _ _ _ _ _ _ rfl rfl _ B3.out rfl ?_)
      go_frame
      go_meet
      exact ⟨rfl, by rw [HST.out]; simp⟩
    case false =>
      by_cases hl : p.fs.length = 2
      · have d1 : ((p.fs.length : Int) == 2) = true := by simp [hl]
        have HL := Lib.hid hl; clear hl
        go_wp2_with (refine store24 rfl _ _ rfl w2.heap.size _ _ _ _ _ _ rfl rfl _ B3.out rfl ?_)
        go_frame
        go_meet
        exact ⟨rfl, by rw [HST.out]; simp [HL.out]⟩
      · have d1 : ((p.fs.length : Int) == 2) = false := by simp; omega
        have HL := Lib.hid hl; clear hl
        go_wp2_with (refine store24 rfl _ _ rfl w2.heap.size _ _ _ _ _ _ rfl rfl _ B3.out rfl ?_)
        go_frame
        go_meet
        exact ⟨rfl, by rw [HST.out]; simp [HL.out]⟩
  case rest =>
    obtain ⟨rfl, rfl⟩ := hcut
    have hz2 := HB2.out.size
    have R4 := Lib.hid (B3.out.setRow #[.int .i64 p.root, .int .i64 p.n, .slice none 0 0, .bool st])
    have F4 := Lib.hid ((F2.out.below hb3.out).setRow_ne (g' := w2.heap.size) (by omega) #[.int .i64 p.root, .int .i64 p.n, .slice none 0 0, .bool st])
    have G4 := Lib.hid ((F1.out.below hb3.out).setRow_ne (g' := w2.heap.size) (by omega) #[.int .i64 p.root, .int .i64 p.n, .slice none 0 0, .bool st])
    have S4 : Hid (StrsAt ((w2.alloc (.cells #[.int .i64 0, .int .i64 0, .slice none 0 0, .bool false] 24)).setRow w2.heap.size #[.int .i64 p.root, .int .i64 p.n, .slice none 0 0, .bool st]) a p.fs) := HS2.out.below (below_setRow hb3.out (Nat.le_refl _) _)
    have HB4 := Lib.hid (below_setRow (HB2.out.trans (hb3.out.mono HB2.out.size)) (show w.heap.size ≤ w2.heap.size by omega) #[.int .i64 p.root, .int .i64 p.n, .slice none 0 0, .bool st])
    clear hb3 B3 F2 F1 HS2 HB2 x0 x1 x2 x3
    generalize (w2.alloc (.cells #[.int .i64 0, .int .i64 0, .slice none 0 0, .bool false] 24)).setRow w2.heap.size #[.int .i64 p.root, .int .i64 p.n, .slice none 0 0, .bool st] = W4 at *
    obtain ⟨g, hg⟩ : ∃ g, g = w2.heap.size := ⟨_, rfl⟩
    rw [← hg] at R4 hlt hz2
    rw [← hg]
    clear hg
    obtain ⟨y0, y1, y2, y3⟩ := R4.out.four
    obtain ⟨x0, x1, x2, x3⟩ := G4.out.four
    have O0 : Hid (W4.ownsRow w.heap.size 9 1 (.slice none 0 0) ([] : List ByteArray).length (([] : List ByteArray).map Value.string)) := World.ownsRow_nil _ _ _ _
    have hz4 := HB4.out.size
    go_wp2_with (at_builtin; refine app_strs rfl _ _ rfl w.heap.size _ [] rfl O0.out a c p.fs rfl S4.out (by simp) (by omega) hz4 ?_)
    intro v' w5 hown hgrow
    have R5 := Lib.hid (R4.out.grown hgrow (owns_ne O0.out R4.out (by decide)))
    have F5 := Lib.hid (F4.out.grown hgrow (owns_ne O0.out F4.out (by decide)))
    have HB5 := Lib.hid (HB4.out.grown hgrow HB4.out.size (fun k hk => by simp [Value.ownBlock] at hk))
    have hown' : w5.ownsRow w.heap.size 9 1 v' p.fs.length (p.fs.map Value.string) := by simpa using hown
    obtain ⟨_, b, d, hv, hle, _⟩ := owns_strs hown'
    subst hv
    have O5 := Lib.hid hown'
    clear hown hgrow hown' O0 R4 F4 G4 S4 HB4 x0 x1 x2 x3 y0 y1 y2 y3
    obtain ⟨y0, y1, y2, y3⟩ := R5.out.four
    have f2 := R5.out.free 2
    have R6 : Hid (Blk (w5.setCell ⟨g, 2, none⟩ (.slice b p.fs.length d)) g #[.int .i64 p.root, .int .i64 p.n, .slice b p.fs.length d, .bool st] 24) := by
      have := R5.out.set 2 (.slice b p.fs.length d)
      show Blk _ _ _ _
      simpa using this
    have F6 : Hid (Blk (w5.setCell ⟨g, 2, none⟩ (.slice b p.fs.length d)) (w.heap.size + 1) #[.int .i64 0, .int .i64 0, .slice none 0 0, .bool false] 24) := F5.out.other (by omega) 2 _
    have O6 := Lib.hid (owns_set O5.out R5.out 2 (.slice b p.fs.length d))
    have HB6 := Lib.hid (HB5.out.setCell (p := ⟨g, 2, none⟩) (show w.heap.size ≤ g by omega) (.slice b p.fs.length d))
    go_upto_region 8 with (fail)
    clear y0 y1 y2 y3 f2 R5 F5 O5 HB5 hle
    generalize w5.setCell ⟨g, 2, none⟩ (.slice b p.fs.length d) = W6 at *
    obtain ⟨y0, y1, y2, y3⟩ := R6.out.four
    cases st
    case true =>
      have HX : Hid (extP p f = ⟨p.root, p.n, p.fs, true⟩) := by
        show _ = _
        have h1 := HST.out
        rw [HS0.out] at h1
        unfold extP
        cases hps : p.star with
        | true => rw [if_pos rfl]; cases p; simp only at hps; subst hps; rfl
        | false =>
          rw [hps] at h1
          have : p.fs.length = 2 := by simpa using h1.symm
          rw [if_neg (by simp), if_neg (by omega)]
      go_wp2_with (first | (refine wload24 rfl _ rfl g _ rfl R6.out rfl ?_) | (refine store24 rfl _ _ rfl (w.heap.size + 1) _ _ _ _ _ _ rfl rfl _ F6.out rfl ?_))
      have E6 := F6.out.setRow #[.int .i64 p.root, .int .i64 p.n, .slice b p.fs.length d, .bool true]
      obtain ⟨o1, o2⟩ := owns_strs' (owns_row O6.out F6.out #[.int .i64 p.root, .int .i64 p.n, .slice b p.fs.length d, .bool true])
      refine bodyPost_ret (v := .tuple #[.agg #[.int .i64 p.root, .int .i64 p.n, .slice b p.fs.length d, .bool true], .int .i64 0]) (results_c2' Tryz.results11 _ _ (w.heap.size + 1) _ _ _ _ _ rfl rfl E6) rfl ?_
      exact ⟨below_setRow HB6.out (by omega) _, .inr ⟨HE.out, b, d, by rw [HX.out]; unfold pV; rfl, by rw [HX.out]; exact o2, by rw [HX.out]; exact o1, owns_fr O6.out (Nat.le_refl _)⟩⟩
    case false =>
      have hsf : p.star = false ∧ p.fs.length < 2 := by
        have h1 := HST.out
        rw [HS0.out] at h1
        have h2 := h1.symm
        rw [Bool.or_eq_false_iff, decide_eq_false_iff_not] at h2
        exact ⟨h2.1, by omega⟩
      have HX : Hid (extP p f = ⟨p.root, p.n, p.fs ++ [f], false⟩) := by show _ = _; unfold extP; rw [if_neg (by simp [hsf.1]), if_pos hsf.2, hsf.1]
      clear hsf
      have hz6 := HB6.out.size
      have OA := Lib.hid (O6.out.alloc (.cells #[.string f] 9))
      have BA : Hid (Blk (W6.alloc (.cells #[.string f] 9)) W6.heap.size #[.string f] 9) := blk_new ..
      have RA := Lib.hid (R6.out.below (one_below W6 (.cells #[.string f] 9)))
      have FA := Lib.hid (F6.out.below (one_below W6 (.cells #[.string f] 9)))
      have HA := Lib.hid (HB6.out.alloc HB6.out.size (.cells #[.string f] 9))
      go_wp2_with (at_builtin; refine app_str rfl _ _ rfl w.heap.size _ p.fs rfl OA.out W6.heap.size f rfl BA.out (by omega) (by simp; omega) ?_)
      intro v' w7 hown hgrow
      have R7 := Lib.hid (RA.out.grown hgrow (owns_ne OA.out RA.out (by decide)))
      have F7 := Lib.hid (FA.out.grown hgrow (owns_ne OA.out FA.out (by decide)))
      have HB7 := Lib.hid (HA.out.grown hgrow HA.out.size (fun k hk => (OA.out.lt k hk).1))
      have hown' : w7.ownsRow w.heap.size 9 1 v' (p.fs ++ [f]).length ((p.fs ++ [f]).map Value.string) := by simpa using hown
      obtain ⟨_, b', d', hv, hle, hat⟩ := owns_strs hown'
      rw [List.length_append, List.length_singleton] at hv hle
      subst hv
      have O7 := Lib.hid hown'
      clear hown hgrow hown' hat OA BA RA FA HA O6 R6 F6 HB6 y0 y1 y2 y3
      obtain ⟨y0, y1, y2, y3⟩ := R7.out.four
      have f2 := R7.out.free 2
      have R8 : Hid (Blk (w7.setCell ⟨g, 2, none⟩ (.slice b' (p.fs.length + 1) d')) g #[.int .i64 p.root, .int .i64 p.n, .slice b' (p.fs.length + 1) d', .bool false] 24) := by
        have := R7.out.set 2 (.slice b' (p.fs.length + 1) d')
        show Blk _ _ _ _
        simpa using this
      have F8 : Hid (Blk (w7.setCell ⟨g, 2, none⟩ (.slice b' (p.fs.length + 1) d')) (w.heap.size + 1) #[.int .i64 0, .int .i64 0, .slice none 0 0, .bool false] 24) := F7.out.other (by omega) 2 _
      go_wp2_with (first | (refine wload24 rfl _ rfl g _ rfl R8.out rfl ?_) | (refine store24 rfl _ _ rfl (w.heap.size + 1) _ _ _ _ _ _ rfl rfl _ F8.out rfl ?_))
      have E6 := F8.out.setRow #[.int .i64 p.root, .int .i64 p.n, .slice b' (p.fs.length + 1) d', .bool false]
      obtain ⟨_, q1, q2, q3, q4, q5⟩ := owns_strs (owns_row (owns_set O7.out R7.out 2 (.slice b' (p.fs.length + 1) d')) F8.out #[.int .i64 p.root, .int .i64 p.n, .slice b' (p.fs.length + 1) d', .bool false])
      rw [List.length_append, List.length_singleton] at q3
      cases q3
      refine bodyPost_ret (v := .tuple #[.agg #[.int .i64 p.root, .int .i64 p.n, .slice b' (p.fs.length + 1) d', .bool false], .int .i64 0]) (results_c2' Tryz.results11 _ _ (w.heap.size + 1) _ _ _ _ _ rfl rfl E6) rfl ?_
      exact ⟨below_setRow (HB7.out.setCell (show w.heap.size ≤ g by omega) _) (by omega) _, .inr ⟨HE.out, b', d', by rw [HX.out]; unfold pV; simp, by rw [HX.out]; exact q5, by rw [HX.out]; simpa using hle, owns_fr (n := p.fs.length + 1) (by simpa using O7.out) (Nat.le_refl _)⟩⟩
end Go.Proofs.YthlnhinjcffllaaGreatDoor
