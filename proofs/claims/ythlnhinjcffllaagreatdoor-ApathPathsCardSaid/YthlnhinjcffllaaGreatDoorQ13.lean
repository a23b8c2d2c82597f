/-
  Extend of paths, program and reference.
-/
import Derived.Test.YthlnhinjcffllaaGreatDoorQ12
namespace Go.Proofs.YthlnhinjcffllaaGreatDoor
open Go.RowKit

theorem owns_ne {w : World} {base : Nat} {e : TypeId} {s n : Nat} {v : Value} {xs : List Value} (h : w.ownsRow base e s v n xs) {g : Nat} {cs : Array Value} {t : TypeId} {fr : Nat × Nat} (hg : w.heap[g]? = some (.cells cs t fr)) (hne : t ≠ e) : some g ≠ v.ownBlock := by
  rcases h.2 with ⟨rfl, _⟩ | ⟨g', cap, cur, rfl, _, hh, _⟩
  · simp [Value.ownBlock]
  · simp only [Value.ownBlock, ne_eq, Option.some.injEq]
    rintro rfl
    rw [hg] at hh
    simp only [Option.some.injEq, Obj.cells.injEq] at hh
    exact hne hh.2.1
theorem grown_row (w : World) (g : Nat) (cs : Array Value) : w.grownBy (w.setRow g cs) (some g) :=
  ⟨rfl, rfl, rfl, by simp, fun k _ hne => setRow_other w g k cs (fun e => hne (by rw [e]))⟩
theorem grown_set (w : World) (g i : Nat) (v : Value) : w.grownBy (w.setCell ⟨g, i, none⟩ v) (some g) := by
  refine ⟨rfl, rfl, rfl, by simp [World.setCell], fun k hk hne => ?_⟩
  simp only [World.setCell, Array.getElem?_modify]
  rw [if_neg (fun e => hne (by rw [e]))]
/-- append of one string, which lies in a block of its own, to a row of one's own -/
theorem app_str {ops : Array Oper} {rest : List Oper} {o : Oper} {a : Act} {Q : Exit → Act → World → Prop} {w : World} (hgd : o.guard = none) (s x : Operand)
    (ho : o.op = .call { callee := .builtin .append, args := #[s, x], argTypes := #[22, 22] })
    (base : Nat) (v : Value) (l : List ByteArray) (hs : a.eval s = v) (hown : w.ownsRow base 9 1 v l.length (l.map Value.string))
    (g : Nat) (y : ByteArray) (hx : a.eval x = .slice (some ⟨g, 0, none⟩) 1 1) (hg : Blk w g #[.string y] 9)
    (hn : l.length ≤ 1000000) (hbase : base ≤ w.heap.size)
    (h : ∀ v' w', w'.ownsRow base 9 1 v' (l ++ [y]).length ((l ++ [y]).map Value.string) → w.grownBy w' v.ownBlock → wpList Tryz.prog ops Q rest (a.put o.dst v') w') : wpList Tryz.prog ops Q (o :: rest) a w := by
  obtain ⟨i0, hi, hz0, hz1, hz2⟩ := info_parts info9
  refine wpList_append_own w hgd s x 22 ho base 9 i0 (.string ⟨#[]⟩) 1 16 Tryz.underlying22 hi hz0 hz1 hz2 rfl (by decide) v l.length (l.map Value.string) hs hown ⟨g, 0, none⟩ 1 1 [.string y] hx rfl ?_ (by intro u hu; rw [List.mem_singleton.1 hu]; rfl) (by unfold maxLen; omega) (by omega) hbase ?_
  · intro j u hu
    rw [addr_add, Nat.zero_add, cell_of_row _ _ _ _ _ _ hg]
    simpa using hu
  · intro v' w' h1 h2 _
    refine h v' w' ?_ h2
    rw [List.map_append, List.length_append]
    exact h1
/-- the block is none of the first n -/
def Fr (b : Option Addr) (n : Nat) : Prop := ∀ g o, b = some ⟨g, o, none⟩ → n ≤ g
/-- what Extend returns -/
def ExtPost (p : Pth) (f : ByteArray) (w : World) (e : Ending) (w' : World) : Prop := Below w.heap.size w w' ∧
  ((extE p f ≠ 0 ∧ e = .returned (.tuple #[pV zeroP none 0, .int .i64 (extE p f)])) ∨
   (extE p f = 0 ∧ ∃ b d, e = .returned (.tuple #[pV (extP p f) b d, .int .i64 0]) ∧ StrsAt w' b (extP p f).fs ∧ (extP p f).fs.length ≤ d ∧ Fr b w.heap.size))
theorem pV_zero : pV zeroP none 0 = .agg #[.int .i64 0, .int .i64 0, .slice none 0 0, .bool false] := rfl
theorem results_c2' {fn : Func} {p t1 : Tmp} (h : fn.results = #[.cell p 24, .tmp t1]) (tmps : Array Value) (w : World) (g : Nat) (v0 v1 v2 v3 : Value) (v : Value)
    (hp : tmps.getD p undef = .pointer (some ⟨g, 0, none⟩)) (h1 : tmps.getD t1 undef = v) (hg : Blk w g #[v0, v1, v2, v3] 24) :
    (results fn tmps).run Tryz.prog w = .ok (.tuple #[.agg #[v0, v1, v2, v3], v]) w :=
  results_c2 h tmps w g _ _ v hp h1 hg Tryz.underlying24 rfl (by kernel_rfl)

theorem owns_strs' {w : World} {base n d : Nat} {b : Option Addr} {l : List ByteArray} (h : w.ownsRow base 9 1 (.slice b n d) n (l.map Value.string)) : n ≤ d ∧ StrsAt w b l := by
  obtain ⟨_, a, cap, he, h1, h2⟩ := owns_strs h
  cases he
  exact ⟨h1, h2⟩
theorem owns_fr {w : World} {base n d m : Nat} {b : Option Addr} {xs : List Value} (h : w.ownsRow base 9 1 (.slice b n d) n xs) (hm : m ≤ base) : Fr b m := by
  intro g o e
  subst e
  have := (h.lt g rfl).1
  omega
theorem owns_below {w w' : World} {base e s n : Nat} {v : Value} {xs : List Value} (h : w.ownsRow base e s v n xs) (hb : Below w.heap.size w w') : w'.ownsRow base e s v n xs :=
  h.kept ⟨hb.os, hb.tape, hb.output, hb.size, fun k hk _ => hb.block k hk⟩ (row := none) (by cases hv : Value.ownBlock _ <;> simp)
theorem owns_row {w : World} {base n : Nat} {v : Value} {xs : List Value} (h : w.ownsRow base 9 1 v n xs) {g : Nat} {cs : Array Value} (hg : Blk w g cs 24) (cs' : Array Value) : (w.setRow g cs').ownsRow base 9 1 v n xs :=
  h.kept (grown_row w g cs') (.inr (Ne.symm (owns_ne h hg (by decide))))
theorem owns_set {w : World} {base n : Nat} {v : Value} {xs : List Value} (h : w.ownsRow base 9 1 v n xs) {g : Nat} {cs : Array Value} (hg : Blk w g cs 24) (i : Nat) (u : Value) : (w.setCell ⟨g, i, none⟩ u).ownsRow base 9 1 v n xs :=
  h.kept (grown_set w g i u) (.inr (Ne.symm (owns_ne h hg (by decide))))

set_option maxRecDepth 100000 in
set_option maxHeartbeats 4000000 in
theorem extend10 (p : Pth) (f : ByteArray) (a : Option Addr) (c : Nat) (w : World) (hk : KW w) (hs : StrsAt w a p.fs) : Calls Tryz.prog 10 #[pV p a c, .string f] w (ExtPost p f w) := by
  unfold pV
  have HB0 := Lib.hid (two_below w (.cells #[.int .i64 p.root, .int .i64 p.n, .slice a p.fs.length c, .bool p.star] 24) (.cells #[.int .i64 0, .int .i64 0, .slice none 0 0, .bool false] 24))
  have HS := Lib.hid (hs.below HB0.out); clear hs
  have HK := Lib.hid (hk.below HB0.out); clear hk
  obtain ⟨W, hW⟩ : ∃ W, W = (w.alloc (.cells #[.int .i64 p.root, .int .i64 p.n, .slice a p.fs.length c, .bool p.star] 24)).alloc (.cells #[.int .i64 0, .int .i64 0, .slice none 0 0, .bool false] 24) := ⟨_, rfl⟩
  have C1 : Hid (Blk W w.heap.size #[.int .i64 p.root, .int .i64 p.n, .slice a p.fs.length c, .bool p.star] 24) := by rw [hW]; exact (blk_new ..).below (one_below ..)
  have C2 : Hid (Blk W (w.heap.size + 1) #[.int .i64 0, .int .i64 0, .slice none 0 0, .bool false] 24) := by rw [hW]; exact blk_new2 ..
  rw [← hW] at HB0 HS HK
  go_enter Tryz.func10, Tryz.ntmps10
  go_upto_region 1 with (fail)
  rw [← hW]
  clear hW
  obtain ⟨x0, x1, x2, x3⟩ := C1.out.four
  go_wp2_with fail
  refine (check12 p a c _ HK.out HS.out).mono ?_
  rintro e w1 ⟨rfl, hb⟩
  have HB1 := Lib.hid (HB0.out.trans (hb.mono HB0.out.size))
  have HS1 := Lib.hid (HS.out.below hb)
  have HK1 := Lib.hid (HK.out.below hb)
  have D1 := Lib.hid (C1.out.below hb)
  have D2 := Lib.hid (C2.out.below hb)
  clear hb HB0 HS HK C1 C2 x0 x1 x2 x3
  by_cases he : chkE p = 0
  case neg =>
    have HE : Hid (extE p f = chkE p) := by show _ = _; unfold extE; rw [if_pos he]
    have HN := Lib.hid he
    have t1 : (chkE p != 0) = true := by simpa using he
    clear he
    go_wp2_with (refine store24 rfl _ _ rfl (w.heap.size + 1) _ _ _ _ _ _ rfl rfl _ D2.out rfl ?_)
    have E2 := D2.out.setRow #[.int .i64 0, .int .i64 0, .slice none 0 0, .bool false]
    refine bodyPost_ret (v := .tuple #[pV zeroP none 0, .int .i64 (chkE p)]) (results_c2' Tryz.results10 _ _ (w.heap.size + 1) _ _ _ _ _ rfl rfl E2) rfl ?_
    exact ⟨below_setRow HB1.out (by omega) _, .inl ⟨by rw [HE.out]; exact HN.out, by rw [HE.out]⟩⟩
  have HC := Lib.hid he
  have t1 : (chkE p != 0) = false := by simp [he]
  clear he
  have hl2 : p.fs.length ≤ 2 := (chkE_ok.1 HC.out).2.2.2.1
  cases hi : identB f
  case false =>
    have HE : Hid (extE p f = 5) := by show _ = _; unfold extE; rw [if_neg (by simpa using HC.out), if_neg (by simp [hi])]
    go_wp2_with (first | (go_at_call 24; refine (ident24 _ _ HK1.out).mono ?_; rintro e w' ⟨rfl, rfl⟩) | (refine store24 rfl _ _ rfl (w.heap.size + 1) _ _ _ _ _ _ rfl rfl _ D2.out rfl ?_))
    have E2 := D2.out.setRow #[.int .i64 0, .int .i64 0, .slice none 0 0, .bool false]
    refine bodyPost_ret (v := .tuple #[pV zeroP none 0, .int .i64 5]) (results_c2' Tryz.results10 _ _ (w.heap.size + 1) _ _ _ _ _ rfl rfl E2) rfl ?_
    exact ⟨below_setRow HB1.out (by omega) _, .inl ⟨by rw [HE.out]; omega, by rw [HE.out]⟩⟩
  have HE : Hid (extE p f = 0) := by show _ = _; unfold extE; rw [if_neg (by simpa using HC.out), if_pos hi]
  obtain ⟨x0, x1, x2, x3⟩ := D1.out.four
  go_wp2_with (go_at_call 24; refine (ident24 _ _ HK1.out).mono ?_; rintro e w' ⟨rfl, rfl⟩)
  refine (dup25 p a c _ HS1.out (by omega)).mono ?_
  rintro e w2 ⟨hb, b, d, rfl, hown⟩
  have HB2 := Lib.hid (HB1.out.trans (hb.mono HB1.out.size))
  have HOWN2 := Lib.hid hown
  have F2 := Lib.hid (D2.out.below hb)
  have hs12 := hb.size
  clear hb hown x0 x1 x2 x3 D1 D2 HS1 HK1
  have B3 : Hid (Blk (w2.alloc (.cells #[.int .i64 0, .int .i64 0, .slice none 0 0, .bool false] 24)) w2.heap.size #[.int .i64 0, .int .i64 0, .slice none 0 0, .bool false] 24) := blk_new ..
  go_upto_block 0 with (refine store24 rfl _ _ rfl w2.heap.size _ _ _ _ _ _ rfl rfl _ B3.out rfl ?_)
  have hlt : w.heap.size + 1 < w2.heap.size := F2.out.lt
  have hb3 := one_below w2 (.cells #[.int .i64 0, .int .i64 0, .slice none 0 0, .bool false] 24)
  have R4 := Lib.hid (B3.out.setRow #[.int .i64 p.root, .int .i64 p.n, .slice b p.fs.length d, .bool p.star])
  have F4 := Lib.hid ((F2.out.below hb3).setRow_ne (g' := w2.heap.size) (by omega) #[.int .i64 p.root, .int .i64 p.n, .slice b p.fs.length d, .bool p.star])
  have O4 := Lib.hid (owns_row (owns_below HOWN2.out hb3) B3.out #[.int .i64 p.root, .int .i64 p.n, .slice b p.fs.length d, .bool p.star])
  have HB4 := Lib.hid (below_setRow (HB2.out.trans (hb3.mono HB2.out.size)) (show w.heap.size ≤ w2.heap.size by omega) #[.int .i64 p.root, .int .i64 p.n, .slice b p.fs.length d, .bool p.star])
  have hsz1 := HB1.out.size
  have hsz4 : w1.heap.size ≤ ((w2.alloc (.cells #[.int .i64 0, .int .i64 0, .slice none 0 0, .bool false] 24)).setRow w2.heap.size #[.int .i64 p.root, .int .i64 p.n, .slice b p.fs.length d, .bool p.star]).heap.size := by simp; omega
  clear hs12 hb3 B3 F2 HOWN2 HB2
  generalize (w2.alloc (.cells #[.int .i64 0, .int .i64 0, .slice none 0 0, .bool false] 24)).setRow w2.heap.size #[.int .i64 p.root, .int .i64 p.n, .slice b p.fs.length d, .bool p.star] = W4 at *
  obtain ⟨g, hg⟩ : ∃ g, g = w2.heap.size := ⟨_, rfl⟩
  rw [← hg] at R4 hlt
  rw [← hg]
  clear hg
  obtain ⟨y0, y1, y2, y3⟩ := R4.out.four
  cases hst : p.star
  case true =>
    have HX : Hid (extP p f = p) := by show _ = _; unfold extP; rw [if_pos hst]
    rw [hst] at R4 y3
    go_wp2_with (first | (refine wload24 rfl _ rfl g _ rfl R4.out rfl ?_) | (refine store24 rfl _ _ rfl (w.heap.size + 1) _ _ _ _ _ _ rfl rfl _ F4.out rfl ?_))
    have E6 := F4.out.setRow #[.int .i64 p.root, .int .i64 p.n, .slice b p.fs.length d, .bool true]
    obtain ⟨o1, o2⟩ := owns_strs' (owns_row O4.out F4.out #[.int .i64 p.root, .int .i64 p.n, .slice b p.fs.length d, .bool true])
    refine bodyPost_ret (v := .tuple #[.agg #[.int .i64 p.root, .int .i64 p.n, .slice b p.fs.length d, .bool true], .int .i64 0]) (results_c2' Tryz.results10 _ _ (w.heap.size + 1) _ _ _ _ _ rfl rfl E6) rfl ?_
    exact ⟨below_setRow HB4.out (by omega) _, .inr ⟨HE.out, b, d, by rw [HX.out]; unfold pV; rw [hst], by rw [HX.out]; exact o2, by rw [HX.out]; exact o1, owns_fr O4.out hsz1⟩⟩
  case false =>
    rw [hst] at R4 y3
    by_cases hlen : p.fs.length < 2
    · have HX : Hid (extP p f = ⟨p.root, p.n, p.fs ++ [f], false⟩) := by show _ = _; unfold extP; rw [if_neg (by simp [hst]), if_pos hlen, hst]
      have d1 : decide ((p.fs.length : Int) < 2) = true := by simp; omega
      have OA := Lib.hid (O4.out.alloc (.cells #[.string f] 9))
      have BA : Hid (Blk (W4.alloc (.cells #[.string f] 9)) W4.heap.size #[.string f] 9) := blk_new ..
      have RA := Lib.hid (R4.out.below (one_below W4 (.cells #[.string f] 9)))
      have FA := Lib.hid (F4.out.below (one_below W4 (.cells #[.string f] 9)))
      have HA := Lib.hid (HB4.out.alloc HB4.out.size (.cells #[.string f] 9))
      go_upto_block 1 with (at_builtin; refine app_str rfl _ _ rfl w1.heap.size _ p.fs rfl OA.out W4.heap.size f rfl BA.out (by omega) (by simp; omega) ?_)
      intro v' w5 hown hgrow
      have R5 := Lib.hid (RA.out.grown hgrow (owns_ne OA.out RA.out (by decide)))
      have F5 := Lib.hid (FA.out.grown hgrow (owns_ne OA.out FA.out (by decide)))
      have HB5 := Lib.hid (HA.out.grown hgrow HA.out.size (fun k hk => by have := (OA.out.lt k hk).1; omega))
      have hown' : w5.ownsRow w1.heap.size 9 1 v' (p.fs ++ [f]).length ((p.fs ++ [f]).map Value.string) := by simpa using hown
      obtain ⟨_, b', d', hv, hle, hat⟩ := owns_strs hown'
      rw [List.length_append, List.length_singleton] at hv hle
      subst hv
      have O5 := Lib.hid hown'
      clear hown hgrow hown' hat OA BA RA FA HA O4 R4 F4 HB4 y0 y1 y2 y3
      obtain ⟨y0, y1, y2, y3⟩ := R5.out.four
      have f2 := R5.out.free 2
      have R6 : Hid (Blk (w5.setCell ⟨g, 2, none⟩ (.slice b' (p.fs.length + 1) d')) g #[.int .i64 p.root, .int .i64 p.n, .slice b' (p.fs.length + 1) d', .bool false] 24) := by
        have := R5.out.set 2 (.slice b' (p.fs.length + 1) d')
        show Blk _ _ _ _
        simpa using this
      have F6 : Hid (Blk (w5.setCell ⟨g, 2, none⟩ (.slice b' (p.fs.length + 1) d')) (w.heap.size + 1) #[.int .i64 0, .int .i64 0, .slice none 0 0, .bool false] 24) := F5.out.other (by omega) 2 _
      go_wp2_with (first | (refine wload24 rfl _ rfl g _ rfl R6.out rfl ?_) | (refine store24 rfl _ _ rfl (w.heap.size + 1) _ _ _ _ _ _ rfl rfl _ F6.out rfl ?_))
      have E6 := F6.out.setRow #[.int .i64 p.root, .int .i64 p.n, .slice b' (p.fs.length + 1) d', .bool false]
      obtain ⟨_, q1, q2, q3, q4, q5⟩ := owns_strs (owns_row (owns_set O5.out R5.out 2 (.slice b' (p.fs.length + 1) d')) F6.out #[.int .i64 p.root, .int .i64 p.n, .slice b' (p.fs.length + 1) d', .bool false])
      rw [List.length_append, List.length_singleton] at q3
      cases q3
      refine bodyPost_ret (v := .tuple #[.agg #[.int .i64 p.root, .int .i64 p.n, .slice b' (p.fs.length + 1) d', .bool false], .int .i64 0]) (results_c2' Tryz.results10 _ _ (w.heap.size + 1) _ _ _ _ _ rfl rfl E6) rfl ?_
      exact ⟨below_setRow (HB5.out.setCell (show w.heap.size ≤ g by omega) _) (by omega) _, .inr ⟨HE.out, b', d', by rw [HX.out]; unfold pV; simp, by rw [HX.out]; exact q5, by rw [HX.out]; simpa using hle, owns_fr (n := p.fs.length + 1) (by simpa using O5.out) hsz1⟩⟩
    · have HX : Hid (extP p f = ⟨p.root, p.n, p.fs, true⟩) := by show _ = _; unfold extP; rw [if_neg (by simp [hst]), if_neg hlen]
      have d1 : decide ((p.fs.length : Int) < 2) = false := by simp; omega
      have f3 := R4.out.free 3
      have R6 : Hid (Blk (W4.setCell ⟨g, 3, none⟩ (.bool true)) g #[.int .i64 p.root, .int .i64 p.n, .slice b p.fs.length d, .bool true] 24) := by
        have := R4.out.set 3 (.bool true)
        show Blk _ _ _ _
        simpa using this
      have F6 : Hid (Blk (W4.setCell ⟨g, 3, none⟩ (.bool true)) (w.heap.size + 1) #[.int .i64 0, .int .i64 0, .slice none 0 0, .bool false] 24) := F4.out.other (by omega) 3 _
      go_wp2_with (first | (refine wload24 rfl _ rfl g _ rfl R6.out rfl ?_) | (refine store24 rfl _ _ rfl (w.heap.size + 1) _ _ _ _ _ _ rfl rfl _ F6.out rfl ?_))
      have E6 := F6.out.setRow #[.int .i64 p.root, .int .i64 p.n, .slice b p.fs.length d, .bool true]
      obtain ⟨o1, o2⟩ := owns_strs' (owns_row (owns_set O4.out R4.out 3 (.bool true)) F6.out #[.int .i64 p.root, .int .i64 p.n, .slice b p.fs.length d, .bool true])
      refine bodyPost_ret (v := .tuple #[.agg #[.int .i64 p.root, .int .i64 p.n, .slice b p.fs.length d, .bool true], .int .i64 0]) (results_c2' Tryz.results10 _ _ (w.heap.size + 1) _ _ _ _ _ rfl rfl E6) rfl ?_
      exact ⟨below_setRow (HB4.out.setCell (show w.heap.size ≤ g by omega) _) (by omega) _, .inr ⟨HE.out, b, d, by rw [HX.out]; unfold pV; rfl, by rw [HX.out]; exact o2, by rw [HX.out]; exact o1, owns_fr O4.out hsz1⟩⟩
end Go.Proofs.YthlnhinjcffllaaGreatDoor
