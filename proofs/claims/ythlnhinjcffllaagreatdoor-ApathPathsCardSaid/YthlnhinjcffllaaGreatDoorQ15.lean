/-
  Replace of paths, program.
-/
import Derived.Test.YthlnhinjcffllaaGreatDoorQ14
namespace Go.Proofs.YthlnhinjcffllaaGreatDoor
open Go.RowKit

set_option maxRecDepth 100000 in
theorem slice22l (a : Option Addr) (n cap m : Nat) (hm : m ≤ n) (hc : n ≤ cap) : ∃ a', (∀ w : World, (Instr.slice 22 (.slice a n cap) (some (.int .i64 (m : Int))) none none).run Tryz.prog w = .ok (.slice a' (n - m) (cap - m)) w) ∧ ∀ (w : World) (l : List ByteArray), l.length = n → StrsAt w a l → StrsAt w a' (l.drop m) := by
  refine ⟨if cap = m then a else a.map (·.add m), fun w => ?_, fun w l hl h => ?_⟩
  · have hs : (sizeOf (Tryz.prog.elem 22)).run Tryz.prog w = .ok 1 w := by kernel_rfl
    rw [run_slice_l w 22 a n cap Tryz.underlying22 .i64 (m : Int) (by omega) (by omega), hs]
    simp [Result.andThen, sliced]
  · intro k hk
    rw [List.length_drop] at hk
    obtain ⟨b, off, rfl, hcell⟩ := h (m + k) (by omega)
    refine ⟨b, off + m, ?_, ?_⟩
    · rw [if_neg (by omega)]
      simp [addr_add]
    · rw [Nat.add_assoc, hcell, List.getElem_drop]

/-- three paths, boxed, and the block of the result, in a later world -/
structure Three (w wr : World) (p q r : Pth) (a b c : Option Addr) (k l m : Nat) : Prop where
  hb : Below w.heap.size w wr
  kw : KW wr
  sa : StrsAt wr a p.fs
  sb : StrsAt wr b q.fs
  sc : StrsAt wr c r.fs
  c1 : Blk wr w.heap.size #[.int .i64 p.root, .int .i64 p.n, .slice a p.fs.length k, .bool p.star] 24
  c2 : Blk wr (w.heap.size + 1) #[.int .i64 q.root, .int .i64 q.n, .slice b q.fs.length l, .bool q.star] 24
  c3 : Blk wr (w.heap.size + 1 + 1) #[.int .i64 r.root, .int .i64 r.n, .slice c r.fs.length m, .bool r.star] 24
section
variable {w wr w' : World} {p q r : Pth} {a b c : Option Addr} {k l m : Nat}
theorem Three.below (h : Three w wr p q r a b c k l m) (hb : Below wr.heap.size wr w') : Three w w' p q r a b c k l m :=
  ⟨h.hb.trans (hb.mono h.hb.size), h.kw.below hb, h.sa.below hb, h.sb.below hb, h.sc.below hb, h.c1.below hb, h.c2.below hb, h.c3.below hb⟩
/-- the world is as it was below the block of the result -/
theorem Three.upto (h : Three w wr p q r a b c k l m) (hn : Below (w.heap.size + 1 + 1 + 1) wr w') (ha : StrsAt w a p.fs) (hb : StrsAt w b q.fs) (hc : StrsAt w c r.fs) (hk : KW w) : Three w w' p q r a b c k l m := by
  have hb' : Below w.heap.size w w' := h.hb.trans (hn.mono (by omega))
  refine ⟨hb', hk.below hb', ha.below hb', hb.below hb', hc.below hb', ?_, ?_, ?_⟩
  · unfold Blk; rw [hn.block _ (by omega)]; exact h.c1
  · unfold Blk; rw [hn.block _ (by omega)]; exact h.c2
  · unfold Blk; rw [hn.block _ (by omega)]; exact h.c3
end
theorem three_new (w : World) (p q r : Pth) (a b c : Option Addr) (k l m : Nat) (hk : KW w) (ha : StrsAt w a p.fs) (hb : StrsAt w b q.fs) (hc : StrsAt w c r.fs) : Three w (((w.alloc (.cells #[.int .i64 p.root, .int .i64 p.n, .slice a p.fs.length k, .bool p.star] 24)).alloc (.cells #[.int .i64 q.root, .int .i64 q.n, .slice b q.fs.length l, .bool q.star] 24)).alloc (.cells #[.int .i64 r.root, .int .i64 r.n, .slice c r.fs.length m, .bool r.star] 24)) p q r a b c k l m :=
  ⟨three_below .., hk.below (three_below ..), ha.below (three_below ..), hb.below (three_below ..), hc.below (three_below ..), (blk_new ..).below (two_below ..), (blk_new2 ..).below (one_below ..), by have := blk_new ((w.alloc (.cells #[.int .i64 p.root, .int .i64 p.n, .slice a p.fs.length k, .bool p.star] 24)).alloc (.cells #[.int .i64 q.root, .int .i64 q.n, .slice b q.fs.length l, .bool q.star] 24)) #[.int .i64 r.root, .int .i64 r.n, .slice c r.fs.length m, .bool r.star] 24; simpa using this⟩
/-- what Replace returns -/
def RepPost (p a b : Pth) (w : World) (e : Ending) (w' : World) : Prop := Below w.heap.size w w' ∧
  ((repP p a b = none ∧ e = .returned (.tuple #[pV zeroP none 0, .bool false])) ∨
   ∃ q, repP p a b = some q ∧ ∃ s d, e = .returned (.tuple #[pV q s d, .bool true]) ∧ StrsAt w' s q.fs ∧ q.fs.length ≤ d)

theorem StrsAt.setRow {w : World} {a : Option Addr} {l : List ByteArray} {n g : Nat} (h : StrsAt w a l) (hf : Fr a n) (hg : g < n) (cs : Array Value) : StrsAt (w.setRow g cs) a l := by
  intro k hk
  obtain ⟨b, off, rfl, hc⟩ := h k hk
  have := hf b off rfl
  exact ⟨b, off, rfl, by rw [cell_setRow_other w g cs _ (show b ≠ g by omega)]; exact hc⟩
theorem StrsAt.setCell {w : World} {a : Option Addr} {l : List ByteArray} {n g : Nat} (h : StrsAt w a l) (hf : Fr a n) (hg : g < n) (i : Nat) (v : Value) : StrsAt (w.setCell ⟨g, i, none⟩ v) a l := by
  intro k hk
  obtain ⟨b, off, rfl, hc⟩ := h k hk
  have := hf b off rfl
  refine ⟨b, off, rfl, ?_⟩
  have hb : (w.setCell ⟨g, i, none⟩ v).heap[b]? = w.heap[b]? := by
    simp only [World.setCell, Array.getElem?_modify]
    rw [if_neg (by omega)]
  rw [World.cell?_of_block (w := w) hb]; exact hc
theorem rep_none {p q r : Pth} (h : ¬ (chkE p = 0 ∧ chkE q = 0 ∧ chkE r = 0 ∧ begB q p = true)) : repP p q r = none := if_neg h
/-- at the head of a round: the path so far -/
structure RRel (w wr : World) (p q r : Pth) (a b c : Option Addr) (k l m : Nat) (x : Pth) (s : Option Addr) (d : Nat) : Prop where
  t : Three w wr p q r a b c k l m
  bx : Blk wr (w.heap.size + 1 + 1 + 1) #[.int .i64 x.root, .int .i64 x.n, .slice s x.fs.length d, .bool x.star] 24
  sx : StrsAt wr s x.fs
  fx : Fr s (w.heap.size + 1 + 1 + 1 + 1)
  dx : x.fs.length ≤ d
  ok : chkE x = 0
theorem below_row (w : World) (g : Nat) (cs : Array Value) : Below g w (w.setRow g cs) := below_setRow (Below.refl _ _) (Nat.le_refl _) cs
theorem Fr.mono {a : Option Addr} {n m : Nat} (h : Fr a n) (hm : m ≤ n) : Fr a m := fun g o e => by have := h g o e; omega

set_option maxRecDepth 100000 in
set_option maxHeartbeats 8000000 in
theorem replace17 (p q r : Pth) (a b c : Option Addr) (k l m : Nat) (w : World) (hk : KW w) (ha : StrsAt w a p.fs) (hb : StrsAt w b q.fs) (hc : StrsAt w c r.fs) (hpk : p.fs.length ≤ k) (hlen : q.fs.length ≤ 1000000) : Calls Tryz.prog 17 #[pV p a k, pV q b l, pV r c m] w (RepPost p q r w) := by
  unfold pV
  have KW0 := Lib.hid hk
  have SA0 := Lib.hid ha
  have SB0 := Lib.hid hb
  have SC0 := Lib.hid hc
  have HT0 := Lib.hid (three_new w p q r a b c k l m hk ha hb hc); clear hk ha hb hc
  obtain ⟨W0, hW0⟩ : ∃ W0, W0 = ((w.alloc (.cells #[.int .i64 p.root, .int .i64 p.n, .slice a p.fs.length k, .bool p.star] 24)).alloc (.cells #[.int .i64 q.root, .int .i64 q.n, .slice b q.fs.length l, .bool q.star] 24)).alloc (.cells #[.int .i64 r.root, .int .i64 r.n, .slice c r.fs.length m, .bool r.star] 24) := ⟨_, rfl⟩
  have hz0 : W0.heap.size = w.heap.size + 1 + 1 + 1 := by rw [hW0]; simp
  rw [← hW0] at HT0
  have HT := Lib.hid (HT0.out.below (one_below W0 (.cells #[.int .i64 0, .int .i64 0, .slice none 0 0, .bool false] 24)))
  have HR : Hid (Blk (W0.alloc (.cells #[.int .i64 0, .int .i64 0, .slice none 0 0, .bool false] 24)) (w.heap.size + 1 + 1 + 1) #[.int .i64 0, .int .i64 0, .slice none 0 0, .bool false] 24) := by rw [← hz0]; exact blk_new ..
  go_enter Tryz.func17, Tryz.ntmps17
  go_upto_region 1 with (fail)
  rw [← hW0]
  clear hW0 hz0 HT0
  generalize W0.alloc (.cells #[.int .i64 0, .int .i64 0, .slice none 0 0, .bool false] 24) = W at *
  obtain ⟨x0, x1, x2, x3⟩ := HT.out.c1.four
  go_wp2_with fail
  refine (check12 p a k _ HT.out.kw HT.out.sa).mono ?_
  rintro e w1 ⟨rfl, hb⟩
  have HT1 := Lib.hid (HT.out.below hb)
  have HR1 := Lib.hid (HR.out.below hb)
  clear hb HT HR x0 x1 x2 x3
  obtain ⟨x0, x1, x2, x3⟩ := HT1.out.c2.four
  by_cases h1 : chkE p = 0
  case neg =>
    have HF := Lib.hid (@rep_none p q r (fun h => h1 h.1))
    have t1 : (chkE p != 0) = true := by simpa using h1
    clear h1
    go_wp2_with (refine store24 rfl _ _ rfl (w.heap.size + 1 + 1 + 1) _ _ _ _ _ _ rfl rfl _ HR1.out rfl ?_)
    refine bodyPost_ret (v := .tuple #[pV zeroP none 0, .bool false]) (results_c2' Tryz.results17 _ _ (w.heap.size + 1 + 1 + 1) _ _ _ _ _ rfl rfl (HR1.out.setRow _)) rfl ?_
    exact ⟨below_setRow HT1.out.hb (by omega) _, .inl ⟨HF.out, rfl⟩⟩
  have H1 := Lib.hid h1
  have t1 : (chkE p != 0) = false := by simp [h1]
  clear h1
  go_wp2_with fail
  refine (check12 q b l _ HT1.out.kw HT1.out.sb).mono ?_
  rintro e w2 ⟨rfl, hb⟩
  have HT2 := Lib.hid (HT1.out.below hb)
  have HR2 := Lib.hid (HR1.out.below hb)
  clear hb HT1 HR1 x0 x1 x2 x3
  obtain ⟨x0, x1, x2, x3⟩ := HT2.out.c3.four
  by_cases h2 : chkE q = 0
  case neg =>
    have HF := Lib.hid (@rep_none p q r (fun h => h2 h.2.1))
    have t2 : (chkE q != 0) = true := by simpa using h2
    clear h2
    go_wp2_with (refine store24 rfl _ _ rfl (w.heap.size + 1 + 1 + 1) _ _ _ _ _ _ rfl rfl _ HR2.out rfl ?_)
    refine bodyPost_ret (v := .tuple #[pV zeroP none 0, .bool false]) (results_c2' Tryz.results17 _ _ (w.heap.size + 1 + 1 + 1) _ _ _ _ _ rfl rfl (HR2.out.setRow _)) rfl ?_
    exact ⟨below_setRow HT2.out.hb (by omega) _, .inl ⟨HF.out, rfl⟩⟩
  have H2 := Lib.hid h2
  have t2 : (chkE q != 0) = false := by simp [h2]
  clear h2
  go_wp2_with fail
  refine (check12 r c m _ HT2.out.kw HT2.out.sc).mono ?_
  rintro e w3 ⟨rfl, hb⟩
  have HT3 := Lib.hid (HT2.out.below hb)
  have HR3 := Lib.hid (HR2.out.below hb)
  clear hb HT2 HR2 x0 x1 x2 x3
  by_cases h3 : chkE r = 0
  case neg =>
    have HF := Lib.hid (@rep_none p q r (fun h => h3 h.2.2.1))
    have t3 : (chkE r != 0) = true := by simpa using h3
    clear h3
    go_wp2_with (refine store24 rfl _ _ rfl (w.heap.size + 1 + 1 + 1) _ _ _ _ _ _ rfl rfl _ HR3.out rfl ?_)
    refine bodyPost_ret (v := .tuple #[pV zeroP none 0, .bool false]) (results_c2' Tryz.results17 _ _ (w.heap.size + 1 + 1 + 1) _ _ _ _ _ rfl rfl (HR3.out.setRow _)) rfl ?_
    exact ⟨below_setRow HT3.out.hb (by omega) _, .inl ⟨HF.out, rfl⟩⟩
  have H3 := Lib.hid h3
  have t3 : (chkE r != 0) = false := by simp [h3]
  clear h3
  obtain ⟨x0, x1, x2, x3⟩ := HT3.out.c1.four
  obtain ⟨y0, y1, y2, y3⟩ := HT3.out.c2.four
  go_wp2_with fail
  refine (begins28 q p b a l k _ HT3.out.kw HT3.out.sb HT3.out.sa hpk hlen).mono ?_
  rintro e w4 ⟨rfl, hb⟩
  have HT4 := Lib.hid (HT3.out.below hb)
  have HR4 := Lib.hid (HR3.out.below hb)
  clear hb HT3 HR3 x0 x1 x2 x3 y0 y1 y2 y3
  cases h4 : begB q p
  case false =>
    have HF := Lib.hid (@rep_none p q r (fun h => by rw [h4] at h; exact absurd h.2.2.2 (by simp)))
    go_wp2_with (refine store24 rfl _ _ rfl (w.heap.size + 1 + 1 + 1) _ _ _ _ _ _ rfl rfl _ HR4.out rfl ?_)
    refine bodyPost_ret (v := .tuple #[pV zeroP none 0, .bool false]) (results_c2' Tryz.results17 _ _ (w.heap.size + 1 + 1 + 1) _ _ _ _ _ rfl rfl (HR4.out.setRow _)) rfl ?_
    exact ⟨below_setRow HT4.out.hb (by omega) _, .inl ⟨HF.out, rfl⟩⟩
  have HF : Hid (repP p q r = some (orStar (extAll r (p.fs.drop q.fs.length)) (p.star || q.star))) := if_pos ⟨H1.out, H2.out, H3.out, h4⟩
  have hql : q.fs.length ≤ p.fs.length := by
    have h5 := h4
    simp only [begB, Bool.and_eq_true] at h5
    exact (preB_iff.1 h5.2).length_le
  have hr2 : r.fs.length ≤ 2 := (chkE_ok.1 H3.out).2.2.2.1
  have hp2 : p.fs.length ≤ 2 := (chkE_ok.1 H1.out).2.2.2.1
  obtain ⟨a', hsl, hdrop⟩ := slice22l a p.fs.length k q.fs.length hql hpk
  have HDR := Lib.hid hdrop; clear hdrop
  obtain ⟨x0, x1, x2, x3⟩ := HT4.out.c3.four
  go_wp2_with fail
  refine (dup25 r c m _ HT4.out.sc (by omega)).mono ?_
  rintro e w5 ⟨hb, s, d, rfl, hown⟩
  have HT5 := Lib.hid (HT4.out.below hb)
  have HR5 := Lib.hid (HR4.out.below hb)
  have hz4 : w.heap.size + 1 + 1 + 1 < w4.heap.size := HR4.out.lt
  have hz5 : w.heap.size + 1 + 1 + 1 < w5.heap.size := HR5.out.lt
  obtain ⟨o1, o2⟩ := owns_strs' hown
  have REL : Hid (RRel w (w5.setRow (w.heap.size + 1 + 1 + 1) #[.int .i64 r.root, .int .i64 r.n, .slice s r.fs.length d, .bool r.star]) p q r a b c k l m r s d) :=
    ⟨HT5.out.upto (below_row ..) SA0.out SB0.out SC0.out KW0.out, HR5.out.setRow _, o2.setRow (n := w.heap.size + 1 + 1 + 1 + 1) (owns_fr hown hz4) (by omega) _, owns_fr hown hz4, o1, H3.out⟩
  clear hb hown o1 o2 HT4 HR4 x0 x1 x2 x3
  go_upto_region 4 with (refine store24 rfl _ _ rfl (w.heap.size + 1 + 1 + 1) _ _ _ _ _ _ rfl rfl _ HR5.out rfl ?_)
  clear HT5 HR5
  generalize w5.setRow (w.heap.size + 1 + 1 + 1) #[.int .i64 r.root, .int .i64 r.n, .slice s r.fs.length d, .bool r.star] = w6 at *
  obtain ⟨x0, x1, x2, x3⟩ := REL.out.t.c1.four
  obtain ⟨y0, y1, y2, y3⟩ := REL.out.t.c2.four
  go_wp2
  clear x0 x1 x2 x3 y0 y1 y2 y3
  obtain ⟨T, hT⟩ : ∃ T, T = p.fs.drop q.fs.length := ⟨_, rfl⟩
  have hTl : p.fs.length - q.fs.length = T.length := by rw [hT, List.length_drop]
  rw [hTl]
  have hTid : ∀ y ∈ T, identB y = true := fun y hy => chkE_field H1.out (List.mem_of_mem_drop (hT ▸ hy))
  have HTID := Lib.hid hTid; clear hTid
  rw [← hT] at HF
  have hTm : T.length ≤ 2 := by omega
  have HDT : Hid (∀ w, StrsAt w a p.fs → StrsAt w a' T) := fun w h => by rw [hT]; exact HDR.out w p.fs rfl h
  clear HDR hsl hTl hT
  go_loopw [41] (fun i wr => ∃ j x s d, j ≤ T.length ∧ i = .int .i64 (j : Nat) ∧ Hid (x = extAll r (T.take j)) ∧ RRel w wr p q r a b c k l m x s d) (fun i _ => T.length - (intOf i).toNat)
  case atStart => exact ⟨0, r, s, d, Nat.zero_le _, rfl, rfl, REL.out⟩
  case round =>
    clear REL
    obtain ⟨j, x, s, d, hj, rfl, HX, hrel⟩ := hrel
    have REL := Lib.hid hrel; clear hrel
    have hzr : w.heap.size + 1 + 1 + 1 < wr.heap.size := REL.out.bx.lt
    obtain ⟨z0, z1, z2, z3⟩ := REL.out.bx.four
    by_cases hlt : j < T.length
    · obtain ⟨bb, off, rfl, hcell⟩ := HDT.out wr REL.out.t.sa j hlt
      have HN : Hid (extP x T[j] = extAll r (T.take (j + 1))) := by show _ = _; rw [List.take_succ_eq_append_getElem hlt, extAll_snoc, ← HX.out]
      have hid := HTID.out _ (List.getElem_mem hlt)
      generalize T[j] = y at *
      have HOK := Lib.hid (extP_ok REL.out.ok hid)
      have hee : extE x y = 0 := by unfold extE; rw [if_neg (by simpa using REL.out.ok), if_pos hid]
      have HEE := Lib.hid hee; clear hee hid
      go_wp2_with fail
      refine (extend10 x y s d wr REL.out.t.kw REL.out.sx).mono ?_
      rintro e w2 ⟨hb, hpost⟩
      obtain ⟨s2, d2, rfl, hat, hle, hfr⟩ : ∃ b d, e = .returned (.tuple #[pV (extP x y) b d, .int .i64 0]) ∧ StrsAt w2 b (extP x y).fs ∧ (extP x y).fs.length ≤ d ∧ Fr b wr.heap.size := by
        rcases hpost with ⟨hne, _⟩ | ⟨_, h⟩
        · exact absurd HEE.out hne
        · exact h
      clear HEE hpost
      generalize extP x y = x2 at *
      have hz2 : w.heap.size + 1 + 1 + 1 < w2.heap.size := by have := hb.size; omega
      have B10 : Hid (Blk (w2.alloc (.cells #[.int .i64 0, .int .i64 0, .slice none 0 0, .bool false] 24)) w2.heap.size #[.int .i64 0, .int .i64 0, .slice none 0 0, .bool false] 24) := blk_new ..
      have hb4 := Lib.hid (below_setRow (one_below w2 (.cells #[.int .i64 0, .int .i64 0, .slice none 0 0, .bool false] 24)) (Nat.le_refl _) #[.int .i64 x2.root, .int .i64 x2.n, .slice s2 x2.fs.length d2, .bool x2.star])
      have T4 := Lib.hid ((REL.out.t.below hb).below hb4.out)
      have X4 := Lib.hid ((REL.out.bx.below hb).below hb4.out)
      have S4 := Lib.hid (hat.below hb4.out)
      have HFR := Lib.hid hfr
      clear hb hat hfr REL z0 z1 z2 z3 hcell
      go_upto_region 8 with (refine store24 rfl _ _ rfl w2.heap.size _ _ _ _ _ _ rfl rfl _ B10.out rfl ?_)
      have B4 := Lib.hid (B10.out.setRow #[.int .i64 x2.root, .int .i64 x2.n, .slice s2 x2.fs.length d2, .bool x2.star])
      clear hb4 B10
      generalize (w2.alloc (.cells #[.int .i64 0, .int .i64 0, .slice none 0 0, .bool false] 24)).setRow w2.heap.size #[.int .i64 x2.root, .int .i64 x2.n, .slice s2 x2.fs.length d2, .bool x2.star] = w4 at *
      go_wp2_with (first | (refine wload24 rfl _ rfl w2.heap.size _ rfl B4.out rfl ?_) | (refine store24 rfl _ _ rfl (w.heap.size + 1 + 1 + 1) _ _ _ _ _ _ rfl rfl _ X4.out rfl ?_))
      go_roundw
      case rel => exact ⟨j + 1, x2, s2, d2, by omega, by go_num, HN, ⟨T4.out.upto (below_row ..) SA0.out SB0.out SC0.out KW0.out, X4.out.setRow _, S4.out.setRow (n := wr.heap.size) HFR.out (by omega) _, HFR.out.mono (by omega), hle, HOK.out⟩⟩
      case measure => simp [intOf]; omega
    · obtain rfl : j = T.length := by omega
      have HF2 : Hid (repP p q r = some (orStar x (p.star || q.star))) := by show _ = _; rw [HF.out, HX.out, List.take_length]
      obtain ⟨x0, x1, x2, x3⟩ := REL.out.t.c1.four
      obtain ⟨y0, y1, y2, y3⟩ := REL.out.t.c2.four
      have f3 := REL.out.bx.free 3
      obtain ⟨sp, hsp⟩ : ∃ sp : Bool, sp = p.star := ⟨_, rfl⟩
      obtain ⟨sq, hsq⟩ : ∃ sq : Bool, sq = q.star := ⟨_, rfl⟩
      obtain ⟨sx, hsx⟩ : ∃ sx : Bool, sx = x.star := ⟨_, rfl⟩
      rw [← hsp] at x3
      rw [← hsq] at y3
      rw [← hsx] at z3
      have HSP := Lib.hid hsp
      have HSQ := Lib.hid hsq
      have HSX := Lib.hid hsx
      clear hsp hsq hsx
      go_upto_region 12 with (fail)
      go_cut [3] (fun v wx => v = .pointer (some ⟨w.heap.size, 0, none⟩) ∧ wx = wr.setCell ⟨w.heap.size + 1 + 1 + 1, 3, none⟩ (.bool (x.star || (p.star || q.star))))
      case first =>
        cases sx <;> cases sp <;> cases sq
        all_goals
          go_wp2
          go_meet
          exact ⟨rfl, by rw [← HSX.out, ← HSP.out, ← HSQ.out]; rfl⟩
      case rest =>
        obtain ⟨rfl, rfl⟩ := hcut
        clear x0 x1 x2 x3 y0 y1 y2 y3 z0 z1 z2 z3 f3
        have R6 : Hid (Blk (wr.setCell ⟨w.heap.size + 1 + 1 + 1, 3, none⟩ (.bool (x.star || (p.star || q.star)))) (w.heap.size + 1 + 1 + 1) #[.int .i64 x.root, .int .i64 x.n, .slice s x.fs.length d, .bool (x.star || (p.star || q.star))] 24) := by
          have := REL.out.bx.set 3 (.bool (x.star || (p.star || q.star)))
          show Blk _ _ _ _
          simpa using this
        go_wp2_with (first | (refine wload24 rfl _ rfl (w.heap.size + 1 + 1 + 1) _ rfl R6.out rfl ?_) | (refine store24 rfl _ _ rfl (w.heap.size + 1 + 1 + 1) _ _ _ _ _ _ rfl rfl _ R6.out rfl ?_))
        refine bodyPost_ret (v := .tuple #[pV (orStar x (p.star || q.star)) s d, .bool true]) (results_c2' Tryz.results17 _ _ (w.heap.size + 1 + 1 + 1) _ _ _ _ _ rfl rfl (R6.out.setRow _)) rfl ?_
        refine ⟨below_setRow (REL.out.t.hb.setCell (show w.heap.size ≤ _ by show w.heap.size ≤ w.heap.size + 1 + 1 + 1; omega) _) (by omega) _, .inr ⟨_, HF2.out, s, d, rfl, ?_, REL.out.dx⟩⟩
        exact (REL.out.sx.setCell REL.out.fx (by omega) 3 _).setRow (n := w.heap.size + 1 + 1 + 1 + 1) REL.out.fx (by omega) _
end Go.Proofs.YthlnhinjcffllaaGreatDoor
