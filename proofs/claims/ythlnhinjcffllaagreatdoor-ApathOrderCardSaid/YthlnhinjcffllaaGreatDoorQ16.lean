/-
  The reference's Replace.
-/
import Derived.Test.YthlnhinjcffllaaGreatDoorQ15
import Derived.Test.YthlnhinjcffllaaGreatDoorRegy
namespace Go.Proofs.YthlnhinjcffllaaGreatDoor
open Go.RowKit

/-- strings that came in, or lie in memory of the call's own -/
def StK (w wr : World) (n : Nat) (s : Option Addr) (l : List ByteArray) : Prop := StrsAt w s l ∨ (StrsAt wr s l ∧ Fr s n)
section
variable {w wr w' : World} {n : Nat} {s : Option Addr} {l : List ByteArray}
theorem StK.at (h : StK w wr n s l) (hb : Below w.heap.size w wr) : StrsAt wr s l := h.elim (·.below hb) (·.1)
theorem StK.below (h : StK w wr n s l) (hb : Below wr.heap.size wr w') : StK w w' n s l := h.imp id fun h => ⟨h.1.below hb, h.2⟩
theorem StK.row (h : StK w wr n s l) {g : Nat} (hg : g < n) (cs : Array Value) : StK w (wr.setRow g cs) n s l := h.imp id fun h => ⟨h.1.setRow h.2 hg cs, h.2⟩
theorem StK.set (h : StK w wr n s l) {g : Nat} (hg : g < n) (i : Nat) (v : Value) : StK w (wr.setCell ⟨g, i, none⟩ v) n s l := h.imp id fun h => ⟨h.1.setCell h.2 hg i v, h.2⟩
end
/-- a world in which nothing that was in W has changed, but for one block -/
structure WG (W : World) (g : Nat) where
  u : World
  h : ∀ k, k < W.heap.size → k ≠ g → u.heap[k]? = W.heap[k]?
theorem WG.cell {W : World} {g : Nat} (o : WG W g) {b i : Nat} {v : Value} (h : W.cell? ⟨b, i, none⟩ = some v) (hne : b ≠ g) : o.u.cell? ⟨b, i, none⟩ = some v := by
  rw [World.cell?_of_block (w := W) (o.h b (World.block_lt_of_cell? W _ h) hne)]; exact h
/-- at the head of a round: the path so far -/
structure RRel2 (w wr : World) (p q r : Pth) (a b c : Option Addr) (k l m g : Nat) (x : Pth) (s : Option Addr) (d : Nat) : Prop where
  t : Three w wr p q r a b c k l m
  bz : Blk wr (w.heap.size + 1 + 1 + 1) #[.int .i64 0, .int .i64 0, .slice none 0 0, .bool false] 24
  bx : Blk wr g #[.int .i64 x.root, .int .i64 x.n, .slice s x.fs.length d, .bool x.star] 24
  sx : StK w wr (g + 1) s x.fs
  dx : x.fs.length ≤ d
  ok : chkE x = 0

theorem RRel2.below {w wr w' : World} {p q r : Pth} {a b c : Option Addr} {k l m g : Nat} {x : Pth} {s : Option Addr} {d : Nat} (h : RRel2 w wr p q r a b c k l m g x s d) (hb : Below wr.heap.size wr w') : RRel2 w w' p q r a b c k l m g x s d :=
  ⟨h.t.below hb, h.bz.below hb, h.bx.below hb, h.sx.below hb, h.dx, h.ok⟩
set_option maxRecDepth 100000 in
set_option maxHeartbeats 8000000 in
theorem replace18 (p q r : Pth) (a b c : Option Addr) (k l m : Nat) (w : World) (hk : KW w) (ha : StrsAt w a p.fs) (hb : StrsAt w b q.fs) (hc : StrsAt w c r.fs) (hrm : r.fs.length ≤ m) (hlen : q.fs.length ≤ 1000000) : Calls Tryz.prog 18 #[pV p a k, pV q b l, pV r c m] w (RepPost p q r w) := by
  unfold pV
  have KW0 := Lib.hid hk
  have SA0 := Lib.hid ha
  have SB0 := Lib.hid hb
  have SC0 := Lib.hid hc
  have HT0 := Lib.hid (three_new w p q r a b c k l m hk ha hb hc); clear hk ha hb hc
  obtain ⟨W0, hW0⟩ : ∃ W0, W0 = ((w.alloc (.cells #[.int .i64 p.root, .int .i64 p.n, .slice a p.fs.length k, .bool p.star] 24)).alloc (.cells #[.int .i64 q.root, .int .i64 q.n, .slice b q.fs.length l, .bool q.star] 24)).alloc (.cells #[.int .i64 r.root, .int .i64 r.n, .slice c r.fs.length m, .bool r.star] 24) := ⟨_, rfl⟩
  have hz0 : W0.heap.size = w.heap.size + 1 + 1 + 1 := by rw [hW0]; simp
  rw [← hW0] at HT0
  have HT := Lib.hid (HT0.out.below (one_below W0 (.cells #[.int .i64 0, .int .i64 0, .slice none 0 0, .bool false] 24)))
  have HR : Hid (Blk (W0.alloc (.cells #[.int .i64 0, .int .i64 0, .slice none 0 0, .bool false] 24)) (w.heap.size + 1 + 1 + 1) #[.int .i64 0, .int .i64 0, .slice none 0 0, .bool false] 24) := by rw [← hz0]; exact blk_new ..
  go_enter Tryz.func18, Tryz.ntmps18
  go_upto_region 1 with (fail)
  rw [← hW0]
  clear hW0 hz0 HT0
  generalize W0.alloc (.cells #[.int .i64 0, .int .i64 0, .slice none 0 0, .bool false] 24) = W at *
  obtain ⟨x0, x1, x2, x3⟩ := HT.out.c1.four
  go_wp2_with fail
  refine (check13 p a k _ HT.out.sa).mono ?_
  rintro e w1 ⟨rfl, hb⟩
  have HT1 := Lib.hid (HT.out.below hb)
  have HR1 := Lib.hid (HR.out.below hb)
  clear hb HT HR x0 x1 x2 x3
  obtain ⟨x0, x1, x2, x3⟩ := HT1.out.c2.four
  by_cases h1 : chkE p = 0
  case neg =>
    have HF := Lib.hid (@rep_none p q r (fun h => h1 h.1))
    have t1 : (chkE p != 0) = true := by simpa using h1
    clear h1
    go_wp2_with (refine store24 rfl _ _ rfl (w.heap.size + 1 + 1 + 1) _ _ _ _ _ _ rfl rfl _ HR1.out rfl ?_)
    refine bodyPost_ret (v := .tuple #[pV zeroP none 0, .bool false]) (results_c2' Tryz.results18 _ _ (w.heap.size + 1 + 1 + 1) _ _ _ _ _ rfl rfl (HR1.out.setRow _)) rfl ?_
    exact ⟨below_setRow HT1.out.hb (by omega) _, .inl ⟨HF.out, rfl⟩⟩
  have H1 := Lib.hid h1
  have t1 : (chkE p != 0) = false := by simp [h1]
  clear h1
  go_wp2_with fail
  refine (check13 q b l _ HT1.out.sb).mono ?_
  rintro e w2 ⟨rfl, hb⟩
  have HT2 := Lib.hid (HT1.out.below hb)
  have HR2 := Lib.hid (HR1.out.below hb)
  clear hb HT1 HR1 x0 x1 x2 x3
  obtain ⟨x0, x1, x2, x3⟩ := HT2.out.c3.four
  by_cases h2 : chkE q = 0
  case neg =>
    have HF := Lib.hid (@rep_none p q r (fun h => h2 h.2.1))
    have t2 : (chkE q != 0) = true := by simpa using h2
    clear h2
    go_wp2_with (refine store24 rfl _ _ rfl (w.heap.size + 1 + 1 + 1) _ _ _ _ _ _ rfl rfl _ HR2.out rfl ?_)
    refine bodyPost_ret (v := .tuple #[pV zeroP none 0, .bool false]) (results_c2' Tryz.results18 _ _ (w.heap.size + 1 + 1 + 1) _ _ _ _ _ rfl rfl (HR2.out.setRow _)) rfl ?_
    exact ⟨below_setRow HT2.out.hb (by omega) _, .inl ⟨HF.out, rfl⟩⟩
  have H2 := Lib.hid h2
  have t2 : (chkE q != 0) = false := by simp [h2]
  clear h2
  go_wp2_with fail
  refine (check13 r c m _ HT2.out.sc).mono ?_
  rintro e w3 ⟨rfl, hb⟩
  have HT3 := Lib.hid (HT2.out.below hb)
  have HR3 := Lib.hid (HR2.out.below hb)
  clear hb HT2 HR2 x0 x1 x2 x3
  by_cases h3 : chkE r = 0
  case neg =>
    have HF := Lib.hid (@rep_none p q r (fun h => h3 h.2.2.1))
    have t3 : (chkE r != 0) = true := by simpa using h3
    clear h3
    go_wp2_with (refine store24 rfl _ _ rfl (w.heap.size + 1 + 1 + 1) _ _ _ _ _ _ rfl rfl _ HR3.out rfl ?_)
    refine bodyPost_ret (v := .tuple #[pV zeroP none 0, .bool false]) (results_c2' Tryz.results18 _ _ (w.heap.size + 1 + 1 + 1) _ _ _ _ _ rfl rfl (HR3.out.setRow _)) rfl ?_
    exact ⟨below_setRow HT3.out.hb (by omega) _, .inl ⟨HF.out, rfl⟩⟩
  have H3 := Lib.hid h3
  have t3 : (chkE r != 0) = false := by simp [h3]
  clear h3
  obtain ⟨x0, x1, x2, x3⟩ := HT3.out.c1.four
  obtain ⟨y0, y1, y2, y3⟩ := HT3.out.c2.four
  have HBG : Hid (begB q p = ((q.root == p.root) && (q.n == p.n) && preB q.fs p.fs)) := rfl
  by_cases h5 : p.root = q.root
  case neg =>
    have HF := Lib.hid (@rep_none p q r (fun h => by have := h.2.2.2; rw [HBG.out] at this; simp at this; omega))
    have t5 : (p.root != q.root) = true := by simpa using h5
    clear h5
    go_wp2_with (refine store24 rfl _ _ rfl (w.heap.size + 1 + 1 + 1) _ _ _ _ _ _ rfl rfl _ HR3.out rfl ?_)
    refine bodyPost_ret (v := .tuple #[pV zeroP none 0, .bool false]) (results_c2' Tryz.results18 _ _ (w.heap.size + 1 + 1 + 1) _ _ _ _ _ rfl rfl (HR3.out.setRow _)) rfl ?_
    exact ⟨below_setRow HT3.out.hb (by omega) _, .inl ⟨HF.out, rfl⟩⟩
  have H5 := Lib.hid h5
  have t5 : (p.root != q.root) = false := by simp [h5]
  clear h5
  by_cases h6 : p.n = q.n
  case neg =>
    have HF := Lib.hid (@rep_none p q r (fun h => by have := h.2.2.2; rw [HBG.out] at this; simp at this; omega))
    have t6 : (p.n != q.n) = true := by simpa using h6
    clear h6
    go_wp2_with (refine store24 rfl _ _ rfl (w.heap.size + 1 + 1 + 1) _ _ _ _ _ _ rfl rfl _ HR3.out rfl ?_)
    refine bodyPost_ret (v := .tuple #[pV zeroP none 0, .bool false]) (results_c2' Tryz.results18 _ _ (w.heap.size + 1 + 1 + 1) _ _ _ _ _ rfl rfl (HR3.out.setRow _)) rfl ?_
    exact ⟨below_setRow HT3.out.hb (by omega) _, .inl ⟨HF.out, rfl⟩⟩
  have H6 := Lib.hid h6
  have t6 : (p.n != q.n) = false := by simp [h6]
  clear h6
  go_wp2_with fail
  refine (first27 q.fs p.fs b a l k _ HT3.out.sb HT3.out.sa hlen).mono ?_
  rintro e w4 ⟨rfl, hb⟩
  have HT4 := Lib.hid (HT3.out.below hb)
  have HR4 := Lib.hid (HR3.out.below hb)
  clear hb HT3 HR3 x0 x1 x2 x3 y0 y1 y2 y3
  cases h4 : preB q.fs p.fs
  case false =>
    have HF := Lib.hid (@rep_none p q r (fun h => by have := h.2.2.2; rw [HBG.out, h4] at this; simp at this))
    go_wp2_with (refine store24 rfl _ _ rfl (w.heap.size + 1 + 1 + 1) _ _ _ _ _ _ rfl rfl _ HR4.out rfl ?_)
    refine bodyPost_ret (v := .tuple #[pV zeroP none 0, .bool false]) (results_c2' Tryz.results18 _ _ (w.heap.size + 1 + 1 + 1) _ _ _ _ _ rfl rfl (HR4.out.setRow _)) rfl ?_
    exact ⟨below_setRow HT4.out.hb (by omega) _, .inl ⟨HF.out, rfl⟩⟩
  have HF : Hid (repP p q r = some (orStar (extAll r (p.fs.drop q.fs.length)) (p.star || q.star))) := if_pos ⟨H1.out, H2.out, H3.out, by rw [HBG.out, h4, H5.out, H6.out]; simp⟩
  have hql : q.fs.length ≤ p.fs.length := (preB_iff.1 h4).length_le
  have hr2 : r.fs.length ≤ 2 := (chkE_ok.1 H3.out).2.2.2.1
  have hp2 : p.fs.length ≤ 2 := (chkE_ok.1 H1.out).2.2.2.1
  obtain ⟨x0, x1, x2, x3⟩ := HT4.out.c3.four
  have hz4 : w.heap.size + 1 + 1 + 1 < w4.heap.size := HR4.out.lt
  have B8 : Hid (Blk (w4.alloc (.cells #[.int .i64 0, .int .i64 0, .slice none 0 0, .bool false] 24)) w4.heap.size #[.int .i64 0, .int .i64 0, .slice none 0 0, .bool false] 24) := blk_new ..
  have hb5 := Lib.hid (below_setRow (one_below w4 (.cells #[.int .i64 0, .int .i64 0, .slice none 0 0, .bool false] 24)) (Nat.le_refl _) #[.int .i64 r.root, .int .i64 r.n, .slice c r.fs.length m, .bool r.star])
  have T5 := Lib.hid (HT4.out.below hb5.out)
  have Z5 := Lib.hid (HR4.out.below hb5.out)
  clear HT4 HR4 hb5
  go_upto_region 4 with (refine store24 rfl _ _ rfl w4.heap.size _ _ _ _ _ _ rfl rfl _ B8.out rfl ?_)
  have X5 := Lib.hid (B8.out.setRow #[.int .i64 r.root, .int .i64 r.n, .slice c r.fs.length m, .bool r.star])
  clear B8 x0 x1 x2 x3
  generalize (w4.alloc (.cells #[.int .i64 0, .int .i64 0, .slice none 0 0, .bool false] 24)).setRow w4.heap.size #[.int .i64 r.root, .int .i64 r.n, .slice c r.fs.length m, .bool r.star] = w5 at *
  obtain ⟨g, hg⟩ : ∃ g, g = w4.heap.size := ⟨_, rfl⟩
  rw [← hg] at X5 hz4
  have REL : Hid (RRel2 w w5 p q r a b c k l m g r c m) := ⟨T5.out, Z5.out, X5.out, .inl SC0.out, hrm, H3.out⟩
  rw [← hg]
  clear hg T5 Z5 X5
  obtain ⟨y0, y1, y2, y3⟩ := REL.out.t.c2.four
  go_wp2
  clear y0 y1 y2 y3
  go_loopw [9] (fun v wr => ∃ i x s d, q.fs.length ≤ i ∧ i ≤ p.fs.length ∧ v = .int .i64 (i : Nat) ∧ Hid (x = extAll r ((p.fs.drop q.fs.length).take (i - q.fs.length))) ∧ RRel2 w wr p q r a b c k l m g x s d) (fun v _ => p.fs.length - (intOf v).toNat)
  case atStart => exact ⟨q.fs.length, r, c, m, Nat.le_refl _, hql, rfl, by show _ = _; simp [extAll], REL.out⟩
  case round =>
    clear REL
    obtain ⟨i, x, s, d, hi1, hi2, rfl, HX, hrel⟩ := hrel
    have REL := Lib.hid hrel; clear hrel
    have hgz : g < wr.heap.size := REL.out.bx.lt
    obtain ⟨z0, z1, z2, z3⟩ := REL.out.bx.four
    obtain ⟨x0, x1, x2, x3⟩ := REL.out.t.c1.four
    by_cases hlt : i < p.fs.length
    · obtain ⟨bb, off, rfl, hcell⟩ := REL.out.t.sa i hlt
      have HN : Hid (extP x p.fs[i] = extAll r ((p.fs.drop q.fs.length).take (i + 1 - q.fs.length))) := by
        show _ = _
        have e1 : i + 1 - q.fs.length = (i - q.fs.length) + 1 := by omega
        have e2 : i - q.fs.length < (p.fs.drop q.fs.length).length := by rw [List.length_drop]; omega
        have e3 : (p.fs.drop q.fs.length)[i - q.fs.length] = p.fs[i] := by rw [List.getElem_drop]; congr 1; omega
        rw [e1, List.take_succ_eq_append_getElem e2, extAll_snoc, ← HX.out, e3]
      have hid := chkE_field H1.out (List.getElem_mem hlt)
      generalize p.fs[i] = y at *
      have HOK := Lib.hid (extP_ok REL.out.ok hid)
      have hee : extE x y = 0 := by unfold extE; rw [if_neg (by simpa using REL.out.ok), if_pos hid]
      have HEE := Lib.hid hee; clear hee hid
      go_upto_region 7 with (fail)
      have hbw : bb < w.heap.size := by
        obtain ⟨b', o', he, hc'⟩ := SA0.out i hlt
        cases he
        exact World.block_lt_of_cell? w _ hc'
      have hne : Nonempty (WG wr g) := ⟨⟨wr, fun _ _ _ => rfl⟩⟩
      have k4 : ∀ o : WG wr g, o.u.cell? ⟨w.heap.size, 2, none⟩ = some (.slice (some ⟨bb, off, none⟩) p.fs.length k) := fun o => o.cell x2 (by omega)
      have k5 : ∀ o : WG wr g, o.u.cell? ⟨bb, off + i, none⟩ = some (.string y) := fun o => o.cell hcell (by omega)
      clear x0 x1 x2 x3 hcell
      refine wp_region_Y (fun w' => ∃ o : WG wr g, w' = o.u) (by kernel_rfl) ?_
      change wpAnyY _ _ _ _ _ _ _ _ wr.drew
      have hcur : ∀ k, k < wr.heap.size → k ≠ g → wr.drew.heap[k]? = wr.heap[k]? := fun _ _ _ => rfl
      refine wpAnyY_take 1 rfl (by kernel_rfl) (fun _ _ _ _ h => h) ⟨⟨_, hcur⟩, rfl⟩ (fun K hK => ?_)
      go_simp
      refine hK _ ?_
      clear hK K
      refine wpAnyY_take 2 rfl (by kernel_rfl) (fun _ _ _ _ h => h) ⟨⟨_, hcur⟩, rfl⟩ (fun K hK => ?_)
      go_simp
      refine hK _ ?_
      clear hK K
      refine wpAnyY_take 3 rfl (by kernel_rfl) (fun _ _ _ _ h => h) ⟨⟨_, hcur⟩, rfl⟩ (fun K hK => ?_)
      go_simp
      refine hK _ ?_
      clear hK K
      refine wpAnyY_take 4 rfl (by kernel_rfl) (fun _ _ _ _ h => h) ⟨⟨_, hcur⟩, rfl⟩ (fun K hK => ?_)
      go_simp
      refine hK _ ?_
      clear hK K
      refine wpAnyY_take 5 rfl (by kernel_rfl) (fun _ _ _ _ h => h) ⟨⟨_, hcur⟩, rfl⟩ (fun K hK => ?_)
      go_simp
      refine hK _ ?_
      clear hK K
      refine wpAnyY_one 0 rfl (by kernel_rfl) ?_
      go_wp2
      refine ⟨⟨⟨_, hcur⟩, rfl⟩, ?_⟩
      clear z0 z1 z2 z3 k4 k5
      have hd0 : Below wr.heap.size wr wr.drew := (Below.refl _ _).drew
      have RELD := Lib.hid (REL.out.below hd0)
      clear REL
      refine wpAnyY_one 6 rfl (by kernel_rfl) ?_
      go_wp2_with fail
      refine (extend11 x y s d _ (RELD.out.sx.at RELD.out.t.hb)).mono ?_
      rintro e w2 ⟨hb, hpost⟩
      obtain ⟨s2, d2, rfl, hat, hle, hfr⟩ : ∃ b d, e = .returned (.tuple #[pV (extP x y) b d, .int .i64 0]) ∧ StrsAt w2 b (extP x y).fs ∧ (extP x y).fs.length ≤ d ∧ Fr b wr.drew.heap.size := by
        rcases hpost with ⟨hne, _⟩ | ⟨_, h⟩
        · exact absurd HEE.out hne
        · exact h
      clear HEE hpost
      generalize extP x y = x2 at *
      unfold pV
      have hb2 : Below wr.heap.size wr w2 := hd0.trans (hb.mono hd0.size)
      have hcur2 : ∀ k, k < wr.heap.size → k ≠ g → w2.heap[k]? = wr.heap[k]? := fun k hk _ => hb2.block k hk
      have REL2 := Lib.hid (RELD.out.below hb)
      have HAT := Lib.hid hat
      have HFR := Lib.hid hfr
      have hzd : wr.heap.size ≤ wr.drew.heap.size := hd0.size
      clear RELD hb hat hfr hd0 hcur hb2
      go_wp2
      refine ⟨⟨⟨_, hcur2⟩, rfl⟩, ?_⟩
      refine wpAnyY_take 7 rfl (by kernel_rfl) (fun _ _ _ _ h => h) ⟨⟨_, hcur2⟩, rfl⟩ (fun K hK => ?_)
      go_simp
      refine hK _ ?_
      clear hK K
      refine wpAnyY_take 8 rfl (by kernel_rfl) (fun _ _ _ _ h => h) ⟨⟨_, hcur2⟩, rfl⟩ (fun K hK => ?_)
      go_simp
      refine hK _ ?_
      clear hK K
      have hcur3 : ∀ k, k < wr.heap.size → k ≠ g → (w2.setRow g #[.int .i64 x2.root, .int .i64 x2.n, .slice s2 x2.fs.length d2, .bool x2.star]).heap[k]? = wr.heap[k]? := fun k hk hkg => by rw [setRow_other w2 g k _ hkg]; exact hcur2 k hk hkg
      have RELN : Hid (RRel2 w (w2.setRow g #[.int .i64 x2.root, .int .i64 x2.n, .slice s2 x2.fs.length d2, .bool x2.star]) p q r (some ⟨bb, off, none⟩) b c k l m g x2 s2 d2) := ⟨REL2.out.t.upto ((below_row ..).mono (by omega)) SA0.out SB0.out SC0.out KW0.out, REL2.out.bz.setRow_ne (by omega) _, REL2.out.bx.setRow _, .inr ⟨HAT.out.setRow (n := g + 1) (HFR.out.mono (by omega)) (by omega) _, HFR.out.mono (by omega)⟩, hle, HOK.out⟩
      refine wpAnyY_two 9 10 rfl rfl (by kernel_rfl) ?_ ?_
      · go_wp2
        refine ⟨⟨⟨_, hcur2⟩, rfl⟩, ?_⟩
        refine wpAnyY_one 10 rfl (by kernel_rfl) ?_
        go_wp2_with (refine store24 rfl _ _ rfl g _ _ _ _ _ _ rfl rfl _ REL2.out.bx rfl ?_)
        go_frame
        refine ⟨⟨⟨_, hcur3⟩, rfl⟩, ?_⟩
        refine wpAnyY_done (by kernel_rfl) ?_ _
        clear hcur2 hcur3 hne
        go_wp2
        go_roundw
        case rel => exact ⟨i + 1, x2, s2, d2, by omega, by omega, by go_num, HN, RELN.out⟩
        case measure => simp [intOf]; omega
      · go_wp2_with (refine store24 rfl _ _ rfl g _ _ _ _ _ _ rfl rfl _ REL2.out.bx rfl ?_)
        go_frame
        refine ⟨⟨⟨_, hcur3⟩, rfl⟩, ?_⟩
        refine wpAnyY_one 9 rfl (by kernel_rfl) ?_
        go_wp2
        refine ⟨⟨⟨_, hcur3⟩, rfl⟩, ?_⟩
        refine wpAnyY_done (by kernel_rfl) ?_ _
        clear hcur2 hcur3 hne
        go_wp2
        go_roundw
        case rel => exact ⟨i + 1, x2, s2, d2, by omega, by omega, by go_num, HN, RELN.out⟩
        case measure => simp [intOf]; omega
    · obtain rfl : i = p.fs.length := by omega
      have HF2 : Hid (repP p q r = some (orStar x (p.star || q.star))) := by
        show _ = _
        rw [HF.out, HX.out, List.take_of_length_le (by rw [List.length_drop]; exact Nat.le_refl _)]
      obtain ⟨y0, y1, y2, y3⟩ := REL.out.t.c2.four
      have f3 := REL.out.bx.free 3
      obtain ⟨sp, hsp⟩ : ∃ sp : Bool, sp = p.star := ⟨_, rfl⟩
      obtain ⟨sq, hsq⟩ : ∃ sq : Bool, sq = q.star := ⟨_, rfl⟩
      obtain ⟨sx, hsx⟩ : ∃ sx : Bool, sx = x.star := ⟨_, rfl⟩
      rw [← hsp] at x3
      rw [← hsq] at y3
      rw [← hsx] at z3
      have HSP := Lib.hid hsp
      have HSQ := Lib.hid hsq
      have HSX := Lib.hid hsx
      clear hsp hsq hsx
      go_upto_region 8 with (fail)
      go_cut [3] (fun v wx => v = .pointer (some ⟨w.heap.size, 0, none⟩) ∧ wx = wr.setCell ⟨g, 3, none⟩ (.bool (x.star || (p.star || q.star))))
      case first =>
        cases sx <;> cases sp <;> cases sq
        all_goals
          go_wp2
          go_meet
          exact ⟨rfl, by rw [← HSX.out, ← HSP.out, ← HSQ.out]; rfl⟩
      case rest =>
        obtain ⟨rfl, rfl⟩ := hcut
        clear x0 x1 x2 x3 y0 y1 y2 y3 z0 z1 z2 z3 f3
        have R6 : Hid (Blk (wr.setCell ⟨g, 3, none⟩ (.bool (x.star || (p.star || q.star)))) g #[.int .i64 x.root, .int .i64 x.n, .slice s x.fs.length d, .bool (x.star || (p.star || q.star))] 24) := by
          have := REL.out.bx.set 3 (.bool (x.star || (p.star || q.star)))
          show Blk _ _ _ _
          simpa using this
        have Z6 : Hid (Blk (wr.setCell ⟨g, 3, none⟩ (.bool (x.star || (p.star || q.star)))) (w.heap.size + 1 + 1 + 1) #[.int .i64 0, .int .i64 0, .slice none 0 0, .bool false] 24) := REL.out.bz.other (by omega) 3 _
        go_wp2_with (first | (refine wload24 rfl _ rfl g _ rfl R6.out rfl ?_) | (refine store24 rfl _ _ rfl (w.heap.size + 1 + 1 + 1) _ _ _ _ _ _ rfl rfl _ Z6.out rfl ?_))
        refine bodyPost_ret (v := .tuple #[pV (orStar x (p.star || q.star)) s d, .bool true]) (results_c2' Tryz.results18 _ _ (w.heap.size + 1 + 1 + 1) _ _ _ _ _ rfl rfl (Z6.out.setRow _)) rfl ?_
        have hbb := below_setRow (REL.out.t.hb.setCell (p := ⟨g, 3, none⟩) (show w.heap.size ≤ g by omega) (.bool (x.star || (p.star || q.star)))) (show w.heap.size ≤ w.heap.size + 1 + 1 + 1 by omega) #[.int .i64 x.root, .int .i64 x.n, .slice s x.fs.length d, .bool (x.star || (p.star || q.star))]
        refine ⟨hbb, .inr ⟨_, HF2.out, s, d, rfl, ?_, REL.out.dx⟩⟩
        exact ((REL.out.sx.set (by omega) 3 _).row (by omega) _).at hbb
end Go.Proofs.YthlnhinjcffllaaGreatDoor
