import Derived.Test.YtlkafolgbkobpaaDoorDoom
import Derived.Deep.LoopGhost
namespace Go.Proofs.YtlkafolgbkobpaaDoor
open Go.RowKit Go.Sort

def bl (d : List Bool) : Array Value := (d.map Value.bool).toArray
/-- a block of bools of the call's own -/
def BlkB (W : World) (g : Nat) (d : List Bool) : Prop := W.heap[g]? = some (.cells (bl d) 4 (0, 0))
theorem BlkB.lt {W : World} {g : Nat} {d : List Bool} (h : BlkB W g d) : g < W.heap.size := (Array.getElem?_eq_some_iff.1 h).1
theorem BlkB.below {W W' : World} {g : Nat} {d : List Bool} (h : BlkB W g d) (hb : Below W.heap.size W W') : BlkB W' g d := by
  unfold BlkB; rw [hb.block g h.lt]; exact h
theorem BlkB.cell {W : World} {g : Nat} {d : List Bool} (h : BlkB W g d) (i : Nat) (hi : i < d.length) : W.cell? ⟨g, i, none⟩ = some (.bool (d.getD i false)) := by
  rw [cell_of_row _ _ _ _ _ _ h]; simp [bl, hi]
theorem BlkB.free {W : World} {g : Nat} {d : List Bool} (h : BlkB W g d) (i : Nat) : W.frozen? ⟨g, i, none⟩ = false := by
  unfold World.frozen?; rw [h]; simp
theorem BlkB.set {W : World} {g : Nat} {d : List Bool} (h : BlkB W g d) (i : Nat) : BlkB (W.setCell ⟨g, i, none⟩ (.bool true)) g (d.set i true) := by
  unfold BlkB at *
  simp only [World.setCell, Array.getElem?_modify, if_true, h, Option.map_some, Option.isSome_none]
  congr 2
  simp [bl, List.map_set]
theorem BlkB.grown {W W' : World} {g : Nat} {d : List Bool} {row : Option Nat} (h : BlkB W g d) (hg : W.grownBy W' row) (hne : some g ≠ row) : BlkB W' g d := by
  unfold BlkB; rw [hg.block g h.lt hne]; exact h
theorem Box.setCell {W : World} {b : Nat} {p : Pr} {a1 : Option Addr} {c1 : Nat} {a2 : Option Addr} {c2 : Nat} (h : Box W b p a1 c1 a2 c2) {g i : Nat} (hne : b ≠ g) (v : Value) : Box (W.setCell ⟨g, i, none⟩ v) b p a1 c1 a2 c2 := by
  have e : ∀ o, (W.setCell ⟨g, i, none⟩ v).cell? ⟨b, o, none⟩ = W.cell? ⟨b, o, none⟩ := fun o => World.cell?_setCell_other W _ _ v (fun e => hne (by injection e with e1; exact e1.symm))
  exact ⟨by rw [e]; exact h.q0, by rw [e]; exact h.q1, by rw [e]; exact h.q2, by rw [e]; exact h.q3, by rw [e]; exact h.q4⟩
theorem Tryd_info4 : (Tryd.prog.info? 4).map (fun i => (i.zero, i.size, i.bytes)) = some (some (.bool false), 1, 1) := by kernel_rfl
theorem Tryd_info3 : (Tryd.prog.info? 3).map (fun i => (i.zero, i.size, i.bytes)) = some (some (.int .i64 0), 1, 8) := by kernel_rfl
theorem make47 (n : Nat) (hn : n ≤ 1000000) (u : World) : (Instr.makeSlice 47 (.int .i64 (n : Int)) (.int .i64 (n : Int))).run Tryd.prog u = .ok (.slice (some ⟨u.heap.size, 0, none⟩) n n) (u.alloc (.cells (bl (List.replicate n false)) 4)) := by
  obtain ⟨i0, hi, hz0, hz1, hz2⟩ := info_parts Tryd_info4
  have h := run_make (P := Tryd.prog) u 47 4 i0 (.bool false) Tryd.underlying47 hi hz0 .i64 .i64 (n : Int) (n : Int) (by omega) (Int.le_refl _) (by rw [hz2]; omega) (by omega)
  rw [h, hz1]
  have e : madeCells (Value.bool false).cells (((n : Int)).toNat * 1) = bl (List.replicate n false) := by
    apply Array.ext'
    have := toList_madeCells_one (Value.bool false) n
    simp only [Value.cells, Int.toNat_natCast, Nat.mul_one, bl, List.map_replicate]
    exact this
  rw [e]; simp
/-- the result: a slice of ints, in new memory -/
def IntsPost (w : World) (l : List Int) (e : Ending) (w' : World) : Prop := Below w.heap.size w w' ∧ ∃ a cap, e = .returned (.slice a l.length cap) ∧ IntsAt w' a l
theorem owns_ints {w : World} {base : Nat} {e : TypeId} {v : Value} {l : List Int} {n : Nat} (h : w.ownsRow base e 1 v n (l.map (Value.int .i64))) : n = l.length ∧ ∃ a cap, v = .slice a n cap ∧ IntsAt w a l := by
  have hl : n = l.length := by have := h.1; simp at this; omega
  refine ⟨hl, ?_⟩
  rcases h.2 with ⟨rfl, h0⟩ | ⟨g, cap, cur, rfl, hb, hh, hn, _, hsz, ht⟩
  · refine ⟨none, 0, by rw [h0], fun k hk => by omega⟩
  · refine ⟨_, _, rfl, fun k hk => ⟨g, 0, rfl, ?_⟩⟩
    have := h.cells (g := g) rfl k (.int .i64 l[k]) (by simp [hk])
    have e2 : (⟨g, 0, none⟩ : Addr).add k = ⟨g, 0 + k, none⟩ := by unfold Addr.add; split <;> simp_all
    rw [e2] at this; exact this

set_option maxRecDepth 100000 in
set_option maxHeartbeats 1000000 in
theorem doomed13 (p : Pr) (a1 : Option Addr) (c1 : Nat) (a2 : Option Addr) (c2 : Nat) (w : World) (hk : KW w) (hi : PIn w p a1 c1 a2) :
    Calls Tryd.prog 13 #[PrV p a1 c1 a2 c2] w (IntsPost w (doomedP p)) := by
  unfold PrV
  have HI := Lib.hid hi; clear hi
  have HK := Lib.hid hk; clear hk
  have HBX := Lib.hid (Box.new w p a1 c1 a2 c2 25)
  have HB0 : Hid (Below w.heap.size w (w.alloc (.cells #[.string p.cls, .slice a1 p.sts.length c1, .int .i64 p.start, .int .i64 p.err, .slice a2 p.mvs.length c2] 25))) := (Below.refl _ _).alloc (Nat.le_refl _) _
  go_enter Tryd.func13, Tryd.ntmps13
  go_wp2_with fail
  have hi := HI.out.below HB0.out
  refine (check15 p _ _ _ _ _ (HK.out.below HB0.out) hi.hs hi.hm hi.hc).mono ?_
  rintro e w1 ⟨rfl, hb1⟩
  have hb := HB0.out.trans (hb1.mono HB0.out.size)
  have BX := Lib.hid (HBX.out.below hb1)
  clear hi hb1 HBX HB0
  obtain ⟨q0, q1, q2, q3, q4⟩ := BX.out
  have hlt0 : w.heap.size < w1.heap.size := BX.out.lt
  by_cases h0 : ¬ checkP p = 0
  · have h0' : (checkP p != 0) = true := by simpa using h0
    have H0 := Lib.hid h0; clear h0
    go_wp2
    go_ret
    refine ⟨hb, none, 0, ?_, fun k hk => ?_⟩
    · unfold doomedP; rw [if_neg H0.out]; rfl
    · unfold doomedP at hk; rw [if_neg H0.out] at hk; simp at hk
  have h0 : checkP p = 0 := Classical.not_not.1 h0
  have h0' : (checkP p != 0) = false := by simp [h0]
  have hn16 : p.sts.length ≤ 16 := (ok_parts h0).2.2.2.2.1
  have hm256 : p.mvs.length ≤ 256 := (ok_parts h0).2.2.2.2.2
  have S2 := (ok_parts h0).2.1
  simp only [stB, Bool.and_eq_true, decide_eq_true_eq] at S2
  obtain ⟨s1, s2⟩ := S2
  have H0 := Lib.hid h0; clear h0
  have hmk := make47 p.sts.length (by omega)
  have t1 : p.err.toNat < p.sts.length := by omega
  have BK0 : Hid (BlkB (w1.alloc (.cells (bl (List.replicate p.sts.length false)) 4)) w1.heap.size (List.replicate p.sts.length false)) := heap_alloc_new w1 _
  have g1 := BK0.out.cell p.err.toNat (by simp; omega)
  have g2 := BK0.out.free p.err.toNat
  have hbA : Below w1.heap.size w1 (w1.alloc (.cells (bl (doom0 p)) 4)) := (Below.refl _ _).alloc (Nat.le_refl _) _
  have BX2 := Lib.hid (BX.out.below hbA)
  have HB2 := Lib.hid (hb.trans (hbA.mono hb.size))
  have BK2 : Hid (BlkB (w1.alloc (.cells (bl (doom0 p)) 4)) w1.heap.size (doom0 p)) := heap_alloc_new w1 _
  clear hbA
  go_wp2
  rw [show (bl (List.replicate p.sts.length false)).setIfInBounds p.err.toNat (Value.bool true) = bl (doom0 p) from by apply Array.ext'; simp [bl, doom0, List.map_set]]
  clear g1 g2 BK0 hb BX q0 q1 q2 q3 q4 hmk
  generalize w1.alloc (.cells (bl (doom0 p)) 4) = W2 at *
  obtain ⟨gB, hgB⟩ : ∃ gB, gB = w1.heap.size := ⟨_, rfl⟩
  rw [← hgB] at BK2 hlt0 ⊢
  clear hgB
  go_loopg [4] (2 * cntF (doom0 p) + 1) (fun n m wr => ∃ (k : Nat) (b : Bool), m = .bool b ∧ n = 2 * cntF (passN p.mvs k (doom0 p)) + b.toNat ∧ Hid (b = false → passL (passN p.mvs k (doom0 p)) p.mvs = passN p.mvs k (doom0 p)) ∧ Hid (BlkB wr gB (passN p.mvs k (doom0 p))) ∧ Below w.heap.size w wr ∧ Hid (Box wr w.heap.size p a1 c1 a2 c2))
  case atStart => exact ⟨0, true, rfl, rfl, (fun h => by cases h), BK2.out, HB2.out, BX2.out⟩
  case round =>
    clear BK2 HB2 BX2
    obtain ⟨j, b, rfl, hg, HF, BK, hb, BX⟩ := hrel
    have HG := Lib.hid hg; clear hg
    obtain ⟨q0, q1, q2, q3, q4⟩ := BX.out
    cases b
    case true =>
      go_wp2
      obtain ⟨d, hd⟩ : ∃ d, d = passN p.mvs j (doom0 p) := ⟨_, rfl⟩
      rw [← hd] at BK
      have HD := Lib.hid hd; clear hd
      have hdl : d.length = p.sts.length := by rw [HD.out, passN_len, doom0_len]
      have HDL := Lib.hid hdl; clear hdl
      obtain ⟨wo, rfl⟩ : ∃ wo : World, wo = wr := ⟨_, rfl⟩
      go_loopw [4, 25] (fun m i wr => ∃ (k : Nat) (b : Bool), k ≤ p.mvs.length ∧ i = .int .i64 k ∧ m = .bool b ∧ Hid ((b = true → cntF (passL d (p.mvs.take k)) < cntF d) ∧ (b = false → passL d (p.mvs.take k) = d)) ∧ Hid (BlkB wr gB (passL d (p.mvs.take k))) ∧ Below w.heap.size w wr ∧ Hid (Box wr w.heap.size p a1 c1 a2 c2)) (fun _ i _ => p.mvs.length - (intOf i).toNat)
      case atStart => exact ⟨0, false, Nat.zero_le _, rfl, rfl, ⟨(fun h => by cases h), fun _ => rfl⟩, BK.out, hb, BX.out⟩
      case round =>
        clear q0 q1 q2 q3 q4 hb BX BK
        obtain ⟨k, b, hk, rfl, rfl, HC, BK, hb, BX⟩ := hrel
        have hltr : w.heap.size < wr.heap.size := BX.out.lt
        have hltg : gB < wr.heap.size := BK.out.lt
        by_cases hlt : k < p.mvs.length
        · obtain ⟨bm, om, rfl, m1, m2, m3⟩ := HI.out.hm.below hb k hlt
          have hv := mv_of_ok (ok_parts H0.out).2.2.2.1 k hlt (by omega)
          have HT := Lib.hid (passL_take hlt d)
          obtain ⟨x, hx⟩ : ∃ x, x = p.mvs[k] := ⟨_, rfl⟩
          rw [← hx] at m1 m2 m3 hv HT
          clear hx
          obtain ⟨D, hD⟩ : ∃ D, D = passL d (p.mvs.take k) := ⟨_, rfl⟩
          rw [← hD] at HC BK HT
          have hDl : D.length = p.sts.length := by rw [hD, passL_len]; exact HDL.out
          clear hD
          simp only [stB, Bool.and_eq_true, decide_eq_true_eq] at hv
          obtain ⟨⟨f1, f2⟩, ⟨f3, f4⟩, _⟩ := hv
          have u1 : x.to.toNat < p.sts.length := by omega
          have u2 : x.frm.toNat < p.sts.length := by omega
          have k1 := BK.out.cell x.to.toNat (by omega)
          have k2 := BK.out.cell x.frm.toNat (by omega)
          have k3 := BK.out.free x.frm.toNat
          have hbA : Below wr.heap.size wr (wr.alloc (.cells #[.int .i64 x.frm, .string x.meth, .int .i64 x.to] 46)) := (Below.refl _ _).alloc (Nat.le_refl _) _
          have BXA := Lib.hid (BX.out.below hbA)
          have BKA := Lib.hid (BK.out.below hbA)
          have HBA := Lib.hid (hb.trans (hbA.mono hb.size))
          clear hbA
          have HDl := Lib.hid hDl; clear hDl
          cases e1 : D.getD x.to.toNat false
          · rw [e1] at k1
            have HT2 : Hid (passL d (p.mvs.take (k + 1)) = D) := by show _ = _; rw [HT.out]; unfold pass1; rw [e1]; rfl
            go_wp2
            go_roundw
            case rel => exact ⟨k + 1, b, by omega, by go_num, rfl, by rw [HT2.out]; exact HC.out, by rw [HT2.out]; exact BKA.out, HBA.out, BXA.out⟩
            case measure => simp [intOf]; omega
          · rw [e1] at k1
            cases e2 : D.getD x.frm.toNat false
            · rw [e2] at k2
              have HT2 : Hid (passL d (p.mvs.take (k + 1)) = D.set x.frm.toNat true) := by show _ = _; rw [HT.out]; unfold pass1; rw [e1]; rfl
              have hcnt : cntF (D.set x.frm.toNat true) < cntF D := cntF_set (by rw [HDl.out]; exact u2) (by have := e2; simp [HDl.out, u2] at this; exact this)
              have HCNT : Hid (cntF (D.set x.frm.toNat true) < cntF d) := by
                show _ < _
                cases hbb : b
                · have := HC.out.2 hbb; rw [this] at hcnt ⊢; exact hcnt
                · have := HC.out.1 hbb; omega
              clear hcnt
              go_wp2
              go_roundw
              case rel => exact ⟨k + 1, true, by omega, by go_num, rfl, by rw [HT2.out]; exact ⟨fun _ => HCNT.out, (fun h => by cases h)⟩, by rw [HT2.out]; exact (BK.out.set _).below ((Below.refl _ _).alloc (Nat.le_refl _) _), (hb.setCell (p := ⟨gB, x.frm.toNat, none⟩) (Nat.le_of_lt hlt0) (.bool true)).alloc (hb.setCell (p := ⟨gB, x.frm.toNat, none⟩) (Nat.le_of_lt hlt0) (.bool true)).size _, (BX.out.setCell (Nat.ne_of_lt hlt0) _).below ((Below.refl _ _).alloc (Nat.le_refl _) _)⟩
              case measure => simp [intOf]; omega
            · rw [e2] at k2
              have HT2 : Hid (passL d (p.mvs.take (k + 1)) = D) := by show _ = _; rw [HT.out]; unfold pass1; rw [e1]; exact set_true_self e2
              go_wp2
              go_roundw
              case rel => exact ⟨k + 1, b, by omega, by go_num, rfl, by rw [HT2.out]; exact HC.out, by rw [HT2.out]; exact BKA.out, HBA.out, BXA.out⟩
              case measure => simp [intOf]; omega
        · have HK2 : Hid (passL d (p.mvs.take k) = passL d p.mvs) := by show _ = _; rw [List.take_of_length_le (by omega)]
          have HN : Hid (passN p.mvs (j + 1) (doom0 p) = passL d p.mvs) := by show _ = _; rw [passN_succ, ← HD.out]
          have BK3 := BK.out
          rw [HK2.out, ← HN.out] at BK3
          have BKK := Lib.hid BK3; clear BK3
          go_wp2
          cases b
          case false =>
            have hfix : passL d p.mvs = d := by rw [← HK2.out]; exact HC.out.2 rfl
            have HFX := Lib.hid hfix; clear hfix
            go_roundg (2 * cntF (passN p.mvs (j + 1) (doom0 p)))
            case rel => exact ⟨j + 1, false, rfl, rfl, fun _ => by rw [HN.out, HFX.out, HFX.out], BKK.out, hb, BX.out⟩
            case measure => rw [HG.out, HN.out, HFX.out, HD.out]; simp
          case true =>
            have hlt2 : cntF (passL d p.mvs) < cntF d := by rw [← HK2.out]; exact HC.out.1 rfl
            have HLT := Lib.hid hlt2; clear hlt2
            go_roundg (2 * cntF (passN p.mvs (j + 1) (doom0 p)) + 1)
            case rel => exact ⟨j + 1, true, rfl, rfl, (fun h => by cases h), BKK.out, hb, BX.out⟩
            case measure => rw [HG.out, HN.out]; have := HLT.out; rw [← HD.out]; simp; omega
    case false =>
      have hfin : passN p.mvs j (doom0 p) = doomL p := doomL_of p (HF.out rfl)
      rw [hfin] at BK
      clear hfin HF HG
      have hdl := doomL_len p
      have HDL := Lib.hid hdl; clear hdl
      have hltg : gB < wr.heap.size := BK.out.lt
      go_wp2
      obtain ⟨wo, rfl⟩ : ∃ wo : World, wo = wr := ⟨_, rfl⟩
      have OWN0 : Hid (wo.ownsRow (gB + 1) 3 1 (.slice none 0 0) 0 ((truesTo (doomL p) 0).map (Value.int .i64))) := World.ownsRow_nil wo (gB + 1) 3 1
      go_loopw [7, 49] (fun v i wr => ∃ k : Nat, k ≤ p.sts.length ∧ i = .int .i64 k ∧ Hid (wr.ownsRow (gB + 1) 3 1 v (truesTo (doomL p) k).length ((truesTo (doomL p) k).map (Value.int .i64))) ∧ Hid (BlkB wr gB (doomL p)) ∧ Below w.heap.size w wr) (fun _ i _ => p.sts.length - (intOf i).toNat)
      case atStart => exact ⟨0, Nat.zero_le _, rfl, OWN0.out, BK.out, hb⟩
      case round =>
        clear q0 q1 q2 q3 q4 hb BX BK OWN0 hltg
        obtain ⟨k, hk, rfl, OWN, BK, hb⟩ := hrel
        have hltg : gB < wr.heap.size := BK.out.lt
        by_cases hlt : k < p.sts.length
        · have k1 := BK.out.cell k (by rw [HDL.out]; exact hlt)
          have HT := Lib.hid (truesTo_succ (doomL p) k)
          have hlen : (truesTo (doomL p) k).length ≤ k := by
            unfold truesTo
            rw [List.length_map]
            exact Nat.le_trans (List.length_filter_le _ _) (by simp)
          cases e1 : (doomL p).getD k false
          · rw [e1] at k1
            have HT2 : Hid (truesTo (doomL p) (k + 1) = truesTo (doomL p) k) := by show _ = _; rw [HT.out, e1]; simp
            go_wp2
            go_roundw
            case rel => exact ⟨k + 1, by omega, by go_num, by rw [HT2.out]; exact OWN.out, BK.out, hb⟩
            case measure => simp [intOf]; omega
          · rw [e1] at k1
            have HT2 : Hid (truesTo (doomL p) (k + 1) = truesTo (doomL p) k ++ [(k : Int)]) := by show _ = _; rw [HT.out, e1]; rfl
            have OWN3 := OWN.out
            generalize truesTo (doomL p) k = T at *
            obtain ⟨i0, hi, hz0, hz1, hz2⟩ := info_parts Tryd_info3
            go_wp2_with (at_builtin; refine wpList_append_own _ rfl _ _ 31 rfl (gB + 1) 3 i0 (.int .i64 0) 1 8 Tryd.underlying31 hi hz0 hz1 hz2 rfl (by decide) _ _ _ rfl (OWN3.alloc _) ⟨wr.heap.size, 0, none⟩ 1 1 [.int .i64 (k : Int)] rfl rfl ?c1 ?c2 ?c3 ?c4 ?c5 ?_)
            case c1 => exact (cell_one_new _ _ _)
            case c2 => intro u hu; simp only [List.mem_singleton] at hu; subst hu; rfl
            case c3 => unfold maxLen; omega
            case c4 => omega
            case c5 => simp; omega
            intro v' w5 hown' hgrow _
            have hb5 : Below w.heap.size w w5 := (hb.alloc hb.size _).grown hgrow (by have := hb.size; simp; omega) (fun k hk => by have := (OWN3.lt k hk).1; omega)
            have BK5 := Lib.hid ((BK.out.below ((Below.refl _ _).alloc (Nat.le_refl _) _)).grown hgrow (owns_ne OWN3 (by omega)))
            have OWN5 : Hid (w5.ownsRow (gB + 1) 3 1 v' (truesTo (doomL p) (k + 1)).length ((truesTo (doomL p) (k + 1)).map (Value.int .i64))) := by
              show World.ownsRow ..
              rw [HT2.out, List.map_append, List.length_append]
              exact hown'
            clear hown' hgrow OWN3 hi hz0 hz1 hz2
            go_wp2
            go_roundw
            case rel => exact ⟨k + 1, by omega, by go_num, OWN5.out, BK5.out, hb5⟩
            case measure => simp [intOf]; omega
        · obtain rfl : k = p.sts.length := by omega
          have HP : Hid (doomedP p = truesTo (doomL p) p.sts.length) := by show _ = _; unfold doomedP; rw [if_pos H0.out]
          have OWN3 := OWN.out
          rw [← HP.out] at OWN3
          obtain ⟨_, av, cv, hv, hst⟩ := owns_ints OWN3
          clear OWN3 OWN
          rw [hv]
          have HST := Lib.hid hst; clear hst
          go_wp2
          go_ret
          exact ⟨hb, av, cv, rfl, HST.out⟩
end Go.Proofs.YtlkafolgbkobpaaDoor
