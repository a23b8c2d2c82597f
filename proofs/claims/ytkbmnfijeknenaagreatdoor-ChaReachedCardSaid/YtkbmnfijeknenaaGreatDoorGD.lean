/-
  The reference's right, Marked and closure.
  The reference's reached functions.
  The reference's graph of call edges.
-/
import Derived.Test.YtkbmnfijeknenaaGreatDoorGC
namespace Go.Proofs.YtkbmnfijeknenaaGreatDoor
open Go.RowKit Go.Unit0 Go.AM

def BlsAt (w : World) (a : Option Addr) (l : List Bool) : Prop :=
  ∀ k (h : k < l.length), ∃ b off, a = some ⟨b, off, none⟩ ∧ w.cell? ⟨b, off + k, none⟩ = some (.bool l[k])
theorem BlsAt.below {w w' : World} {a : Option Addr} {l : List Bool} (h : BlsAt w a l) (hb : Below w.heap.size w w') : BlsAt w' a l := by
  intro k hk
  obtain ⟨b, off, ha, h0⟩ := h k hk
  exact ⟨b, off, ha, cell_below hb h0⟩
abbrev blsC (bs : List Bool) : Array Value := (bs.map Value.bool).toArray
theorem bls_blk {w : World} {g : Nat} {bs : List Bool} {t : TypeId} (h : Blk w g (blsC bs) t) : BlsAt w (some ⟨g, 0, none⟩) bs := by
  intro k hk
  have := h.cell k (by simpa using hk)
  refine ⟨_, _, rfl, ?_⟩
  rw [Nat.zero_add, this]
  simp
theorem bls_set (bs : List Bool) (k : Nat) : (blsC bs).setIfInBounds k (.bool true) = blsC (bs.set k true) := by
  simp [blsC, List.map_set]
theorem bls_made (n : Nat) : (List.replicate n (Value.bool false)).toArray = blsC (List.replicate n false) := by simp [blsC]
theorem infoB : (Tryz.prog.info? 4).map (fun i => (i.zero, i.size, i.bytes)) = some (some (.bool false), 1, 1) := by kernel_rfl
set_option maxHeartbeats 2000000 in
theorem rightR (u : Unt) (ha : Option Addr) (hc : Nat) (fa : Option Addr) (fc : Nat) (x : Cal) (w : World) (h : ClssAt w ha u.h) (f : FncsAt w fa u.fs) :
    Calls Tryz.prog 58 #[unV u ha hc fa fc, .agg #[.int .i64 x.f, .int .i64 x.i, .int .i64 x.c]] w (Ret w (.bool (rightC u.fs.length x))) := by
  have S0 : Hid (UB u ha hc fa fc w ((w.alloc (unC u ha hc fa fc)).alloc (.cells #[.int .i64 x.f, .int .i64 x.i, .int .i64 x.c] 51))) := (UB.start (hc := hc) (fc := fc) h f).below (one_below ..)
  have B0 : Hid (Blk ((w.alloc (unC u ha hc fa fc)).alloc (.cells #[.int .i64 x.f, .int .i64 x.i, .int .i64 x.c] 51)) (w.heap.size + 1) #[.int .i64 x.f, .int .i64 x.i, .int .i64 x.c] 51) := blk_new2 ..
  have HRI : Hid (rightC u.fs.length x = true ↔ 0 ≤ x.f ∧ x.f < u.fs.length ∧ 0 ≤ x.c ∧ x.c < u.fs.length) := rightC_iff
  clear h f
  generalize rightC u.fs.length x = rr at *
  unfold unV
  go_enter Tryz.func58, Tryz.ntmps58
  go_upto_region 1 with (fail)
  generalize (w.alloc _).alloc _ = W at *
  obtain ⟨z0, z1, z2⟩ := S0.out.cells
  have y0 := B0.out.cell 0 (by simp)
  have y2 := B0.out.cell 2 (by simp)
  simp only [List.getElem_toArray, List.getElem_cons_zero, List.getElem_cons_succ] at y0 y2
  by_cases g1 : 0 ≤ x.f
  case neg =>
    have t1 := decide_eq_false g1
    have HF : Hid (rr = false) := Bool.eq_false_iff.2 (fun e => g1 (HRI.out.1 e).1)
    clear g1
    go_wp2
    go_ret
    exact ⟨ret_bool HF.out.symm, S0.out.hb⟩
  have t1 := decide_eq_true g1
  by_cases g2 : x.f < (u.fs.length : Int)
  case neg =>
    have t2 := decide_eq_false g2
    have HF : Hid (rr = false) := Bool.eq_false_iff.2 (fun e => g2 (HRI.out.1 e).2.1)
    clear g1 g2
    go_wp2
    go_ret
    exact ⟨ret_bool HF.out.symm, S0.out.hb⟩
  have t2 := decide_eq_true g2
  by_cases g3 : 0 ≤ x.c
  case neg =>
    have t3 := decide_eq_false g3
    have HF : Hid (rr = false) := Bool.eq_false_iff.2 (fun e => g3 (HRI.out.1 e).2.2.1)
    clear g1 g2 g3
    go_wp2
    go_ret
    exact ⟨ret_bool HF.out.symm, S0.out.hb⟩
  have t3 := decide_eq_true g3
  by_cases g4 : x.c < (u.fs.length : Int)
  case neg =>
    have t4 := decide_eq_false g4
    have HF : Hid (rr = false) := Bool.eq_false_iff.2 (fun e => g4 (HRI.out.1 e).2.2.2)
    clear g1 g2 g3 g4
    go_wp2
    go_ret
    exact ⟨ret_bool HF.out.symm, S0.out.hb⟩
  have t4 := decide_eq_true g4
  have HF : Hid (rr = true) := HRI.out.2 ⟨g1, g2, g3, g4⟩
  clear g1 g2 g3 g4
  go_wp2
  go_ret
  exact ⟨ret_bool HF.out.symm, S0.out.hb⟩
set_option maxHeartbeats 2000000 in
theorem markedR (bs : List Bool) (a : Option Addr) (c : Nat) (w : World) (h : BlsAt w a bs) (hl : bs.length ≤ 1000) :
    Calls Tryz.prog 59 #[.slice a bs.length c] w (IntsPost (marked bs) w) := by
  have HL := Lib.hid h
  clear h
  have HMK : Hid (marked bs = markT bs bs.length) := rfl
  go_enter Tryz.func59, Tryz.ntmps59
  go_wp2
  go_loopw [3, 4] (fun v i wr => ∃ (k : Nat) (oa : Option Addr) (oc : Nat), k ≤ bs.length ∧ v = .slice oa (markT bs k).length oc ∧ i = .int .i64 k ∧ Hid (Below w.heap.size w wr) ∧ Hid (wr.ownsRow w.heap.size 3 1 (.slice oa (markT bs k).length oc) (markT bs k).length ((markT bs k).map intV))) (fun _ i _ => bs.length - (intOf i).toNat)
  case atStart => exact ⟨0, none, 0, Nat.zero_le _, rfl, rfl, Below.refl _ _, World.ownsRow_nil _ _ _ _⟩
  case round =>
    obtain ⟨k, oa, oc, hk, rfl, rfl, HB, OW⟩ := hrel
    by_cases hlt : k < bs.length
    case neg =>
      obtain rfl : k = bs.length := by omega
      go_wp2
      go_ret
      rw [← HMK.out]
      exact ⟨HB.out, oa, oc, rfl, OW.out⟩
    obtain ⟨b, off, he, c0⟩ := (HL.out.below HB.out) k hlt
    subst he
    have hml := markT_len bs k
    cases hv : bs[k]
    case false =>
      rw [hv] at c0
      have HS : Hid (markT bs (k + 1) = markT bs k) := markT_f (by rw [List.getElem?_eq_getElem hlt, hv])
      clear hv
      go_wp2
      go_roundw
      case rel => exact ⟨k + 1, oa, oc, by omega, by rw [HS.out], by go_num, HB.out, by rw [HS.out]; exact OW.out⟩
      case measure => simp [intOf]; omega
    case true =>
      rw [hv] at c0
      have HS : Hid (markT bs (k + 1) = markT bs k ++ [(k : Int)]) := markT_t (by rw [List.getElem?_eq_getElem hlt, hv])
      clear hv
      generalize markT bs k = mk at *
      have O1 := Lib.hid (owns_below OW.out (one_below wr (.cells #[.int .i64 k] 3)))
      have hbs := HB.out.size
      have hb1 : Below w.heap.size w (wr.alloc (.cells #[.int .i64 k] 3)) := HB.out.trans ((one_below ..).mono hbs)
      have hbs1 := hb1.size
      go_wp2_with (at_builtin; refine app_ints rfl _ _ rfl w.heap.size _ mk rfl O1.out _ 1 [(k : Int)] rfl (ints_new _ _) (by omega) (by simp) hbs1 ?_; intro v7 W7 own7 hg7; obtain ⟨-, oa7, oc7, rfl, -, -⟩ := owns_ints own7)
      have HB7 := Lib.hid (hb1.grown hg7 hbs1 (fun q hq => (O1.out.lt q hq).1))
      have OW7 := Lib.hid own7
      go_roundw
      case rel => exact ⟨k + 1, oa7, oc7, by omega, by rw [HS.out]; first | rfl | simp, by go_num, HB7.out, by rw [HS.out]; exact OW7.out⟩
      case measure => simp [intOf]; omega
def cntV (l : List Value) : Nat := l.countP (fun v => match v with | .bool false => true | _ => false)
theorem cntV_bls (bs : List Bool) : cntV (bs.map Value.bool) = cntF bs := by
  unfold cntV cntF
  induction bs with
  | nil => rfl
  | cons b bs ih =>
    rw [List.map_cons, List.countP_cons, List.count_cons, ih]
    cases b <;> rfl
def cntW (w : World) (g : Nat) : Nat := match w.heap[g]? with
  | some (.cells cs _ _) => cntV cs.toList
  | _ => 0
theorem cntW_blk {w : World} {g : Nat} {bs : List Bool} {t : TypeId} (h : Blk w g (blsC bs) t) : cntW w g = cntF bs := by
  unfold Blk at h
  unfold cntW
  rw [h]
  exact cntV_bls bs
def mesC (v : Value) (w : World) (g : Nat) : Nat := match v with
  | .bool true => 1 + cntW w g
  | _ => 0
structure ClW (u : Unt) (ha : Option Addr) (hc : Nat) (fa : Option Addr) (fc : Nat) (w0 w wr : World) (g : Nat) (l : List Cal) (bs bs' : List Bool) : Prop where
  hb : Below w0.heap.size w0 wr
  gr : w.grownBy wr (some g)
  b1 : Blk wr w.heap.size #[.slice ha u.h.length hc, .slice fa u.fs.length fc, .int .i64 u.main] 27
  bk : Blk wr g (blsC bs') 4
  ci : CI u.fs.length l bs bs'
theorem ClW.below {u : Unt} {ha : Option Addr} {hc : Nat} {fa : Option Addr} {fc : Nat} {w0 w wr w' : World} {g : Nat} {l : List Cal} {bs bs' : List Bool} (k : ClW u ha hc fa fc w0 w wr g l bs bs') (hb : Below wr.heap.size wr w') : ClW u ha hc fa fc w0 w w' g l bs bs' :=
  ⟨k.hb.trans (hb.mono k.hb.size), grown_below k.gr hb, k.b1.below hb, k.bk.below hb, k.ci⟩
set_option maxRecDepth 100000 in
set_option maxHeartbeats 8000000 in
theorem closureR2 (u : Unt) (ha : Option Addr) (hc : Nat) (fa : Option Addr) (fc : Nat) (bs : List Bool) (g : Nat) (l : List Cal) (la : Option Addr) (lc : Nat) (w0 w : World) (h : ClssAt w0 ha u.h) (f : FncsAt w0 fa u.fs) (hl : ∀ wx, w.grownBy wx (some g) → CalsAt wx la l)
    (hb0 : Below w0.heap.size w0 w) (hg : w0.heap.size ≤ g) (hbk : Blk w g (blsC bs) 4) (hn : bs.length = u.fs.length) (_hn2 : u.fs.length ≤ 1000) (hll : l.length ≤ 1000000) :
    Calls Tryz.prog 60 #[unV u ha hc fa fc, .slice (some ⟨g, 0, none⟩) bs.length bs.length, .slice la l.length lc] w (fun e w' => w.grownBy w' (some g) ∧ ∃ bs', e = .returned (.slice (some ⟨g, 0, none⟩) bs.length bs.length) ∧ Blk w' g (blsC bs') 4 ∧ CI u.fs.length l bs bs' ∧ ClosedB u.fs.length l bs') := by
  have S0 : Hid (ClW u ha hc fa fc w0 w (w.alloc (unC u ha hc fa fc)) g l bs bs) :=
    ⟨hb0.trans ((one_below ..).mono hb0.size), below_grown0 (one_below ..) _, blk_new .., hbk.below (one_below ..), CI.refl _ _ _⟩
  have hgl := hbk.lt
  have HR : Hid (∀ (x : Cal) (w1 : World), ClssAt w1 ha u.h → FncsAt w1 fa u.fs → Calls Tryz.prog 58 #[unV u ha hc fa fc, .agg #[.int .i64 x.f, .int .i64 x.i, .int .i64 x.c]] w1 (Ret w1 (.bool (rightC u.fs.length x)))) := fun x w1 h1 h2 => rightR u ha hc fa fc x w1 h1 h2
  have HH := Lib.hid h
  have HF := Lib.hid f
  have HL := Lib.hid hl
  clear h f hl hb0 hbk
  unfold unV at *
  go_enter Tryz.func60, Tryz.ntmps60
  go_wp2
  generalize w.alloc _ = W at *
  go_loopw [7] (fun v wr => ∃ (mo : Bool) (bs' : List Bool), v = .bool mo ∧ Hid (ClW u ha hc fa fc w0 w wr g l bs bs') ∧ Hid (mo = false → ClosedB u.fs.length l bs')) (fun v wr => mesC v wr g)
  case atStart => exact ⟨true, bs, rfl, S0.out, fun e => (by cases e)⟩
  case round =>
    clear S0
    obtain ⟨mo, b1, rfl, S, HC⟩ := hrel
    cases mo
    case false =>
      have HC0 := Lib.hid (HC.out rfl)
      clear HC
      go_wp2
      go_ret
      first | exact ⟨S.out.gr, b1, rfl, S.out.bk, S.out.ci, HC0.out⟩ | exact ⟨S.out.gr, (by rw [hn]; rfl), b1, S.out.bk, S.out.ci, HC0.out⟩
    clear HC
    have hm1 := cntW_blk S.out.bk
    obtain ⟨wo, rfl⟩ : ∃ wo, wo = wr := ⟨_, rfl⟩
    go_wp2
    go_loopw [7, 8] (fun v i wr => ∃ (q : Nat) (mo : Bool) (b2 : List Bool), q ≤ l.length ∧ v = .bool mo ∧ i = .int .i64 q ∧ Hid (ClW u ha hc fa fc w0 w wr g l bs b2) ∧ Hid (mo = false → b2 = b1 ∧ ClosedB u.fs.length (l.take q) b2) ∧ Hid (mo = true → cntF b2 < cntF b1) ∧ Hid (cntF b2 ≤ cntF b1)) (fun _ i _ => l.length - (intOf i).toNat)
    case atStart => exact ⟨0, false, b1, Nat.zero_le _, rfl, rfl, S.out, fun _ => ⟨rfl, ClosedB.nil _ _⟩, fun e => (by cases e), Nat.le_refl _⟩
    case round =>
      clear S
      obtain ⟨q, mo, b2, hq, rfl, rfl, S, HC, HM, HLE⟩ := hrel
      have hm2 := cntW_blk S.out.bk
      by_cases hlt : q < l.length
      case neg =>
        have HC2 : Hid (mo = false → ClosedB u.fs.length l b2) := fun e => by
          have := (HC.out e).2
          rw [List.take_of_length_le (by omega)] at this
          exact this
        have HM2 := HM.out
        go_wp2
        go_roundw
        case rel => exact ⟨mo, b2, rfl, S.out, HC2.out⟩
        case measure =>
          cases mo
          · simp only [mesC]; omega
          · have := HM2 rfl
            simp only [mesC]
            omega
      obtain ⟨bb, off, he, m0, m1, m2⟩ := (HL.out _ S.out.gr) q hlt
      subst he
      have HT : Hid (l.take (q + 1) = l.take q ++ [l[q]]) := List.take_succ_eq_append_getElem hlt
      have HXL : Hid (l[q] ∈ l) := List.getElem_mem hlt
      generalize l[q] = x at *
      have hne : Nonempty (WB wr) := ⟨⟨wr, Below.refl _ _⟩⟩
      have c0 := S.out.b1.cell 0 (by simp)
      have c1 := S.out.b1.cell 1 (by simp)
      have c2 := S.out.b1.cell 2 (by simp)
      simp only [List.getElem_toArray, List.getElem_cons_zero, List.getElem_cons_succ] at c0 c1 c2
      have k0 : ∀ o : WB wr, o.u.cell? ⟨w.heap.size, 0, none⟩ = some (.slice ha u.h.length hc) := fun o => cell_below o.h c0
      have k1 : ∀ o : WB wr, o.u.cell? ⟨w.heap.size, 1, none⟩ = some (.slice fa u.fs.length fc) := fun o => cell_below o.h c1
      have k2 : ∀ o : WB wr, o.u.cell? ⟨w.heap.size, 2, none⟩ = some (.int .i64 u.main) := fun o => cell_below o.h c2
      have k3 : ∀ o : WB wr, o.u.cell? ⟨bb, off + q * 3, none⟩ = some (.int .i64 x.f) := fun o => cell_below o.h m0
      have k4 : ∀ o : WB wr, o.u.cell? ⟨bb, off + q * 3 + 1, none⟩ = some (.int .i64 x.i) := fun o => cell_below o.h m1
      have k5 : ∀ o : WB wr, o.u.cell? ⟨bb, off + q * 3 + 2, none⟩ = some (.int .i64 x.c) := fun o => cell_below o.h m2
      have HRX := Lib.hid (HR.out x)
      have HBL : Hid (b2.length = u.fs.length) := by show _ = _; rw [S.out.ci.len, hn]
      have HRC : Hid (rightC u.fs.length x = true ↔ 0 ≤ x.f ∧ x.f < u.fs.length ∧ 0 ≤ x.c ∧ x.c < u.fs.length) := rightC_iff
      have HSN : Hid ((rightC u.fs.length x = true → At b2 x.f → At b2 x.c) → mo = false → b2 = b1 ∧ ClosedB u.fs.length (l.take (q + 1)) b2) := fun k e => ⟨(HC.out e).1, by rw [HT.out]; exact (HC.out e).2.snoc k⟩
      have HST := Lib.hid (@CI.step u.fs.length l bs b2 x S.out.ci HXL.out)
      clear c0 c1 c2 m0 m1 m2
      cases hr : rightC u.fs.length x
      case false =>
        rw [hr] at HRX
        have HC3 := Lib.hid (HSN.out (fun e => by rw [hr] at e; cases e))
        clear hr HRC HSN HST
        go_upto_region 7 with (fail)
        refine wp_region_WB wr (by kernel_rfl) ?_
        repeat (go_big_quiet_step ((rename_i o; with_reducible exact (HRX.out _ (HH.out.below (S.out.below o.h).hb) (HF.out.below (S.out.below o.h).hb)).mono (fun _ _ h => Ret.inB h))))
        refine wpQuiet_nil ?_
        intro _ hw'
        obtain ⟨o, rfl⟩ := hw'
        have S3 := Lib.hid (S.out.below o.h)
        clear k0 k1 k2 k3 k4 k5
        go_wp2
        go_roundw
        case rel => exact ⟨q + 1, mo, b2, by omega, rfl, by go_num, S3.out, HC3.out, HM.out, HLE.out⟩
        case measure => simp [intOf]; omega
      obtain ⟨g1, g2, g3, g4⟩ := HRC.out.1 hr
      obtain ⟨xf, hxf⟩ : ∃ n : Nat, x.f = n := ⟨x.f.toNat, by omega⟩
      obtain ⟨xc, hxc⟩ : ∃ n : Nat, x.c = n := ⟨x.c.toNat, by omega⟩
      have hfl : xf < b2.length := by have := HBL.out; omega
      have hcl : xc < b2.length := by have := HBL.out; omega
      have hfu : xf < u.fs.length := by omega
      have hcu : xc < u.fs.length := by omega
      have a1 := S.out.bk.cell xf (by simpa using hfl)
      have a2 := S.out.bk.cell xc (by simpa using hcl)
      simp only [List.getElem_toArray, List.getElem_map] at a1 a2
      have HAF : Hid (At b2 x.f ↔ b2[xf] = true) := by show _ ↔ _; rw [hxf]; exact at_dec hfl
      have HAC : Hid (At b2 x.c ↔ b2[xc] = true) := by show _ ↔ _; rw [hxc]; exact at_dec hcl
      have HXC : Hid (x.c.toNat = xc) := by show _ = _; omega
      have HBC : Hid (b2[xc] = false → cntF (b2.set xc true) + 1 = cntF b2) := fun e => cntF_set (by rw [List.getElem?_eq_getElem hcl, e])
      rw [hxf] at k3 HRX
      rw [hxc] at k5 HRX
      rw [hr] at HRX
      have HRT := Lib.hid hr
      clear hr g1 g2 g3 g4
      cases hbf : b2[xf]
      case false =>
        have k6 : ∀ o : WB wr, o.u.cell? ⟨g, xf, none⟩ = some (.bool false) := fun o => by have := cell_below o.h a1; rw [hbf] at this; exact this
        have HC3 := Lib.hid (HSN.out (fun _ e => by rw [HAF.out, hbf] at e; cases e))
        clear hbf a1 a2 HRC HSN HST HBC
        go_upto_region 7 with (fail)
        refine wp_region_WB wr (by kernel_rfl) ?_
        repeat (go_big_quiet_step ((rename_i o; with_reducible exact (HRX.out _ (HH.out.below (S.out.below o.h).hb) (HF.out.below (S.out.below o.h).hb)).mono (fun _ _ h => Ret.inB h))))
        refine wpQuiet_nil ?_
        intro _ hw'
        obtain ⟨o, rfl⟩ := hw'
        have S3 := Lib.hid (S.out.below o.h)
        clear k0 k1 k2 k3 k4 k5 k6
        go_wp2
        go_roundw
        case rel => exact ⟨q + 1, mo, b2, by omega, rfl, by go_num, S3.out, HC3.out, HM.out, HLE.out⟩
        case measure => simp [intOf]; omega
      have k6 : ∀ o : WB wr, o.u.cell? ⟨g, xf, none⟩ = some (.bool true) := fun o => by have := cell_below o.h a1; rw [hbf] at this; exact this
      have HAFT := Lib.hid (HAF.out.2 hbf)
      clear hbf a1
      cases hbc : b2[xc]
      case true =>
        have k7 : ∀ o : WB wr, o.u.cell? ⟨g, xc, none⟩ = some (.bool true) := fun o => by have := cell_below o.h a2; rw [hbc] at this; exact this
        have HC3 := Lib.hid (HSN.out (fun _ _ => HAC.out.2 hbc))
        clear hbc a2 HRC HSN HST HBC
        go_upto_region 7 with (fail)
        refine wp_region_WB wr (by kernel_rfl) ?_
        repeat (go_big_quiet_step ((rename_i o; with_reducible exact (HRX.out _ (HH.out.below (S.out.below o.h).hb) (HF.out.below (S.out.below o.h).hb)).mono (fun _ _ h => Ret.inB h))))
        refine wpQuiet_nil ?_
        intro _ hw'
        obtain ⟨o, rfl⟩ := hw'
        have S3 := Lib.hid (S.out.below o.h)
        clear k0 k1 k2 k3 k4 k5 k6 k7
        go_wp2
        go_roundw
        case rel => exact ⟨q + 1, mo, b2, by omega, rfl, by go_num, S3.out, HC3.out, HM.out, HLE.out⟩
        case measure => simp [intOf]; omega
      have k7 : ∀ o : WB wr, o.u.cell? ⟨g, xc, none⟩ = some (.bool false) := fun o => by have := cell_below o.h a2; rw [hbc] at this; exact this
      have HCN := Lib.hid (HBC.out hbc)
      have HST2 := HST.out HRT.out hn HAFT.out
      rw [HXC.out] at HST2
      have HST3 := Lib.hid HST2
      clear hbc a2 HRC HSN HST HBC HST2
      go_upto_region 7 with (fail)
      refine wp_region_WB wr (by kernel_rfl) ?_
      repeat (go_big_quiet_step ((rename_i o; with_reducible exact (HRX.out _ (HH.out.below (S.out.below o.h).hb) (HF.out.below (S.out.below o.h).hb)).mono (fun _ _ h => Ret.inB h))))
      refine wpQuiet_nil ?_
      intro _ hw'
      obtain ⟨o, rfl⟩ := hw'
      have S3 := Lib.hid (S.out.below o.h)
      have j5 := k5 o
      have j7 := k7 o
      have f7 := S3.out.bk.free xc
      clear k0 k1 k2 k3 k4 k5 k6 k7
      go_upto_region 9 with (fail)
      have S4 : Hid (ClW u ha hc fa fc w0 w (o.u.setCell ⟨g, xc, none⟩ (.bool true)) g l bs (b2.set xc true)) :=
        ⟨S3.out.hb.setCell hg _, grown_grown S3.out.gr (grown_set _ g xc _) (fun q hq => .inr hq), S3.out.b1.other (by omega) _ _, by have := S3.out.bk.set xc (.bool true); rw [bls_set] at this; exact this, HST3.out⟩
      clear j5 j7 f7 S3
      go_wp2
      go_roundw
      case rel => exact ⟨q + 1, true, b2.set xc true, by omega, rfl, by go_num, S4.out, (fun e => by cases e), (fun _ => by have := HCN.out; have := HLE.out; omega), (by show _ ≤ _; have := HCN.out; have := HLE.out; omega)⟩
      case measure => simp [intOf]; omega
theorem closureR (u : Unt) (ha : Option Addr) (hc : Nat) (fa : Option Addr) (fc : Nat) (bs : List Bool) (g : Nat) (l : List Cal) (la : Option Addr) (lc : Nat) (w0 w : World) (h : ClssAt w0 ha u.h) (f : FncsAt w0 fa u.fs) (hl : CalsAt w0 la l)
    (hb0 : Below w0.heap.size w0 w) (hg : w0.heap.size ≤ g) (hbk : Blk w g (blsC bs) 4) (hn : bs.length = u.fs.length) (hn2 : u.fs.length ≤ 1000) (hll : l.length ≤ 1000000) :
    Calls Tryz.prog 60 #[unV u ha hc fa fc, .slice (some ⟨g, 0, none⟩) bs.length bs.length, .slice la l.length lc] w (fun e w' => w.grownBy w' (some g) ∧ ∃ bs', e = .returned (.slice (some ⟨g, 0, none⟩) bs.length bs.length) ∧ Blk w' g (blsC bs') 4 ∧ CI u.fs.length l bs bs' ∧ ClosedB u.fs.length l bs') :=
  closureR2 u ha hc fa fc bs g l la lc w0 w h f (fun wx hx => hl.below (hb0.grown hx hb0.size (fun q hq => by cases hq; exact hg))) hb0 hg hbk hn hn2 hll
end Go.Proofs.YtkbmnfijeknenaaGreatDoor
namespace Go.Proofs.YtkbmnfijeknenaaGreatDoor
open Go.RowKit Go.Unit0 Go.AM

set_option maxRecDepth 100000 in
set_option maxHeartbeats 8000000 in
theorem reachedR (u : Unt) (ha : Option Addr) (hc : Nat) (fa : Option Addr) (fc : Nat) (l : List Cal) (la : Option Addr) (lc : Nat) (w : World) (h : ClssAt w ha u.h) (f : FncsAt w fa u.fs) (hl : CalsAt w la l) (hn : u.fs.length ≤ 1000) (hll : l.length ≤ 1000000) :
    Calls Tryz.prog 22 #[unV u ha hc fa fc, .slice la l.length lc] w (ReachPost u.fs.length l u.main w) := by
  have S0 := Lib.hid (UB.start (hc := hc) (fc := fc) h f)
  have HL := Lib.hid hl
  have HH := Lib.hid h
  have HF := Lib.hid f
  have HZ : Hid ((w.alloc (unC u ha hc fa fc)).heap.size = w.heap.size + 1) := by show _ = _; simp
  clear h f hl
  have HCL := @closureR u ha hc fa fc
  unfold unV at *
  go_enter Tryz.func22, Tryz.ntmps22
  go_upto_region 1 with (fail)
  generalize w.alloc _ = W at *
  obtain ⟨z0, z1, z2⟩ := S0.out.cells
  obtain ⟨i0, hi, hz0, hz1, hz2⟩ := info_parts infoB
  go_upto_region 2 with (refine wpList_make_full W rfl _ _ 58 rfl 0 4 i0 (.bool false) 1 Tryz.underlying58 hi hz0 hz1 .i64 .i64 u.fs.length u.fs.length u.fs.length rfl rfl rfl rfl (by rw [hz2]; omega) (by unfold maxLen; omega) (Nat.zero_le _) ?_; intro W0 own0 hg0)
  have HB0 : Hid (Below W.heap.size W W0) := (Below.refl _ _).grown hg0 (Nat.le_refl _) (fun q hq => by cases hq)
  have S1 := Lib.hid (S0.out.below HB0.out)
  have BK0 : Hid (Blk W0 W.heap.size (blsC (List.replicate u.fs.length false)) 4) := by
    have := blk_of_full own0
    rw [Nat.mul_one, show (Value.bool false).cells = #[.bool false] from rfl, made_one, bls_made] at this
    exact this
  have hgw : w.heap.size ≤ W.heap.size := by rw [HZ.out]; omega
  have hgx : w.heap.size ≠ W.heap.size := by rw [HZ.out]; omega
  clear own0 hg0 S0 HB0 HZ z0 z1 z2 hi hz0 hz1 hz2
  generalize W.heap.size = g at *
  obtain ⟨z0, z1, z2⟩ := S1.out.cells
  generalize hN : u.fs.length = n at *
  by_cases g1 : 0 ≤ u.main
  case neg =>
    have t1 := decide_eq_false g1
    have HS : Hid (∀ x, At (List.replicate n false) x ↔ mainS n u.main x) := fun x => ⟨fun k => absurd k (at_none x), fun k => absurd k.2 (by omega)⟩
    have SX := Lib.hid S1.out
    have BX := Lib.hid BK0.out
    have HBN : Hid ((List.replicate n false).length = n) := List.length_replicate
    clear S1 BK0
    generalize List.replicate n false = bs at *
    clear g1
    clear z0 z1 z2
    obtain ⟨z0, z1, z2⟩ := SX.out.cells
    go_wp2_with fail
    have HC1 := HCL bs g l la lc w _ HH.out HF.out HL.out SX.out.hb hgw BX.out HBN.out hn hll
    rw [HBN.out] at HC1
    refine HC1.mono ?_
    clear HC1
    rintro e w5 ⟨hg5, bs', rfl, bk5, ci5, cl5⟩
    have HB5 := Lib.hid (SX.out.hb.grown hg5 SX.out.hb.size (fun q hq => by cases hq; exact hgw))
    have e5 : bs'.length = n := by rw [ci5.len]; exact HBN.out
    have h5 : bs'.length ≤ 1000 := by rw [e5]; exact hn
    have BL5 := Lib.hid (bls_blk bk5)
    have HD := Lib.hid (ci5.done cl5)
    clear hg5 bk5 ci5 cl5 z0 z1 z2
    go_wp2_with fail
    have HM5 := markedR bs' (some ⟨g, 0, none⟩) bs'.length w5 BL5.out h5
    rw [e5] at HM5
    refine HM5.mono ?_
    clear HM5
    rintro e w6 ⟨hb6, a6, c6, rfl, own6⟩
    have HB6 := Lib.hid (HB5.out.trans (hb6.mono HB5.out.size))
    have HI6 := Lib.hid (owns_ints' own6).2
    have HRL : Hid (ReachL n l u.main (marked bs')) := ⟨marked_lt bs', fun x => mem_marked.trans ((HD.out x).trans (Rch.congr HS.out x))⟩
    clear hb6 own6
    go_wp2
    go_ret
    exact ⟨HB6.out, marked bs', a6, c6, rfl, HRL.out, HI6.out⟩
  have t1 := decide_eq_true g1
  by_cases g2 : u.main < (n : Int)
  case neg =>
    have t2 := decide_eq_false g2
    have HS : Hid (∀ x, At (List.replicate n false) x ↔ mainS n u.main x) := fun x => ⟨fun k => absurd k (at_none x), fun k => absurd k.2 (by omega)⟩
    have SX := Lib.hid S1.out
    have BX := Lib.hid BK0.out
    have HBN : Hid ((List.replicate n false).length = n) := List.length_replicate
    clear S1 BK0
    generalize List.replicate n false = bs at *
    clear g1 g2
    clear z0 z1 z2
    obtain ⟨z0, z1, z2⟩ := SX.out.cells
    go_wp2_with fail
    have HC1 := HCL bs g l la lc w _ HH.out HF.out HL.out SX.out.hb hgw BX.out HBN.out hn hll
    rw [HBN.out] at HC1
    refine HC1.mono ?_
    clear HC1
    rintro e w5 ⟨hg5, bs', rfl, bk5, ci5, cl5⟩
    have HB5 := Lib.hid (SX.out.hb.grown hg5 SX.out.hb.size (fun q hq => by cases hq; exact hgw))
    have e5 : bs'.length = n := by rw [ci5.len]; exact HBN.out
    have h5 : bs'.length ≤ 1000 := by rw [e5]; exact hn
    have BL5 := Lib.hid (bls_blk bk5)
    have HD := Lib.hid (ci5.done cl5)
    clear hg5 bk5 ci5 cl5 z0 z1 z2
    go_wp2_with fail
    have HM5 := markedR bs' (some ⟨g, 0, none⟩) bs'.length w5 BL5.out h5
    rw [e5] at HM5
    refine HM5.mono ?_
    clear HM5
    rintro e w6 ⟨hb6, a6, c6, rfl, own6⟩
    have HB6 := Lib.hid (HB5.out.trans (hb6.mono HB5.out.size))
    have HI6 := Lib.hid (owns_ints' own6).2
    have HRL : Hid (ReachL n l u.main (marked bs')) := ⟨marked_lt bs', fun x => mem_marked.trans ((HD.out x).trans (Rch.congr HS.out x))⟩
    clear hb6 own6
    go_wp2
    go_ret
    exact ⟨HB6.out, marked bs', a6, c6, rfl, HRL.out, HI6.out⟩
  have t2 := decide_eq_true g2
  obtain ⟨mN, hmN⟩ : ∃ k : Nat, u.main = k := ⟨u.main.toNat, by omega⟩
  have hmn : mN < (List.replicate n false).length := by rw [List.length_replicate]; omega
  have hmn2 : mN < n := by omega
  have q1 := BK0.out.cell mN (by simpa using hmn)
  have q2 := BK0.out.free mN
  simp only [List.getElem_toArray, List.getElem_map, List.getElem_replicate] at q1
  have SX : Hid (UB u ha hc fa fc w (W0.setCell ⟨g, mN, none⟩ (.bool true))) := S1.out.grow HH.out HF.out (grown_set W0 g mN _) (fun q hq => by cases hq; omega)
  have BX : Hid (Blk (W0.setCell ⟨g, mN, none⟩ (.bool true)) g (blsC ((List.replicate n false).set mN true)) 4) := by
    have := BK0.out.set mN (.bool true)
    rw [bls_set] at this
    exact this
  have HS : Hid (∀ x, At ((List.replicate n false).set mN true) x ↔ mainS n u.main x) := fun x => by
    rw [at_set hmn x]
    constructor
    · rintro (k | k)
      · exact ⟨by rw [hmN]; exact k, g1, g2⟩
      · exact absurd k (at_none x)
    · rintro ⟨k, _, _⟩
      left
      rw [k, hmN]
  have HBN : Hid (((List.replicate n false).set mN true).length = n) := by show _ = _; simp
  clear g1 g2 S1 BK0
  generalize (List.replicate n false).set mN true = bs at *
  rw [hmN] at z2 t1 t2
  go_upto_region 4 with (fail)
  clear z0 z1 z2
  generalize W0.setCell ⟨g, mN, none⟩ (.bool true) = W5 at *
  clear hmN hmn2 q1 q2 t1 t2
  obtain ⟨z0, z1, z2⟩ := SX.out.cells
  go_wp2_with fail
  have HC1 := HCL bs g l la lc w _ HH.out HF.out HL.out SX.out.hb hgw BX.out HBN.out hn hll
  rw [HBN.out] at HC1
  refine HC1.mono ?_
  clear HC1
  rintro e w5 ⟨hg5, bs', rfl, bk5, ci5, cl5⟩
  have HB5 := Lib.hid (SX.out.hb.grown hg5 SX.out.hb.size (fun q hq => by cases hq; exact hgw))
  have e5 : bs'.length = n := by rw [ci5.len]; exact HBN.out
  have h5 : bs'.length ≤ 1000 := by rw [e5]; exact hn
  have BL5 := Lib.hid (bls_blk bk5)
  have HD := Lib.hid (ci5.done cl5)
  clear hg5 bk5 ci5 cl5 z0 z1 z2
  go_wp2_with fail
  have HM5 := markedR bs' (some ⟨g, 0, none⟩) bs'.length w5 BL5.out h5
  rw [e5] at HM5
  refine HM5.mono ?_
  clear HM5
  rintro e w6 ⟨hb6, a6, c6, rfl, own6⟩
  have HB6 := Lib.hid (HB5.out.trans (hb6.mono HB5.out.size))
  have HI6 := Lib.hid (owns_ints' own6).2
  have HRL : Hid (ReachL n l u.main (marked bs')) := ⟨marked_lt bs', fun x => mem_marked.trans ((HD.out x).trans (Rch.congr HS.out x))⟩
  clear hb6 own6
  go_wp2
  go_ret
  exact ⟨HB6.out, marked bs', a6, c6, rfl, HRL.out, HI6.out⟩
end Go.Proofs.YtkbmnfijeknenaaGreatDoor
namespace Go.Proofs.YtkbmnfijeknenaaGreatDoor
open Go.RowKit Go.Unit0 Go.AM

theorem owns_ne2 {w : World} {b1 e1 s1 n1 b2 e2 s2 n2 : Nat} {v1 v2 : Value} {xs ys : List Value} (h1 : w.ownsRow b1 e1 s1 v1 n1 xs) (h2 : w.ownsRow b2 e2 s2 v2 n2 ys) (hne : e1 ≠ e2) : ∀ q, v1.ownBlock = some q → some q ≠ v2.ownBlock := by
  intro q hq
  rcases h1.2 with ⟨rfl, _⟩ | ⟨g, cap, cur, rfl, _, hh, _⟩
  · simp [Value.ownBlock] at hq
  · simp only [Value.ownBlock, Option.some.injEq] at hq
    subst hq
    exact owns_ne h2 hh hne
structure RG (u : Unt) (ha : Option Addr) (hc : Nat) (fa : Option Addr) (fc : Nat) (w wr : World) (gb : Nat) (L : List Edg) (oa : Option Addr) (oc : Nat) : Prop where
  ub : UB u ha hc fa fc w wr
  rs : Blk wr (w.heap.size + 1) #[.int .i64 0, .slice none 0 0] 39
  gr : Blk wr gb #[.int .i64 u.fs.length, .slice oa L.length oc] 39
  ow : wr.ownsRow (w.heap.size + 2) 42 2 (.slice oa L.length oc) L.length (flatE L)
  gb : w.heap.size + 2 ≤ gb
theorem RG.below {u : Unt} {ha : Option Addr} {hc : Nat} {fa : Option Addr} {fc : Nat} {w wr w' : World} {gb : Nat} {L : List Edg} {oa : Option Addr} {oc : Nat} (k : RG u ha hc fa fc w wr gb L oa oc) (hb : Below wr.heap.size wr w') : RG u ha hc fa fc w w' gb L oa oc :=
  ⟨k.ub.below hb, k.rs.below hb, k.gr.below hb, owns_below k.ow hb, k.gb⟩
set_option maxRecDepth 100000 in
set_option maxHeartbeats 8000000 in
theorem graphR (u : Unt) (ha : Option Addr) (hc : Nat) (fa : Option Addr) (fc : Nat) (l : List Cal) (la : Option Addr) (lc : Nat) (w : World) (h : ClssAt w ha u.h) (f : FncsAt w fa u.fs) (hl : CalsAt w la l) (hn : u.fs.length ≤ 1000) (hll : l.length ≤ 1000000) :
    Calls Tryz.prog 20 #[unV u ha hc fa fc, .slice la l.length lc] w (GraphPost u.fs.length l w) := by
  have S0 : Hid (UB u ha hc fa fc w ((w.alloc (unC u ha hc fa fc)).alloc (.cells #[.int .i64 0, .slice none 0 0] 39))) := (UB.start (hc := hc) (fc := fc) h f).below (one_below ..)
  have RS0 : Hid (Blk ((w.alloc (unC u ha hc fa fc)).alloc (.cells #[.int .i64 0, .slice none 0 0] 39)) (w.heap.size + 1) #[.int .i64 0, .slice none 0 0] 39) := blk_new2 ..
  have HZ : Hid (((w.alloc (unC u ha hc fa fc)).alloc (.cells #[.int .i64 0, .slice none 0 0] 39)).heap.size = w.heap.size + 2) := by show _ = _; simp
  have HL := Lib.hid hl
  have HH := Lib.hid h
  have HF := Lib.hid f
  have HRS := Tryz.results20
  have HR : Hid (∀ (x : Cal) (w1 : World), ClssAt w1 ha u.h → FncsAt w1 fa u.fs → Calls Tryz.prog 58 #[unV u ha hc fa fc, .agg #[.int .i64 x.f, .int .i64 x.i, .int .i64 x.c]] w1 (Ret w1 (.bool (rightC u.fs.length x)))) := fun x w1 h1 h2 => rightR u ha hc fa fc x w1 h1 h2
  clear h f hl
  unfold unV at *
  go_enter Tryz.func20, Tryz.ntmps20
  go_upto_region 1 with (fail)
  generalize (w.alloc _).alloc _ = W at *
  obtain ⟨z0, z1, z2⟩ := S0.out.cells
  have BG : Hid (Blk (W.alloc (.cells #[.int .i64 0, .slice none 0 0] 39)) W.heap.size _ 39) := blk_new ..
  have hsz : W.heap.size ≤ W.heap.size := Nat.le_refl _
  go_upto_region 2 with (refine storeGraph rfl _ _ rfl W.heap.size _ _ _ _ rfl rfl _ BG.out rfl ?_)
  have HB2 := Lib.hid (below_row (one_below W (.cells #[.int .i64 0, .slice none 0 0] 39)) hsz #[.int .i64 u.fs.length, .slice none 0 0])
  have B2 := Lib.hid (BG.out.setRow #[.int .i64 u.fs.length, .slice none 0 0])
  have R0 : Hid (RG u ha hc fa fc w ((W.alloc (.cells #[.int .i64 0, .slice none 0 0] 39)).setRow W.heap.size #[.int .i64 u.fs.length, .slice none 0 0]) W.heap.size [] none 0) :=
    ⟨S0.out.below HB2.out, RS0.out.below HB2.out, B2.out, World.ownsRow_nil _ _ _ _, by rw [HZ.out]; exact Nat.le_refl _⟩
  clear S0 RS0 HZ BG HB2 B2 hsz z0 z1 z2
  generalize (W.alloc _).setRow W.heap.size _ = W0 at *
  generalize W.heap.size = gb at *
  generalize hN : u.fs.length = n at *
  go_wp2
  go_loopw [6] (fun i wr => ∃ (a : Nat) (L : List Edg) (oa : Option Addr) (oc : Nat), a ≤ n ∧ i = .int .i64 a ∧ Hid (RG u ha hc fa fc w wr gb L oa oc) ∧ Hid (GI n l a L)) (fun i _ => n - (intOf i).toNat)
  case atStart => exact ⟨0, [], none, 0, Nat.zero_le _, rfl, R0.out, GI.nil _ _⟩
  case round =>
    clear R0
    obtain ⟨a, L, oa, oc, han, rfl, R, G⟩ := hrel
    have y0 := R.out.gr.cell 0 (by simp)
    have y1 := R.out.gr.cell 1 (by simp)
    simp only [List.getElem_toArray, List.getElem_cons_zero, List.getElem_cons_succ] at y0 y1
    rw [hN] at y0
    by_cases hlt : a < n
    case neg =>
      obtain rfl : a = n := by omega
      have HG := Lib.hid G.out.done
      have HLL := G.out.len
      have hnn : a * a ≤ 1000 * 1000 := Nat.mul_le_mul hn hn
      go_wp2_with (refine storeGraph rfl _ _ rfl (w.heap.size + 1) _ _ _ _ rfl rfl _ R.out.rs rfl ?_)
      have hX : Blk (wr.setRow (w.heap.size + 1) #[.int .i64 a, .slice oa L.length oc]) (w.heap.size + 1) #[.int .i64 a, .slice oa L.length oc] 39 := R.out.rs.setRow _
      refine bodyPost_ret (v := .agg #[.int .i64 a, .slice oa L.length oc]) (results_c HRS _ _ (w.heap.size + 1) _ _ rfl hX Tryz.underlying39 rfl (by kernel_rfl)) rfl ?_
      have hb6 := below_setRow R.out.ub.hb (Nat.le_succ _) #[.int .i64 a, .slice oa L.length oc]
      have O6 : (wr.setRow (w.heap.size + 1) #[.int .i64 a, .slice oa L.length oc]).ownsRow (w.heap.size + 2) 42 2 (.slice oa L.length oc) L.length (flatE L) :=
        R.out.ow.kept (grown_row wr (w.heap.size + 1) _) (by
          cases hv : Value.ownBlock (.slice oa L.length oc) with
          | none => exact .inl rfl
          | some q => exact .inr (fun e => by cases e; have := (R.out.ow.lt _ hv).1; omega))
      exact ⟨hb6, L, oa, oc, rfl, HG.out, owns_mono O6 (Nat.le_add_right _ _), by omega⟩
    obtain ⟨i0, hi, hz0, hz1, hz2⟩ := info_parts infoB
    go_upto_region 6 with (refine wpList_make_full wr rfl _ _ 58 rfl 0 4 i0 (.bool false) 1 Tryz.underlying58 hi hz0 hz1 .i64 .i64 n n n rfl rfl rfl rfl (by rw [hz2]; omega) (by unfold maxLen; omega) (Nat.zero_le _) ?_; intro W1 own1 hg1)
    have HB1 : Hid (Below wr.heap.size wr W1) := (Below.refl _ _).grown hg1 (Nat.le_refl _) (fun q hq => by cases hq)
    have R1 := Lib.hid (R.out.below HB1.out)
    have BK1 : Hid (Blk W1 wr.heap.size (blsC (List.replicate n false)) 4) := by
      have := blk_of_full own1
      rw [Nat.mul_one, show (Value.bool false).cells = #[.bool false] from rfl, made_one, bls_made] at this
      exact this
    have hgm : w.heap.size + 2 ≤ wr.heap.size := Nat.le_trans R.out.gb (Nat.le_of_lt R.out.gr.lt)
    have hgb : gb < wr.heap.size := R.out.gr.lt
    clear own1 hg1 HB1 R y0 y1 hi hz0 hz1 hz2
    generalize wr.heap.size = gm at *
    go_wp2
    obtain ⟨wo, rfl⟩ : ∃ wo, wo = wr := ⟨_, rfl⟩
    go_loopw [8] (fun i wr => ∃ (q : Nat) (bs : List Bool), q ≤ l.length ∧ i = .int .i64 q ∧ Hid (RG u ha hc fa fc w wr gb L oa oc) ∧ Hid (Blk wr gm (blsC bs) 4) ∧ Hid (RowA n (l.take q) a bs)) (fun i _ => l.length - (intOf i).toNat)
    case atStart => exact ⟨0, _, Nat.zero_le _, rfl, R1.out, BK1.out, rowA_nil _ _⟩
    case round =>
      clear R1 BK1
      obtain ⟨q, bs, hq, rfl, R, BK, RW⟩ := hrel
      by_cases hql : q < l.length
      case neg =>
        have RW2 : Hid (RowA n l a bs) := by
          have := RW.out
          rw [List.take_of_length_le (by omega)] at this
          exact this
        have hbl := RW2.out.1
        clear RW
        go_wp2_with fail
        have e5 : n = bs.length := hbl.symm
        have hval : Value.slice (some ⟨gm, 0, none⟩) n n = .slice (some ⟨gm, 0, none⟩) bs.length n := by rw [hbl]
        rw [hval]
        refine (markedR bs _ n wr (bls_blk BK.out) (by omega)).mono ?_
        rintro e w6 ⟨hb6, ma, mc, rfl, own6⟩
        have R6 := Lib.hid (R.out.below hb6)
        have O6 := Lib.hid own6
        have HGS := Lib.hid (G.out.step RW2.out)
        have hml : (marked bs).length ≤ n := by have := markT_len bs bs.length; rw [hbl] at this; unfold marked; rw [hbl]; exact this
        have hLl := G.out.len
        have hLn : L.length ≤ 1000000 := by
          have : a * n ≤ 1000 * 1000 := Nat.mul_le_mul (by omega) hn
          omega
        have hbase6 : wr.heap.size ≤ w6.heap.size := hb6.size
        generalize hmk : marked bs = mk at *
        clear R BK RW2 hb6 own6 hval e5
        go_wp2
        obtain ⟨wp, rfl⟩ : ∃ wp, wp = wr := ⟨_, rfl⟩
        go_loopw [10] (fun i wr => ∃ (k : Nat) (oa : Option Addr) (oc : Nat), k ≤ mk.length ∧ i = .int .i64 k ∧ Hid (RG u ha hc fa fc w wr gb (L ++ (mk.take k).map (fun b => ((a : Int), b))) oa oc) ∧ Hid (wr.ownsRow 0 3 1 (.slice ma mk.length mc) mk.length (mk.map intV))) (fun i _ => mk.length - (intOf i).toNat)
        case atStart => exact ⟨0, oa, oc, Nat.zero_le _, rfl, (by rw [List.take_zero, List.map_nil, List.append_nil]; exact R6.out), owns_mono O6.out (Nat.zero_le _)⟩
        case round =>
          clear R6 O6
          obtain ⟨k, oa, oc, hk, rfl, R, OM⟩ := hrel
          by_cases hkl : k < mk.length
          case neg =>
            have HL2 : Hid (L ++ (mk.take k).map (fun b => ((a : Int), b)) = L ++ mk.map (fun b => ((a : Int), b))) := by show _ = _; rw [List.take_of_length_le (by omega)]
            rw [HL2.out] at R
            go_wp2
            go_roundw
            case rel => exact ⟨a + 1, _, oa, oc, by omega, by go_num, R.out, HGS.out⟩
            case measure => simp [intOf]; omega
          obtain ⟨hmc, hmi⟩ := owns_ints' OM.out
          obtain ⟨mb, mo, he, cm⟩ := hmi k hkl
          subst he
          have HT : Hid (mk.take (k + 1) = mk.take k ++ [mk[k]]) := List.take_succ_eq_append_getElem hkl
          have hLk : (L ++ (mk.take k).map (fun b => ((a : Int), b))).length ≤ 1000000 := by
            rw [List.length_append, List.length_map]
            have h1 := List.length_take_le k mk
            have : (a + 1) * n ≤ 1000 * 1000 := Nat.mul_le_mul (by omega) hn
            rw [Nat.add_mul] at this
            omega
          generalize mk[k] = x at *
          have HAP : Hid (L ++ (mk.take (k + 1)).map (fun b => ((a : Int), b)) = (L ++ (mk.take k).map (fun b => ((a : Int), b))) ++ [((a : Int), x)]) := by
            show _ = _
            rw [HT.out, List.map_append, List.append_assoc]
            rfl
          generalize L ++ (mk.take k).map (fun b => ((a : Int), b)) = Lk at *
          have hneG := owns_ne R.out.ow R.out.gr (by decide)
          have hneM := owns_ne2 OM.out R.out.ow (by decide) mb rfl
          have hneU := owns_ne R.out.ow R.out.ub.b1 (by decide)
          have y1 := R.out.gr.cell 1 (by simp)
          simp only [List.getElem_toArray, List.getElem_cons_zero, List.getElem_cons_succ] at y1
          have k0 : ∀ o : GW wr (Value.slice oa Lk.length oc).ownBlock, o.u.cell? ⟨gb, 1, none⟩ = some (.slice oa Lk.length oc) := fun o => o.h.cell y1 hneG
          have k1 : ∀ o : GW wr (Value.slice oa Lk.length oc).ownBlock, o.u.cell? ⟨mb, mo + k, none⟩ = some (.int .i64 x) := fun o => o.h.cell cm hneM
          have hcur : wr.grownBy wr.drew (Value.slice oa Lk.length oc).ownBlock := below_grown0 ((Below.refl _ _).drew) _
          have hne : Nonempty (GW wr (Value.slice oa Lk.length oc).ownBlock) := ⟨⟨_, hcur⟩⟩
          clear y1 cm hmi
          go_upto_region 15 with (fail)
          refine wp_region_Z (fun w' => ∃ o : GW wr (Value.slice oa Lk.length oc).ownBlock, w' = o.u) 11 (by kernel_rfl) ?_
          change wpAnyZ _ _ _ _ _ _ _ _ _ wr.drew
          refine wpAnyZ_take 0 rfl (by kernel_rfl) (by kernel_rfl) (fun _ _ _ _ h => h) ⟨⟨_, hcur⟩, rfl⟩ (fun K hK => ?_)
          go_simp
          refine hK _ ?_
          clear hK K
          refine wpAnyZ_take 1 rfl (by kernel_rfl) (by kernel_rfl) (fun _ _ _ _ h => h) ⟨⟨_, hcur⟩, rfl⟩ (fun K hK => ?_)
          go_simp
          refine hK _ ?_
          clear hK K
          refine wpAnyZ_take 2 rfl (by kernel_rfl) (by kernel_rfl) (fun _ _ _ _ h => h) ⟨⟨_, hcur⟩, rfl⟩ (fun K hK => ?_)
          go_simp
          refine hK _ ?_
          clear hK K
          refine wpAnyZ_take 3 rfl (by kernel_rfl) (by kernel_rfl) (fun _ _ _ _ h => h) ⟨⟨_, hcur⟩, rfl⟩ (fun K hK => ?_)
          go_simp
          refine hK _ ?_
          clear hK K
          refine wpAnyZ_take 4 rfl (by kernel_rfl) (by kernel_rfl) (fun _ _ _ _ h => h) ⟨⟨_, hcur⟩, rfl⟩ (fun K hK => ?_)
          go_simp
          refine hK _ ?_
          clear hK K
          refine wpAnyZ_take 5 rfl (by kernel_rfl) (by kernel_rfl) (fun _ _ _ _ h => h) ⟨⟨_, hcur⟩, rfl⟩ (fun K hK => ?_)
          go_simp
          refine hK _ ?_
          clear hK K
          refine wpAnyZ_take 6 rfl (by kernel_rfl) (by kernel_rfl) (fun _ _ _ _ h => h) ⟨⟨_, hcur⟩, rfl⟩ (fun K hK => ?_)
          go_simp
          refine hK _ ?_
          clear hK K
          have hb6 : Below wr.heap.size wr (wr.alloc (.cells #[.int .i64 a, .int .i64 x] 42)).drew := (one_below ..).drew
          have hcur6 : wr.grownBy (wr.alloc (.cells #[.int .i64 a, .int .i64 x] 42)).drew (Value.slice oa Lk.length oc).ownBlock := below_grown0 hb6 _
          have B6 : Hid (Blk (wr.alloc (.cells #[.int .i64 a, .int .i64 x] 42)).drew wr.heap.size #[.int .i64 a, .int .i64 x] 42) := blk_new ..
          have R6 := Lib.hid (R.out.below hb6)
          have OM6 := Lib.hid (owns_below OM.out hb6)
          have hbs6 : w.heap.size + 2 ≤ (wr.alloc (.cells #[.int .i64 a, .int .i64 x] 42)).drew.heap.size := Nat.le_trans R6.out.gb (Nat.le_of_lt R6.out.gr.lt)
          refine wpAnyZ_one 7 rfl (by kernel_rfl) ?_
          go_wp2
          refine ⟨⟨⟨_, hcur⟩, rfl⟩, ?_⟩
          refine wpAnyZ_one 8 rfl (by kernel_rfl) ?_
          go_wp2
          refine ⟨⟨⟨_, hcur6⟩, rfl⟩, ?_⟩
          refine wpAnyZ_one 9 rfl (by kernel_rfl) ?_
          refine app_edge rfl _ _ rfl (w.heap.size + 2) _ Lk rfl R6.out.ow wr.heap.size ((a : Int), x) rfl B6.out hLk hbs6 ?_
          intro v7 W7 own7 hg7
          obtain ⟨-, oa7, oc7, he7, -, -, -⟩ := owns_edgs own7
          subst he7
          go_wp2
          have hcur7 : wr.grownBy W7 (Value.slice oa Lk.length oc).ownBlock := grown_grown hcur6 hg7 (fun q hq => .inr hq)
          refine ⟨⟨⟨_, hcur7⟩, rfl⟩, ?_⟩
          refine wpAnyZ_one 10 rfl (by kernel_rfl) ?_
          go_wp2
          refine ⟨⟨⟨_, hcur7⟩, rfl⟩, ?_⟩
          have G7 := R6.out.gr.grown hg7 hneG
          have q1 := G7.cell 1 (by simp)
          have q2 := G7.free 1
          simp only [List.getElem_toArray, List.getElem_cons_zero, List.getElem_cons_succ] at q1
          clear k0 k1
          refine wpAnyZ_last rfl (by kernel_rfl) ?_
          go_wp2
          refine wpAnyZ_done (by kernel_rfl) ?_ _
          have hfr : ∀ q, Value.ownBlock (.slice oa Lk.length oc) = some q → w.heap.size + 2 ≤ q := fun q hq => (R6.out.ow.lt q hq).1
          have hgbb := R6.out.gb
          have U7 := R6.out.ub.grow HH.out HF.out hg7 (fun q hq => by have := hfr q hq; omega)
          have RS7 := R6.out.rs.grown hg7 (owns_ne R6.out.ow R6.out.rs (by decide))
          have OM7 := OM6.out.kept hg7 (.inr (by first | exact hneM | exact fun e => hneM e.symm))
          have hgs := grown_set W7 gb 1 (.slice oa7 (Lk ++ [((a : Int), x)]).length oc7)
          have R8 : Hid (RG u ha hc fa fc w (W7.setCell ⟨gb, 1, none⟩ (.slice oa7 (Lk ++ [((a : Int), x)]).length oc7)) gb (Lk ++ [((a : Int), x)]) oa7 oc7) :=
            ⟨U7.grow HH.out HF.out hgs (fun q hq => by cases hq; omega), RS7.grown hgs (fun e => by cases e; omega), G7.set 1 _, own7.kept hgs (.inr (fun e => owns_ne own7 G7 (by decide) e.symm)), hgbb⟩
          have OM8 := Lib.hid (OM7.kept hgs (.inr (fun e => by have := owns_ne OM7 G7 (by decide); exact this e.symm)))
          go_wp2
          go_roundw
          case rel =>
            rw [List.length_append] at R8 OM8
            exact ⟨k + 1, oa7, oc7, by omega, by go_num, by rw [HAP.out]; exact R8.out, OM8.out⟩
          case measure => simp [intOf]; omega
      obtain ⟨bb, off, he, m0, m1, m2⟩ := (HL.out.below R.out.ub.hb) q hql
      subst he
      have HT : Hid (l.take (q + 1) = l.take q ++ [l[q]]) := List.take_succ_eq_append_getElem hql
      generalize l[q] = x at *
      have hne : Nonempty (WB wr) := ⟨⟨wr, Below.refl _ _⟩⟩
      obtain ⟨c0, c1, c2⟩ := R.out.ub.cells
      rw [hN] at c1
      have k0 : ∀ o : WB wr, o.u.cell? ⟨w.heap.size, 0, none⟩ = some (.slice ha u.h.length hc) := fun o => cell_below o.h c0
      have k1 : ∀ o : WB wr, o.u.cell? ⟨w.heap.size, 1, none⟩ = some (.slice fa n fc) := fun o => cell_below o.h c1
      have k2 : ∀ o : WB wr, o.u.cell? ⟨w.heap.size, 2, none⟩ = some (.int .i64 u.main) := fun o => cell_below o.h c2
      have k3 : ∀ o : WB wr, o.u.cell? ⟨bb, off + q * 3, none⟩ = some (.int .i64 x.f) := fun o => cell_below o.h m0
      have k4 : ∀ o : WB wr, o.u.cell? ⟨bb, off + q * 3 + 1, none⟩ = some (.int .i64 x.i) := fun o => cell_below o.h m1
      have k5 : ∀ o : WB wr, o.u.cell? ⟨bb, off + q * 3 + 2, none⟩ = some (.int .i64 x.c) := fun o => cell_below o.h m2
      have HRX := Lib.hid (HR.out x)
      have HRC : Hid (rightC n x = true ↔ 0 ≤ x.f ∧ x.f < n ∧ 0 ≤ x.c ∧ x.c < n) := rightC_iff
      have HBL := Lib.hid RW.out.1
      have HSN : Hid (¬ (rightC n x = true ∧ x.f = a) → RowA n (l.take (q + 1)) a bs) := fun k => by rw [HT.out]; exact rowA_f RW.out k
      have HST : Hid (rightC n x = true → x.f = a → RowA n (l.take (q + 1)) a (bs.set x.c.toNat true)) := fun k1 k2 => by rw [HT.out]; exact rowA_t RW.out k1 k2
      clear c0 c1 c2 m0 m1 m2
      cases hr : rightC n x
      case false =>
        rw [hr] at HRX
        have HC3 := Lib.hid (HSN.out (fun e => by rw [hr] at e; cases e.1))
        clear hr HRC HSN HST
        go_upto_region 9 with (fail)
        refine wp_region_WB wr (by kernel_rfl) ?_
        repeat (go_big_quiet_step ((rename_i o; with_reducible exact (HRX.out _ (HH.out.below (R.out.below o.h).ub.hb) (HF.out.below (R.out.below o.h).ub.hb)).mono (fun _ _ h => Ret.inB h))))
        refine wpQuiet_nil ?_
        intro _ hw'
        obtain ⟨o, rfl⟩ := hw'
        have R3 := Lib.hid (R.out.below o.h)
        have BK3 := Lib.hid (BK.out.below o.h)
        clear k0 k1 k2 k3 k4 k5
        go_wp2
        go_roundw
        case rel => exact ⟨q + 1, bs, by omega, by go_num, R3.out, BK3.out, HC3.out⟩
        case measure => simp [intOf]; omega
      have HRT := Lib.hid hr
      rw [hr] at HRX
      obtain ⟨g1, g2, g3, g4⟩ := HRC.out.1 hr
      clear hr HRC
      by_cases hxa : x.f = a
      case neg =>
        have t5 : (x.f == (a : Int)) = false := by simpa using hxa
        have HC3 := Lib.hid (HSN.out (fun e => hxa e.2))
        clear HSN HST hxa g1 g2 g3 g4
        go_upto_region 9 with (fail)
        refine wp_region_WB wr (by kernel_rfl) ?_
        repeat (go_big_quiet_step ((rename_i o; with_reducible exact (HRX.out _ (HH.out.below (R.out.below o.h).ub.hb) (HF.out.below (R.out.below o.h).ub.hb)).mono (fun _ _ h => Ret.inB h))))
        refine wpQuiet_nil ?_
        intro _ hw'
        obtain ⟨o, rfl⟩ := hw'
        have R3 := Lib.hid (R.out.below o.h)
        have BK3 := Lib.hid (BK.out.below o.h)
        clear k0 k1 k2 k3 k4 k5
        go_wp2
        go_roundw
        case rel => exact ⟨q + 1, bs, by omega, by go_num, R3.out, BK3.out, HC3.out⟩
        case measure => simp [intOf]; omega
      have t5 : (x.f == (a : Int)) = true := by simpa using hxa
      have HC3 := Lib.hid (HST.out HRT.out hxa)
      obtain ⟨xc, hxc⟩ : ∃ k : Nat, x.c = k := ⟨x.c.toNat, by omega⟩
      have hcl : xc < bs.length := by have := HBL.out; omega
      have hcn : xc < n := by omega
      have HXC : Hid (x.c.toNat = xc) := by show _ = _; omega
      rw [HXC.out] at HC3
      rw [hxc] at k5 HRX
      clear HSN HST hxa g1 g2 g3 g4
      go_upto_region 9 with (fail)
      refine wp_region_WB wr (by kernel_rfl) ?_
      repeat (go_big_quiet_step ((rename_i o; with_reducible exact (HRX.out _ (HH.out.below (R.out.below o.h).ub.hb) (HF.out.below (R.out.below o.h).ub.hb)).mono (fun _ _ h => Ret.inB h))))
      refine wpQuiet_nil ?_
      intro _ hw'
      obtain ⟨o, rfl⟩ := hw'
      have R3 := Lib.hid (R.out.below o.h)
      have BK3 := Lib.hid (BK.out.below o.h)
      have j5 := k5 o
      have j7 := BK3.out.cell xc (by simpa using hcl)
      have f7 := BK3.out.free xc
      simp only [List.getElem_toArray, List.getElem_map] at j7
      clear k0 k1 k2 k3 k4 k5
      go_wp2
      have hgs := grown_set o.u gm xc (.bool true)
      have R4 : Hid (RG u ha hc fa fc w (o.u.setCell ⟨gm, xc, none⟩ (.bool true)) gb L oa oc) :=
        ⟨R3.out.ub.grow HH.out HF.out hgs (fun q hq => by cases hq; omega), R3.out.rs.grown hgs (fun e => by cases e; omega), R3.out.gr.grown hgs (fun e => by cases e; omega), R3.out.ow.kept hgs (.inr (fun e => owns_ne R3.out.ow BK3.out (by decide) e.symm)), R3.out.gb⟩
      have BK4 : Hid (Blk (o.u.setCell ⟨gm, xc, none⟩ (.bool true)) gm (blsC (bs.set xc true)) 4) := by
        have := BK3.out.set xc (.bool true)
        rw [bls_set] at this
        exact this
      go_roundw
      case rel => exact ⟨q + 1, bs.set xc true, by omega, by go_num, R4.out, BK4.out, HC3.out⟩
      case measure => simp [intOf]; omega
end Go.Proofs.YtkbmnfijeknenaaGreatDoor
