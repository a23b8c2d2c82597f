/-
  Lists of numbers compared for equality, copied; rows of them compacted by the library.
-/
import Derived.Test.YtdbmmdjmkbnboaaGreatDoorQo
import Derived.Lib.SlicesCompact
import Derived.KernelRfl
namespace Go.Proofs.YtdbmmdjmkbnboaaGreatDoor
open Go.RowKit Go.Unit0 Go.Lib

set_option maxRecDepth 100000 in
set_option maxHeartbeats 4000000 in
theorem equalI (a b : List Int) (pa : Option Addr) (ca : Nat) (pb : Option Addr) (cb : Nat) (w : World) (ha : IntsAt w pa a) (hb : IntsAt w pb b) (la : a.length ≤ 1000000) (lb : b.length ≤ 1000000) :
    Calls Tryz.prog 26 #[.slice pa a.length ca, .slice pb b.length cb] w (Ret w (.bool (decide (a = b)))) := by
  have HA := Lib.hid ha
  have HB := Lib.hid hb
  clear ha hb
  by_cases hl : a.length = b.length
  case neg =>
    have e : decide (a = b) = false := decide_eq_false fun e => hl (by rw [e])
    rw [e]
    have t1 : ¬ (a.length : Int) = (b.length : Int) := by omega
    clear e HA HB
    go_enter Tryz.func26, Tryz.ntmps26
    go_wp2
    go_ret
    exact ⟨rfl, Go.RowKit.Below.refl _ _⟩
  have HEN : Hid (∀ k, k = a.length → a.take k = b.take k → true = decide (a = b)) := fun k hk e => by
    subst hk
    rw [List.take_length] at e
    rw [hl, List.take_length] at e
    exact (decide_eq_true e).symm
  have HNE : Hid (∀ k (h1 : k < a.length) (h2 : k < b.length), a[k] ≠ b[k] → false = decide (a = b)) := fun k h1 h2 e => (decide_eq_false fun e2 => e (by subst e2; rfl)).symm
  generalize decide (a = b) = R at *
  rw [← hl]
  go_enter Tryz.func26, Tryz.ntmps26
  go_wp2
  go_loopw [13] (fun i wr => ∃ k : Nat, k ≤ a.length ∧ i = .int .i64 k ∧ Hid (a.take k = b.take k) ∧ Hid (Go.RowKit.Below w.heap.size w wr)) (fun i _ => a.length - (intOf i).toNat)
  case atStart => exact ⟨0, Nat.zero_le _, rfl, rfl, Go.RowKit.Below.refl _ _⟩
  case round =>
    obtain ⟨k, hk, rfl, HT, HW⟩ := hrel
    by_cases h1 : k < a.length
    case neg =>
      have HV := Lib.hid (HEN.out k (by omega) HT.out)
      clear HEN HNE HT HA HB
      go_wp2
      go_ret
      exact ⟨ret_bool HV.out, HW.out⟩
    have h2 : k < b.length := by omega
    obtain ⟨b1, o1, he1, p1⟩ := HA.out.below HW.out k h1
    subst he1
    obtain ⟨b2, o2, he2, p2⟩ := HB.out.below HW.out k h2
    subst he2
    have HN : Hid (a[k] = b[k] → a.take (k + 1) = b.take (k + 1)) := fun e => by
      rw [List.take_succ_eq_append_getElem h1, List.take_succ_eq_append_getElem h2, HT.out, e]
    have HV := Lib.hid (HNE.out k h1 h2)
    clear HEN HNE HT
    generalize a[k] = x at *
    generalize b[k] = y at *
    have hne : Nonempty (WB wr) := ⟨⟨wr, Go.RowKit.Below.refl _ _⟩⟩
    have k0 : ∀ o : WB wr, o.u.cell? ⟨b1, o1 + k, none⟩ = some (.int .i64 x) := fun o => cell_below o.h p1
    have k1 : ∀ o : WB wr, o.u.cell? ⟨b2, o2 + k, none⟩ = some (.int .i64 y) := fun o => cell_below o.h p2
    clear p1 p2
    go_upto_region 6 with (fail)
    by_cases h3 : x = y
    · have HN2 := Lib.hid (HN.out h3)
      subst h3
      clear HV HN HA HB
      refine wp_region_WB wr (by kernel_rfl) ?_
      repeat (go_big_quiet_step (fail))
      refine wpQuiet_nil ?_
      intro _ hw'
      obtain ⟨o, rfl⟩ := hw'
      have HB3 := Lib.hid (HW.out.trans (o.h.mono HW.out.size))
      clear k0 k1
      go_wp2
      go_roundw
      case rel => exact ⟨k + 1, by omega, by go_num, HN2.out, HB3.out⟩
      case measure => simp [intOf]; omega
    · have HF := Lib.hid (HV.out h3)
      clear HV HN HA HB
      refine wp_region_WB wr (by kernel_rfl) ?_
      repeat (go_big_quiet_step (fail))
      refine wpQuiet_nil ?_
      intro _ hw'
      obtain ⟨o, rfl⟩ := hw'
      have HB3 := Lib.hid (HW.out.trans (o.h.mono HW.out.size))
      clear k0 k1
      go_wp2
      go_ret
      exact ⟨ret_bool HF.out, HB3.out⟩
/-- the call returns a copy in memory of its own -/
def CopyPost (l : List Int) (w : World) (e : Ending) (w' : World) : Prop :=
  Go.RowKit.Below w.heap.size w w' ∧ ∃ a c, e = .returned (.slice a l.length c) ∧ IntsAt w' a l ∧ ∀ b off, a = some ⟨b, off, none⟩ → w.heap.size ≤ b
theorem nilEq (c : Nat) (w : World) : (binOp .eql 38 (.slice none 0 c) (.slice none 0 0)).run Tryz.prog w = .ok (.bool true) w := by kernel_rfl
theorem nilNe (a : Addr) (n c : Nat) (w : World) : (binOp .eql 38 (.slice (some a) n c) (.slice none 0 0)).run Tryz.prog w = .ok (.bool false) w := by kernel_rfl
set_option maxRecDepth 100000 in
set_option maxHeartbeats 4000000 in
theorem cloneI (l : List Int) (a : Option Addr) (c : Nat) (w : World) (h : IntsAt w a l) (hl : l.length ≤ 1000000) :
    Calls Tryz.prog 22 #[.slice a l.length c] w (CopyPost l w) := by
  have H := Lib.hid h
  cases a with
  | none =>
    have hl0 : l = [] := by
      cases l with
      | nil => rfl
      | cons y m => obtain ⟨_, _, he, _⟩ := h 0 (by simp); cases he
    subst hl0
    clear h hl
    have hq := nilEq c
    go_enter Tryz.func22, Tryz.ntmps22
    go_wp2
    go_ret
    exact ⟨Go.RowKit.Below.refl _ _, none, 0, rfl, fun k hk => by simp at hk, fun b off e => by cases e⟩
  | some a =>
    clear h
    have hq := nilNe a l.length c
    go_enter Tryz.func22, Tryz.ntmps22
    have HB := Lib.hid (one_below w (.cells #[] 3))
    have OA : Hid ((w.alloc (.cells #[] 3)).ownsRow w.heap.size 3 1 (.slice (some ⟨w.heap.size, 0, none⟩) 0 0) ([] : List Int).length (([] : List Int).map intV)) := ⟨rfl, .inr ⟨w.heap.size, 0, _, rfl, Nat.le_refl _, blk_new .., Nat.le_refl _, Nat.zero_le _, rfl, rfl⟩⟩
    have AT := Lib.hid (H.out.below HB.out)
    have h01 : ([] : List Int).length ≤ 1000000 := by simp
    have hsz := HB.out.size
    go_wp2_with (at_builtin; refine app_ints rfl _ _ rfl w.heap.size _ [] rfl OA.out (some a) c l rfl AT.out h01 hl hsz ?_; intro v2 w2 own2 hg2)
    rw [List.nil_append] at own2
    have HB2 := Lib.hid (grow_below HB.out OA.out hg2)
    obtain ⟨-, oa, oc, rfl, -, -⟩ := owns_ints own2
    go_wp2
    go_ret
    exact ⟨HB2.out, oa, oc, rfl, (owns_ints' own2).2, fun b off e => by subst e; exact (own2.lt b rfl).1⟩
/-- a row of slices of numbers in a block -/
structure SR (base g c : Nat) (D : List Sli) (w : World) (cur : Array Value) : Prop where
  hb : base ≤ g
  bk : Blk w g cur 38
  le : D.length ≤ c
  cm : c ≤ maxLen
  sz : cur.size = c
  ht : cur.toList.take D.length = D.map encS
  ok : ∀ x ∈ D, SlOk w (some g) x ∧ x.l.length ≤ 1000000
theorem SR.owns {base g c : Nat} {D : List Sli} {w : World} {cur : Array Value} (k : SR base g c D w cur) : OwnS base w (.slice (some ⟨g, 0, none⟩) D.length c) D :=
  ⟨⟨by simp, .inr ⟨g, c, cur, rfl, k.hb, k.bk, k.le, k.cm, by rw [k.sz, Nat.mul_one], by rw [Nat.mul_one]; exact k.ht⟩⟩, fun x hx => (k.ok x hx).1⟩
theorem SR.below {base g c : Nat} {D : List Sli} {w w' : World} {cur : Array Value} (k : SR base g c D w cur) (hb : Go.RowKit.Below w.heap.size w w') : SR base g c D w' cur := ⟨k.hb, k.bk.below hb, k.le, k.cm, k.sz, k.ht, fun x hx => ⟨(k.ok x hx).1.below hb, (k.ok x hx).2⟩⟩
theorem SR.at {base g c off : Nat} {D : List Sli} {w : World} {cur : Array Value} (k : SR base g c D w cur) (ho : off = 0) {j : Nat} (hj : j < D.length) : w.cell? ⟨g, off + j, none⟩ = some (.slice D[j].a D[j].l.length D[j].c) := by
  subst ho
  have hsz := k.sz
  have hle := k.le
  rw [Nat.zero_add, k.bk.cell j (by omega)]
  have h1 : (cur.toList.take D.length)[j]? = (D.map encS)[j]? := by rw [k.ht]
  rw [List.getElem?_take_of_lt hj, Array.getElem?_toList, Array.getElem?_eq_getElem (by omega)] at h1
  simp [hj] at h1
  rw [h1]; rfl
theorem SR.set {base g c : Nat} {D : List Sli} {w : World} {cur : Array Value} (k : SR base g c D w cur) {i : Nat} (_hi : i < D.length) {z : Sli} (hz : z ∈ D) :
    SR base g c (D.set i z) (w.setCell ⟨g, i, none⟩ (encS z)) (cur.setIfInBounds i (encS z)) := by
  have hg := grown_set w g i (encS z)
  have hle := k.le
  refine ⟨k.hb, k.bk.set i (encS z), by simpa using k.le, k.cm, by simpa using k.sz, ?_, fun x hx => ?_⟩
  · rw [List.length_set, Array.toList_setIfInBounds, List.take_set, k.ht, List.map_set]
  · have : x ∈ D := by
      rcases List.mem_or_eq_of_mem_set hx with h | h
      · exact h
      · rw [h]; exact hz
    exact ⟨(k.ok x this).1.grown hg, (k.ok x this).2⟩
theorem SR.take {base g c : Nat} {D : List Sli} {w : World} {cur : Array Value} (k : SR base g c D w cur) (m : Nat) (hm : m ≤ D.length) : SR base g c (D.take m) w cur := by
  have hl : (D.take m).length = m := by simp; omega
  refine ⟨k.hb, k.bk, by have := k.le; omega, k.cm, k.sz, ?_, fun x hx => k.ok x (List.mem_of_mem_take hx)⟩
  rw [hl, List.map_take, ← k.ht, List.take_take, Nat.min_eq_left (by omega)]
set_option maxRecDepth 100000 in
theorem slLoAt (g off n c m : Nat) (hm : m < n) (hc : n ≤ c) (w : World) : (Instr.slice 35 (.slice (some ⟨g, off, none⟩) n c) (some (.int .i64 (m : Int))) none none).run Tryz.prog w = .ok (.slice (some ⟨g, off + m, none⟩) (n - m) (c - m)) w := by
  have hs : (sizeOf (Tryz.prog.elem 35)).run Tryz.prog w = .ok 1 w := by kernel_rfl
  rw [run_slice_l w 35 (some ⟨g, off, none⟩) n c Tryz.underlying35 .i64 (m : Int) (by omega) (by omega), hs]
  have : ¬ c = m := by omega
  simp [Result.andThen, sliced, this, addr_add]
set_option maxRecDepth 100000 in
theorem zeroSl (w : World) : (zeroValue 38).run Tryz.prog w = .ok (.slice none 0 0) w := by kernel_rfl
/-- clear of the end of a row -/
theorem clearSl {base g c off : Nat} {D : List Sli} {w : World} {cur : Array Value} (k : SR base g c D w cur) (ho : off = 0) (m : Nat) (hm : m < D.length) :
    ∃ w' cur', (∀ ty, (Builtin.clear_ #[35] ty #[.slice (some ⟨g, off + m, none⟩) (D.length - m) (c - m)]).run Tryz.prog w = .ok (.tuple #[]) w') ∧ SR base g c (D.take m) w' cur' ∧ w.grownBy w' (some g) := by
  subst ho
  have hle := k.le
  have hsz := k.sz
  obtain ⟨q, hq⟩ : ∃ q, D.length - m = q + 1 := ⟨D.length - m - 1, by omega⟩
  have hz1 : ∀ n, ∀ v ∈ (Builtin.zeroCells #[.slice none 0 0] n).toList, v.oneCell' = true := by
    intro n v hv
    simp [Builtin.zeroCells] at hv
    obtain ⟨i, hi, rfl⟩ := hv
    simp [Nat.mod_one, Value.oneCell']
  have hzl : ∀ n, (Builtin.zeroCells #[.slice none 0 0] n).toList.length = n := fun n => by simp [Builtin.zeroCells]
  have hst := run_storeCells_at Tryz.prog g (0 + m) 38 (Builtin.zeroCells #[.slice none 0 0] (q + 1)).toList 0 cur w k.bk (by rw [hzl]; omega) (hz1 _)
  rw [Nat.add_zero] at hst
  have hgr := grown_row w g (cur.toList.take (0 + m) ++ (Builtin.zeroCells #[.slice none 0 0] (q + 1)).toList ++ cur.toList.drop (0 + m + (Builtin.zeroCells #[.slice none 0 0] (q + 1)).toList.length)).toArray
  refine ⟨_, (cur.toList.take (0 + m) ++ (Builtin.zeroCells #[.slice none 0 0] (q + 1)).toList ++ cur.toList.drop (0 + m + (Builtin.zeroCells #[.slice none 0 0] (q + 1)).toList.length)).toArray, fun ty => ?_, ?_, hgr⟩
  · rw [hq]
    have h2 := hst
    simp [Nat.zero_add] at h2
    simp [Builtin.clear_, run_underlying Tryz.underlying35, Value.cells]
    rw [h2]
    rfl
  · have hl : (D.take m).length = m := by simp; omega
    have hcl : cur.toList.length = c := by simpa using hsz
    refine ⟨k.hb, k.bk.setRow _, by omega, k.cm, ?_, ?_, fun x hx => ?_⟩
    · simp only [List.size_toArray, List.length_append, List.length_take, List.length_drop, hzl]
      omega
    · rw [hl, List.map_take, ← k.ht]
      simp only [Nat.zero_add, List.append_assoc]
      rw [List.take_append_of_le_length (by simp; omega), List.take_take, List.take_take, Nat.min_self, Nat.min_eq_left (by omega)]
    · have h1 := k.ok x (List.mem_of_mem_take hx)
      exact ⟨h1.1.grown hgr, h1.2⟩
end Go.Proofs.YtdbmmdjmkbnboaaGreatDoor
