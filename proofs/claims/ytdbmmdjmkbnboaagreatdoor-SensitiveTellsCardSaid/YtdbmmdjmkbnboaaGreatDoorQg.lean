/-
  The reference's Insert and Of.
-/
import Derived.Test.YtdbmmdjmkbnboaaGreatDoorQb
import Derived.Test.YtdbmmdjmkbnboaaGreatDoorQa
namespace Go.Proofs.YtdbmmdjmkbnboaaGreatDoor
open Go.RowKit Go.Unit0

set_option maxRecDepth 100000 in
theorem intHi (a : Option Addr) (n cap k : Nat) (h : k ≤ cap) (w : World) : (Instr.slice 38 (.slice a n cap) none (some (.int .i64 (k : Int))) none).run Tryz.prog w = .ok (.slice a k cap) w := by
  have hs : (sizeOf (Tryz.prog.elem 38)).run Tryz.prog w = .ok 1 w := by kernel_rfl
  rw [run_slice_h w 38 a n cap Tryz.underlying38 .i64 (k : Int) (by omega) (by omega), hs]
  have e : a.map (fun x => x.add 0) = a := by
    cases a with
    | none => rfl
    | some x => simp [Addr.add]
  simp [Result.andThen, sliced, e]
theorem intsAt_take {w : World} {a : Option Addr} {l : List Int} (h : IntsAt w a l) (n : Nat) : IntsAt w a (l.take n) := by
  intro k hk
  have hk' : k < l.length := by simp at hk; omega
  obtain ⟨b, off, ha, hc⟩ := h k hk'
  exact ⟨b, off, ha, by rw [hc]; simp⟩
set_option maxRecDepth 100000 in
theorem intLo (a : Option Addr) (n cap m : Nat) (hm : m ≤ n) (hc : n ≤ cap) : ∃ a', (∀ w : World, (Instr.slice 38 (.slice a n cap) (some (.int .i64 (m : Int))) none none).run Tryz.prog w = .ok (.slice a' (n - m) (cap - m)) w) ∧ ∀ (w : World) (l : List Int), l.length = n → IntsAt w a l → IntsAt w a' (l.drop m) := by
  refine ⟨if cap = m then a else a.map (fun x => x.add m), fun w => ?_, fun w l hl h k hk => ?_⟩
  · have hs : (sizeOf (Tryz.prog.elem 38)).run Tryz.prog w = .ok 1 w := by kernel_rfl
    rw [run_slice_l w 38 a n cap Tryz.underlying38 .i64 (m : Int) (by omega) (by omega), hs]
    by_cases e : cap = m
    · subst e
      have e2 : a.map (fun x => x.add 0) = a := by
        cases a with
        | none => rfl
        | some x => simp [Addr.add]
      simp [Result.andThen, sliced]
    · simp [Result.andThen, sliced, e]
  · have hk' : m + k < l.length := by simp at hk; omega
    obtain ⟨b, off, ha, h0⟩ := h (m + k) hk'
    subst ha
    refine ⟨b, off + m, ?_, ?_⟩
    · rw [if_neg (by omega)]; simp [addr_add]
    · rw [show off + m + k = off + (m + k) by omega, h0, List.getElem_drop]
/-- the call returns numbers that lie somewhere -/
def IntsLie (L : List Int) (w : World) (e : Ending) (w' : World) : Prop :=
  Below w.heap.size w w' ∧ ∃ a c, e = .returned (.slice a L.length c) ∧ L.length ≤ c ∧ IntsAt w' a L
def iPut (l : List Int) (x : Int) : List Int := oPut (fun a b : Int => a < b) l x
def iPuts (a b : List Int) : List Int := oPuts (fun a b : Int => a < b) a b
set_option maxRecDepth 100000 in
set_option maxHeartbeats 8000000 in
theorem insertR23 (l : List Int) (x : Int) (la : Option Addr) (lc : Nat) (w : World) (hs : IntsAt w la l) (hc : l.length ≤ lc) (hl : l.length ≤ 900000) :
    Calls Tryz.prog 30 #[.slice la l.length lc, .int .i64 x] w (IntsLie (iPut l x) w) := by
  have HL := Lib.hid hs
  have HP1 : Hid (∀ (k : Nat), (∀ j (hj : j < l.length), j < k → l[j] < x) → ∀ (hk : k < l.length), l[k] = x → iPut l x = l) := fun k h hk e => oPut_same ordInt x l k h hk e
  have HP2 : Hid (∀ (k : Nat), (∀ j (hj : j < l.length), j < k → l[j] < x) → k ≤ l.length → (∀ hk : k < l.length, ¬ l[k] < x ∧ l[k] ≠ x) → iPut l x = l.take k ++ [x] ++ l.drop k) := fun k h hk e => oPut_new x l k h hk e
  clear hs
  generalize iPut l x = R at *
  go_enter Tryz.func30, Tryz.ntmps30
  go_upto_block 0 with (fail)
  go_cut [5] (fun v wx => ∃ k : Nat, k ≤ l.length ∧ v = .int .i64 k ∧ Hid (w = wx) ∧ Hid (∀ j (hj : j < l.length), j < k → l[j] < x) ∧ Hid (∀ hk : k < l.length, ¬ l[k] < x))
  case first =>
    clear HP1 HP2
    go_wp2
    go_loop [5] (fun v => ∃ k : Nat, k ≤ l.length ∧ v = .int .i64 k ∧ Hid (∀ j (hj : j < l.length), j < k → l[j] < x)) (fun v => l.length - (intOf v).toNat)
    case atStart => exact ⟨0, Nat.zero_le _, rfl, fun j _ h => absurd h (by omega)⟩
    case round =>
      obtain ⟨k, hk, rfl, HJ⟩ := hrel
      by_cases hlt : k < l.length
      case neg =>
        have HK : Hid (∀ hk : k < l.length, ¬ l[k] < x) := fun h => absurd h hlt
        go_wp2
        go_meet
        exact ⟨k, hk, rfl, rfl, HJ.out, HK.out⟩
      case pos =>
        obtain ⟨b, off, he, c0⟩ := HL.out k hlt
        subst he
        have HJN : Hid (l[k] < x → ∀ j (hj : j < l.length), j < k + 1 → l[j] < x) := fun e j hj hjk => by
          by_cases e2 : j < k
          · exact HJ.out j hj e2
          · obtain rfl : j = k := by omega
            exact e
        have HKN : Hid (¬ l[k] < x → ∀ hk : k < l.length, ¬ l[k] < x) := fun e _ => e
        generalize hy : l[k] = y at c0 HJN HKN
        clear hy
        by_cases hxy : y < x
        · have HJ2 := Lib.hid (HJN.out hxy)
          have t1 := decide_eq_true hxy
          clear hxy HJN HKN HJ
          go_wp2
          go_round
          case rel => exact ⟨k + 1, by omega, by go_num, HJ2.out⟩
          case measure => simp [intOf]; omega
        · have HK := Lib.hid (HKN.out hxy)
          have t1 := decide_eq_false hxy
          clear hxy HJN HKN
          go_wp2
          go_meet
          exact ⟨k, hk, rfl, rfl, HJ.out, HK.out⟩
  case rest =>
    obtain ⟨k, hk, rfl, HW, HJ, HK⟩ := hcut
    obtain rfl := HW.out
    clear HW
    replace HP1 := Lib.hid (HP1.out k HJ.out)
    replace HP2 := Lib.hid (HP2.out k HJ.out hk)
    clear HJ
    by_cases hf : ∃ hlt : k < l.length, l[k] = x
    case pos =>
      obtain ⟨hlt, e1⟩ := hf
      have HE := Lib.hid (HP1.out hlt e1)
      obtain ⟨b, off, he, c0⟩ := HL.out k hlt
      subst he
      rw [e1] at c0
      clear e1 HP1 HP2 HK
      go_wp2
      go_ret
      exact ⟨Below.refl _ _, _, lc, by rw [HE.out]; rfl, by rw [HE.out]; exact hc, by rw [HE.out]; exact HL.out⟩
    case neg =>
      have HE : Hid (R = l.take k ++ [x] ++ l.drop k) := HP2.out fun h => ⟨HK.out h, fun e => hf ⟨h, e⟩⟩
      clear HP1 HP2 HK
      go_upto_region 4 with (fail)
      go_cut [32] (fun v wx => v = .bool false ∧ Hid (w = wx))
      case first =>
        clear HE
        by_cases hlt : k < l.length
        · obtain ⟨b, off, he, c0⟩ := HL.out k hlt
          subst he
          have e1 : (l[k] == x) = false := beq_eq_false_iff_ne.2 (fun e => hf ⟨hlt, e⟩)
          clear hf
          generalize l[k] = y at *
          go_wp2
          go_meet
          exact ⟨rfl, rfl⟩
        · clear hf
          go_wp2
          go_meet
          exact ⟨rfl, rfl⟩
      case rest =>
        obtain ⟨rfl, HW⟩ := hcut
        obtain rfl := HW.out
        clear HW hf
        obtain ⟨m1, m2, hl12, hk1⟩ : ∃ m1 m2 : List Int, l = m1 ++ m2 ∧ k = m1.length := ⟨l.take k, l.drop k, (List.take_append_drop k l).symm, by simp; omega⟩
        subst hk1
        have HR : Hid (R = m1 ++ [x] ++ m2) := by
          show _ = _
          rw [HE.out, hl12, List.take_left' rfl, List.drop_left' rfl]
        have HLN : Hid (l.length = m1.length + m2.length) := by show _ = _; rw [hl12, List.length_append]
        have hm1 : m1.length ≤ 900000 := by have := HLN.out; omega
        have hm2 : m2.length ≤ 900000 := by have := HLN.out; omega
        have HA1 : Hid (∀ wx, IntsAt wx la l → IntsAt wx la m1) := fun wx h => by
          have := intsAt_take h m1.length
          rw [hl12, List.take_left' rfl] at this
          exact this
        obtain ⟨a2, hsl, hdr⟩ := intLo la l.length lc m1.length hk hc
        have HA2 : Hid (∀ wx, IntsAt wx la l → IntsAt wx a2 m2) := fun wx h => by
          have := hdr wx l rfl h
          rw [hl12, List.drop_left' rfl] at this
          exact this
        have hd : l.length - m1.length = m2.length := by have := HLN.out; omega
        rw [hd] at hsl
        have hs1 := intHi la l.length lc m1.length (by omega)
        clear hdr hd hl12 HE
        have OA : Hid (w.ownsRow w.heap.size 3 1 (.slice none 0 0) ([] : List Int).length (([] : List Int).map intV)) := World.ownsRow_nil _ _ _ _
        have AT := Lib.hid (HA1.out _ HL.out)
        have h01 : ([] : List Int).length ≤ 1000000 := by simp
        have h02 : m1.length ≤ 1000000 := by omega
        go_upto_region 8 with (at_builtin; refine app_ints rfl _ _ rfl w.heap.size _ [] rfl OA.out la lc m1 rfl AT.out h01 h02 (Nat.le_refl _) ?_; intro v3 w3 own3 hg3)
        rw [List.nil_append] at own3
        obtain ⟨-, oa3, oc3, rfl, -, -⟩ := owns_ints own3
        have S3 := Lib.hid (grow_below (Below.refl w.heap.size w) OA.out hg3)
        have O3 := Lib.hid own3
        clear own3 hg3 OA AT hs1
        have O4 := Lib.hid (owns_below O3.out (one_below w3 (.cells #[.int .i64 x] 3)))
        have B4 : Hid (Blk (w3.alloc (.cells #[.int .i64 x] 3)) w3.heap.size #[.int .i64 x] 3) := blk_new ..
        have S4 := Lib.hid (S3.out.trans ((one_below w3 (.cells #[.int .i64 x] 3)).mono S3.out.size))
        have hb4 := S4.out.size
        go_upto_region 9 with (at_builtin; refine app_intF rfl _ _ rfl w.heap.size _ m1 rfl O4.out w3.heap.size x rfl B4.out h02 hb4 ?_; intro v5 w5 own5 hg5 _)
        have H5 := Lib.hid (grow_below S4.out O4.out hg5)
        obtain ⟨-, oa5, oc5, rfl, -, -⟩ := owns_ints own5
        have O5 := Lib.hid own5
        clear own5 hg5 S4 B4 O4 O3 S3
        have AT5 := Lib.hid (HA2.out _ (HL.out.below H5.out))
        have hb5 := H5.out.size
        have h04 : (m1 ++ [x]).length ≤ 1000000 := by simp; omega
        have h05 : m2.length ≤ 1000000 := by omega
        go_wp2_with (at_builtin; refine app_ints rfl _ _ rfl w.heap.size _ (m1 ++ [x]) rfl O5.out a2 (lc - m1.length) m2 rfl AT5.out h04 h05 hb5 ?_; intro v7 w7 own7 hg7)
        have H7 := Lib.hid (grow_below H5.out O5.out hg7)
        obtain ⟨-, oa7, oc7, rfl, -, -⟩ := owns_ints own7
        have O7 := Lib.hid (owns_ints' own7)
        clear own7 hg7
        go_wp2
        go_ret
        exact ⟨H7.out, oa7, oc7, by rw [HR.out]; rfl, by rw [HR.out]; exact O7.out.1, by rw [HR.out]; exact O7.out.2⟩
end Go.Proofs.YtdbmmdjmkbnboaaGreatDoor
