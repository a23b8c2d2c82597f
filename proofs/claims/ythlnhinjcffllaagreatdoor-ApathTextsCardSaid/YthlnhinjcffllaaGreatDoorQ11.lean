/-
  Covers of paths, program and reference.
-/
import Derived.Test.YthlnhinjcffllaaGreatDoorQ10
import Derived.Test.YthlnhinjcffllaaGreatDoorShelf
namespace Go.Proofs.YthlnhinjcffllaaGreatDoor
open Go.RowKit

theorem addr_map (a : Option Addr) : a.map (fun x => x.add 0) = a := by
  cases a with
  | none => rfl
  | some x => simp [Addr.add]
set_option maxRecDepth 100000 in
theorem slice22h (a : Option Addr) (n cap k : Nat) (h : k ≤ cap) (w : World) : (Instr.slice 22 (.slice a n cap) none (some (.int .i64 (k : Int))) none).run Tryz.prog w = .ok (.slice a k cap) w := by
  have hs : (sizeOf (Tryz.prog.elem 22)).run Tryz.prog w = .ok 1 w := by kernel_rfl
  rw [run_slice_h w 22 a n cap Tryz.underlying22 .i64 (k : Int) (by omega) (by omega), hs]
  simp [Result.andThen, sliced, addr_map]
/-- slices.Equal of the first elements -/
theorem equal48 (l m : List ByteArray) (a b : Option Addr) (c d : Nat) (w : World) (ha : StrsAt w a l) (hb : StrsAt w b m) (h : l.length ≤ m.length) (hl : l.length ≤ 1000000) : Calls Tryz.prog 48 #[.slice a l.length c, .slice b l.length d] w (Ret w (.bool (preB l m))) := by
  by_cases h0 : l.length = 0
  · obtain rfl := List.length_eq_zero_iff.1 h0
    refine (Tryz.slices_Equal_string_empty a b c 0 d w (by omega)).mono ?_
    rintro e w' ⟨rfl, rfl⟩
    exact ⟨rfl, Below.refl _ _⟩
  · obtain ⟨b1, o1, rfl, _⟩ := ha 0 (by omega)
    obtain ⟨b2, o2, rfl, _⟩ := hb 0 (by omega)
    refine (Tryz.slices_Equal_string b1 o1 l.length c b2 o2 l.length d l m w (Nat.le_refl _) h (by omega) (by omega) (fun j hj => ?_) (fun j hj => ?_)).mono ?_
    · obtain ⟨b', o', he, hc⟩ := ha j hj
      cases he
      rw [hc]; simp [hj]
    · obtain ⟨b', o', he, hc⟩ := hb j hj
      cases he
      rw [hc]; simp [hj]
    · rintro e w' ⟨rfl, q, rfl⟩
      refine ⟨ret_bool ?_, below_drewN' (Below.refl _ _) _⟩
      rw [Bool.eq_iff_iff, decide_eq_true_iff, preB_iff, List.prefix_iff_eq_take, List.take_length]

/-- two paths, boxed, in a later world -/
structure Two (w wr : World) (p q : Pth) (a b : Option Addr) (c d : Nat) : Prop where
  hb : Below w.heap.size w wr
  k : KW wr
  sa : StrsAt wr a p.fs
  sb : StrsAt wr b q.fs
  c1 : Blk wr w.heap.size #[.int .i64 p.root, .int .i64 p.n, .slice a p.fs.length c, .bool p.star] 24
  c2 : Blk wr (w.heap.size + 1) #[.int .i64 q.root, .int .i64 q.n, .slice b q.fs.length d, .bool q.star] 24
theorem two_new (w : World) (p q : Pth) (a b : Option Addr) (c d : Nat) (hk : KW w) (ha : StrsAt w a p.fs) (hb : StrsAt w b q.fs) : Two w ((w.alloc (.cells #[.int .i64 p.root, .int .i64 p.n, .slice a p.fs.length c, .bool p.star] 24)).alloc (.cells #[.int .i64 q.root, .int .i64 q.n, .slice b q.fs.length d, .bool q.star] 24)) p q a b c d :=
  ⟨two_below .., hk.below (two_below ..), ha.below (two_below ..), hb.below (two_below ..), (blk_new ..).below (one_below ..), blk_new2 ..⟩
section
variable {w wr w' : World} {p q : Pth} {a b : Option Addr} {c d : Nat}
theorem Two.below (h : Two w wr p q a b c d) (hb : Below wr.heap.size wr w') : Two w w' p q a b c d :=
  ⟨h.hb.trans (hb.mono h.hb.size), h.k.below hb, h.sa.below hb, h.sb.below hb, h.c1.below hb, h.c2.below hb⟩
theorem Blk.four {g : Nat} {v0 v1 v2 v3 : Value} (h : Blk wr g #[v0, v1, v2, v3] 24) : wr.cell? ⟨g, 0, none⟩ = some v0 ∧ wr.cell? ⟨g, 1, none⟩ = some v1 ∧ wr.cell? ⟨g, 2, none⟩ = some v2 ∧ wr.cell? ⟨g, 3, none⟩ = some v3 :=
  ⟨h.cell 0 (by simp), h.cell 1 (by simp), h.cell 2 (by simp), h.cell 3 (by simp)⟩
end
theorem natbeq (a b : Nat) : ((a : Int) == (b : Int)) = (a == b) := by rw [Bool.eq_iff_iff, beq_iff_eq, beq_iff_eq]; omega
theorem bne_f {a b : Int} (h : (a == b) = true) : (a != b) = false := by simp [bne, h]
theorem bne_t {a b : Int} (h : (a == b) = false) : (a != b) = true := by simp [bne, h]

set_option maxRecDepth 100000 in
set_option maxHeartbeats 2000000 in
theorem begins28 (p q : Pth) (a b : Option Addr) (c d : Nat) (w : World) (hk : KW w) (ha : StrsAt w a p.fs) (hb : StrsAt w b q.fs) (hd : q.fs.length ≤ d) (hl : p.fs.length ≤ 1000000) : Calls Tryz.prog 28 #[pV p a c, pV q b d] w (Ret w (.bool (begB p q))) := by
  unfold pV
  have HT := Lib.hid (two_new w p q a b c d hk ha hb); clear hk ha hb
  have HF : Hid (begB p q = ((p.root == q.root) && (p.n == q.n) && preB p.fs q.fs)) := rfl
  cases h1 : (p.root == q.root)
  case false =>
    rw [h1] at HF
    have t1 := bne_t h1
    go_enter Tryz.func28, Tryz.ntmps28
    go_wp2
    go_ret
    exact ⟨ret_bool (by rw [HF.out]; rfl), HT.out.hb⟩
  have t1 := bne_f h1
  cases h2 : (p.n == q.n)
  case false =>
    rw [h1, h2] at HF
    have t2 := bne_t h2
    go_enter Tryz.func28, Tryz.ntmps28
    go_wp2
    go_ret
    exact ⟨ret_bool (by rw [HF.out]; rfl), HT.out.hb⟩
  have t2 := bne_f h2
  rw [h1, h2] at HF
  by_cases hlen : q.fs.length < p.fs.length
  · have d1 : decide (q.fs.length < p.fs.length) = true := decide_eq_true hlen
    have HP := Lib.hid (pre_len hlen)
    clear hlen
    go_enter Tryz.func28, Tryz.ntmps28
    go_wp2
    go_ret
    exact ⟨ret_bool (by rw [HF.out, HP.out]; rfl), HT.out.hb⟩
  have d1 : decide (q.fs.length < p.fs.length) = false := decide_eq_false hlen
  have hsl := slice22h b q.fs.length d p.fs.length (by omega)
  have hle : p.fs.length ≤ q.fs.length := by omega
  clear hlen
  obtain ⟨y0, y1, y2, y3⟩ := HT.out.c2.four
  obtain ⟨x0, x1, x2, x3⟩ := HT.out.c1.four
  go_enter Tryz.func28, Tryz.ntmps28
  go_upto_region 3 with (fail)
  generalize ((w.alloc (.cells #[.int .i64 p.root, .int .i64 p.n, .slice a p.fs.length c, .bool p.star] 24)).alloc (.cells #[.int .i64 q.root, .int .i64 q.n, .slice b q.fs.length d, .bool q.star] 24)) = W at *
  go_still_tail 8, (by kernel_rfl)
  change wpList _ _ _ _ _ W.drew
  have HD := Lib.hid (HT.out.below (below_drewN' (Below.refl _ _) 1))
  go_wp2_with fail
  refine (equal48 p.fs q.fs a b c d _ HD.out.sa HD.out.sb hle hl).mono ?_
  rintro e w1 ⟨rfl, hb⟩
  have HB1 := Lib.hid (HD.out.hb.trans (hb.mono HD.out.hb.size)); clear hb
  go_wp2
  go_ret
  exact ⟨ret_bool (by rw [HF.out]; rfl), HB1.out⟩

set_option maxRecDepth 100000 in
set_option maxHeartbeats 2000000 in
theorem covers15 (p q : Pth) (a b : Option Addr) (c d : Nat) (w : World) (hk : KW w) (ha : StrsAt w a p.fs) (hb : StrsAt w b q.fs) (hd : q.fs.length ≤ d) (hl : p.fs.length ≤ 1000000) : Calls Tryz.prog 15 #[pV p a c, pV q b d] w (Ret w (.bool (covB p q))) := by
  unfold pV
  have HT := Lib.hid (two_new w p q a b c d hk ha hb); clear hk ha hb
  have HF : Hid (covB p q = ((chkE p == 0) && (chkE q == 0) && begB p q && (p.star || (!q.star && p.fs.length == q.fs.length)))) := rfl
  go_enter Tryz.func15, Tryz.ntmps15
  go_wp2_with fail
  refine (check12 p a c _ HT.out.k HT.out.sa).mono ?_
  rintro e w1 ⟨rfl, hb⟩
  have HT1 := Lib.hid (HT.out.below hb); clear hb HT
  obtain ⟨y0, y1, y2, y3⟩ := HT1.out.c2.four
  obtain ⟨x0, x1, x2, x3⟩ := HT1.out.c1.four
  cases h1 : (chkE p == 0)
  case false =>
    rw [h1] at HF
    have t1 := bne_t h1
    go_wp2
    go_ret
    exact ⟨ret_bool (by rw [HF.out]; rfl), HT1.out.hb⟩
  have t1 := bne_f h1
  go_wp2_with fail
  refine (check12 q b d _ HT1.out.k HT1.out.sb).mono ?_
  rintro e w2 ⟨rfl, hb⟩
  have HT2 := Lib.hid (HT1.out.below hb); clear hb HT1 x0 x1 x2 x3 y0 y1 y2 y3
  obtain ⟨y0, y1, y2, y3⟩ := HT2.out.c2.four
  obtain ⟨x0, x1, x2, x3⟩ := HT2.out.c1.four
  cases h2 : (chkE q == 0)
  case false =>
    rw [h1, h2] at HF
    have t2 := bne_t h2
    go_wp2
    go_ret
    exact ⟨ret_bool (by rw [HF.out]; rfl), HT2.out.hb⟩
  have t2 := bne_f h2
  go_wp2_with fail
  refine (begins28 p q a b c d _ HT2.out.k HT2.out.sa HT2.out.sb hd hl).mono ?_
  rintro e w3 ⟨rfl, hb⟩
  have HT3 := Lib.hid (HT2.out.below hb); clear hb HT2 x0 x1 x2 x3 y0 y1 y2 y3
  obtain ⟨y0, y1, y2, y3⟩ := HT3.out.c2.four
  obtain ⟨x0, x1, x2, x3⟩ := HT3.out.c1.four
  rw [h1, h2] at HF
  cases h3 : begB p q
  case false =>
    rw [h3] at HF
    go_wp2
    go_ret
    exact ⟨ret_bool (by rw [HF.out]; rfl), HT3.out.hb⟩
  rw [h3] at HF
  cases h4 : p.star
  case true =>
    rw [h4] at HF x3
    go_wp2
    go_ret
    exact ⟨ret_bool (by rw [HF.out]; rfl), HT3.out.hb⟩
  rw [h4] at HF x3
  cases h5 : q.star
  case true =>
    rw [h5] at HF y3
    go_wp2
    go_ret
    exact ⟨ret_bool (by rw [HF.out]; rfl), HT3.out.hb⟩
  rw [h5] at HF y3
  go_wp2
  go_ret
  exact ⟨ret_bool (by rw [HF.out]; simp [natbeq]), HT3.out.hb⟩

set_option maxRecDepth 100000 in
set_option maxHeartbeats 2000000 in
theorem covers16 (p q : Pth) (a b : Option Addr) (c d : Nat) (w : World) (hk : KW w) (ha : StrsAt w a p.fs) (hb : StrsAt w b q.fs) (hl : p.fs.length ≤ 1000000) : Calls Tryz.prog 16 #[pV p a c, pV q b d] w (Ret w (.bool (covB p q))) := by
  unfold pV
  have HT := Lib.hid (two_new w p q a b c d hk ha hb); clear hk ha hb
  have HF : Hid (covB p q = ((chkE p == 0) && (chkE q == 0) && ((p.root == q.root) && (p.n == q.n) && preB p.fs q.fs) && (p.star || (!q.star && p.fs.length == q.fs.length)))) := rfl
  go_enter Tryz.func16, Tryz.ntmps16
  go_wp2_with fail
  refine (check13 p a c _ HT.out.sa).mono ?_
  rintro e w1 ⟨rfl, hb⟩
  have HT1 := Lib.hid (HT.out.below hb); clear hb HT
  obtain ⟨y0, y1, y2, y3⟩ := HT1.out.c2.four
  obtain ⟨x0, x1, x2, x3⟩ := HT1.out.c1.four
  cases h1 : (chkE p == 0)
  case false =>
    rw [h1] at HF
    have t1 := bne_t h1
    go_wp2
    go_ret
    exact ⟨ret_bool (by rw [HF.out]; rfl), HT1.out.hb⟩
  have t1 := bne_f h1
  go_wp2_with fail
  refine (check13 q b d _ HT1.out.sb).mono ?_
  rintro e w2 ⟨rfl, hb⟩
  have HT2 := Lib.hid (HT1.out.below hb); clear hb HT1 x0 x1 x2 x3 y0 y1 y2 y3
  obtain ⟨y0, y1, y2, y3⟩ := HT2.out.c2.four
  obtain ⟨x0, x1, x2, x3⟩ := HT2.out.c1.four
  rw [h1] at HF
  cases h2 : (chkE q == 0)
  case false =>
    rw [h2] at HF
    have t2 := bne_t h2
    go_wp2
    go_ret
    exact ⟨ret_bool (by rw [HF.out]; rfl), HT2.out.hb⟩
  have t2 := bne_f h2
  rw [h2] at HF
  cases h3 : (p.root == q.root)
  case false =>
    rw [h3] at HF
    have t3 := bne_t h3
    go_wp2
    go_ret
    exact ⟨ret_bool (by rw [HF.out]; rfl), HT2.out.hb⟩
  have t3 := bne_f h3
  rw [h3] at HF
  cases h4 : (p.n == q.n)
  case false =>
    rw [h4] at HF
    have t4 := bne_t h4
    go_wp2
    go_ret
    exact ⟨ret_bool (by rw [HF.out]; rfl), HT2.out.hb⟩
  have t4 := bne_f h4
  rw [h4] at HF
  cases h5 : p.star
  case true =>
    rw [h5] at HF x3
    go_wp2_with fail
    refine (first27 p.fs q.fs a b c d _ HT2.out.sa HT2.out.sb hl).mono ?_
    rintro e w3 ⟨rfl, hb⟩
    have HB3 := Lib.hid (HT2.out.hb.trans (hb.mono HT2.out.hb.size)); clear hb
    go_wp2
    go_ret
    exact ⟨ret_bool (by rw [HF.out]; simp), HB3.out⟩
  rw [h5] at HF x3
  cases h6 : q.star
  case true =>
    rw [h6] at HF y3
    go_wp2
    go_ret
    exact ⟨ret_bool (by rw [HF.out]; simp), HT2.out.hb⟩
  rw [h6] at HF y3
  cases h7 : (p.fs.length == q.fs.length)
  case false =>
    rw [h7] at HF
    have h8 : ((p.fs.length : Int) == (q.fs.length : Int)) = false := by rw [beq_eq_false_iff_ne] at h7 ⊢; omega
    go_wp2
    go_ret
    exact ⟨ret_bool (by rw [HF.out]; simp), HT2.out.hb⟩
  rw [h7] at HF
  have h8 : ((p.fs.length : Int) == (q.fs.length : Int)) = true := by rw [beq_iff_eq] at h7 ⊢; omega
  go_wp2_with fail
  refine (first27 p.fs q.fs a b c d _ HT2.out.sa HT2.out.sb hl).mono ?_
  rintro e w3 ⟨rfl, hb⟩
  have HB3 := Lib.hid (HT2.out.hb.trans (hb.mono HT2.out.hb.size)); clear hb
  go_wp2
  go_ret
  exact ⟨ret_bool (by rw [HF.out]; simp), HB3.out⟩
end Go.Proofs.YthlnhinjcffllaaGreatDoor
