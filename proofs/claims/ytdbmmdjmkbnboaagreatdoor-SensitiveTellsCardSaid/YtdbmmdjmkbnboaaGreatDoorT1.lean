/-
  Memory; pack(of, ctx): a number and two at most of a list, as one struct.
-/
import Derived.Test.YtdbmmdjmkbnboaaGreatDoorProg
import Derived.WalkKit
import Derived.WalkSpells
import Derived.WalkLawsBesides
import Derived.BigQuiet
import Derived.Lib.Hide
import Derived.Deep.DeepCutAuto
import Derived.Deep.QuietTactic
import Derived.StillTailTactics
import Derived.Deep.CutBlock
import Derived.Outline
import Derived.Laws.Tables
import Derived.Laws.CopyOwn
import Derived.Laws.AppendOwnNone
namespace Go.Proofs.YtdbmmdjmkbnboaaGreatDoor
open Go.RowKit
theorem ret_int {k : IntKind} {a b : Int} (h : a = b) : Ending.returned (.int k a) = .returned (.int k b) := by rw [h]
theorem ret_bool {a b : Bool} (h : a = b) : Ending.returned (.bool a) = .returned (.bool b) := by rw [h]
/-- The call returns v and leaves the world as it was. -/
def Same (w : World) (v : Value) (e : Ending) (w' : World) : Prop := e = .returned v ∧ w = w'
/-- The call returns v; nothing that was there has changed. -/
def Ret (w : World) (v : Value) (e : Ending) (w' : World) : Prop := e = .returned v ∧ Below w.heap.size w w'
theorem cell_below {w w' : World} (hb : Below w.heap.size w w') {a : Addr} {v : Value} (h : w.cell? a = some v) : w'.cell? a = some v := by
  rw [hb.cell (World.block_lt_of_cell? w a h)]; exact h
/-- a block of cells -/
def Blk (W : World) (g : Nat) (cs : Array Value) (t : TypeId) : Prop := W.heap[g]? = some (.cells cs t (0, 0))
theorem Blk.cell {W : World} {g : Nat} {cs : Array Value} {t : TypeId} (h : Blk W g cs t) (i : Nat) (hi : i < cs.size) : W.cell? ⟨g, i, none⟩ = some cs[i] := by
  rw [cell_of_row _ _ _ _ _ _ h]; simp [hi]
theorem Blk.free {W : World} {g : Nat} {cs : Array Value} {t : TypeId} (h : Blk W g cs t) (i : Nat) : W.frozen? ⟨g, i, none⟩ = false := by
  unfold Blk at h; unfold World.frozen?; rw [h]; simp
theorem Blk.lt {W : World} {g : Nat} {cs : Array Value} {t : TypeId} (h : Blk W g cs t) : g < W.heap.size := (Array.getElem?_eq_some_iff.1 h).1
theorem Blk.below {W W' : World} {g : Nat} {cs : Array Value} {t : TypeId} (h : Blk W g cs t) (hb : Below W.heap.size W W') : Blk W' g cs t := by
  unfold Blk; rw [hb.block g h.lt]; exact h
theorem Blk.grown {W W' : World} {g : Nat} {cs : Array Value} {t : TypeId} {row : Option Nat} (h : Blk W g cs t) (hg : W.grownBy W' row) (hne : some g ≠ row) : Blk W' g cs t := by
  unfold Blk; rw [hg.block g h.lt hne]; exact h
theorem Blk.setRow {W : World} {g : Nat} {cs : Array Value} {t : TypeId} (h : Blk W g cs t) (cs' : Array Value) : Blk (W.setRow g cs') g cs' t := setRow_heap W g cs cs' t (0, 0) h
theorem Blk.setRow_ne {W : World} {g g' : Nat} {cs : Array Value} {t : TypeId} (h : Blk W g cs t) (hne : g ≠ g') (cs' : Array Value) : Blk (W.setRow g' cs') g cs t := by
  unfold Blk; rw [setRow_other W g' g cs' hne]; exact h
theorem Blk.set {W : World} {g : Nat} {cs : Array Value} {t : TypeId} (h : Blk W g cs t) (i : Nat) (v : Value) : Blk (W.setCell ⟨g, i, none⟩ v) g (cs.setIfInBounds i v) t := by
  unfold Blk at *
  simp only [World.setCell, Array.getElem?_modify, if_true, h, Option.map_some, Option.isSome_none]
  congr 2
theorem Blk.other {W : World} {g : Nat} {cs : Array Value} {t : TypeId} (h : Blk W g cs t) {g' : Nat} (hne : g' ≠ g) (i : Nat) (v : Value) : Blk (W.setCell ⟨g', i, none⟩ v) g cs t := by
  unfold Blk at *
  simp only [World.setCell, Array.getElem?_modify]
  rw [if_neg hne]; exact h
theorem blk_new (w : World) (cs : Array Value) (t : TypeId) : Blk (w.alloc (.cells cs t)) w.heap.size cs t := heap_alloc_new w _
theorem blk_new2 (w : World) (cs : Array Value) (t : TypeId) (o1 : Obj) : Blk ((w.alloc o1).alloc (.cells cs t)) (w.heap.size + 1) cs t := by
  have := blk_new (w.alloc o1) cs t
  simpa using this
theorem one_below (w : World) (o1 : Obj) : Below w.heap.size w (w.alloc o1) := (Below.refl _ _).alloc (Nat.le_refl _) _
theorem two_below (w : World) (o1 o2 : Obj) : Below w.heap.size w ((w.alloc o1).alloc o2) := (one_below ..).alloc (by simp) _
theorem three_below (w : World) (o1 o2 o3 : Obj) : Below w.heap.size w (((w.alloc o1).alloc o2).alloc o3) := (two_below ..).alloc (by simp; omega) _
theorem below_drewN' {B : Nat} {a w : World} (h : Below B a w) : ∀ n, Below B a (w.drewN n)
  | 0 => h
  | n + 1 => by
    have := below_drewN' h n
    exact ⟨this.os, this.tape, this.output, this.size, this.block⟩
theorem ne_beq {a b : Int} (h : a ≠ b) : (a == b) = false := by simpa using h
theorem eq_beq {a b : Int} (h : a = b) : (a == b) = true := by simpa using h
theorem addr_add (b off k : Nat) : (⟨b, off, none⟩ : Addr).add k = ⟨b, off + k, none⟩ := by unfold Addr.add; split <;> simp_all
theorem results_c1 {P : Program} {fn : Func} {p : Tmp} {ty : TypeId} (h : fn.results = #[.cell p ty]) (tmps : Array Value) (w : World) (g : Nat) (cs : Array Value) (d : TypeDesc)
    (hp : tmps.getD p undef = .pointer (some ⟨g, 0, none⟩)) (hg : Blk w g cs ty)
    (hu : P.underlying ty = some d) (hd : (match d with | .struct _ | .array _ _ => true | _ => false) = true) (hi : (P.info? ty).map (·.size) = some cs.size) :
    (results fn tmps).run P w = .ok (.agg cs) w := by
  have hp' : tmps[p]?.getD undef = .pointer (some ⟨g, 0, none⟩) := by simpa using hp
  simp [results, h, hp', asAddr, run_loadVar_row w g ty ty cs (0, 0) d hg hu hd hi]
/-- numbers at an address -/
def IntsAt (w : World) (a : Option Addr) (l : List Int) : Prop :=
  ∀ k (h : k < l.length), ∃ b off, a = some ⟨b, off, none⟩ ∧ w.cell? ⟨b, off + k, none⟩ = some (.int .i64 l[k])
theorem IntsAt.below {w w' : World} {a : Option Addr} {l : List Int} (h : IntsAt w a l) (hb : Below w.heap.size w w') : IntsAt w' a l := by
  intro k hk
  obtain ⟨b, off, ha, h0⟩ := h k hk
  exact ⟨b, off, ha, cell_below hb h0⟩
def key0 (q n a b : Int) : Array Value := #[.int .i64 q, .int .i64 n, .int .i64 a, .int .i64 b]
theorem store194 {ops : Array Oper} {rest : List Oper} {o : Oper} {a : Act} {w : World} {Q : Exit → Act → World → Prop} (hgd : o.guard = none) (x y : Operand) (ho : o.op = .store 194 x y)
    (g : Nat) (q n c d : Int) (hx : a.eval x = .pointer (some ⟨g, 0, none⟩)) (hy : a.eval y = .agg #[.int .i64 q, .int .i64 n, .int .i64 c, .int .i64 d])
    (old : Array Value) (hg : Blk w g old 194) (hold : old.size = 4)
    (h : wpList Tryz.prog ops Q rest (a.put o.dst undef) (w.setRow g (key0 q n c d))) : wpList Tryz.prog ops Q (o :: rest) a w :=
  wpList_store_row hgd 194 x y ho g _ hx hy 194 old hg (by kernel_rfl) hold (by simp [Value.oneCell']) h
theorem wload194 {ops : Array Oper} {rest : List Oper} {o : Oper} {a : Act} {w : World} {Q : Exit → Act → World → Prop} (hgd : o.guard = none) (x : Operand) (ho : o.op = .load 194 x)
    (g : Nat) (cs : Array Value) (hx : a.eval x = .pointer (some ⟨g, 0, none⟩)) (hg : Blk w g cs 194) (hc : cs.size = 4)
    (h : wpList Tryz.prog ops Q rest (a.put o.dst (.agg cs)) w) : wpList Tryz.prog ops Q (o :: rest) a w :=
  wpList_load_row hgd 194 x ho g hx 194 cs (0, 0) _ hg Tryz.underlying194 rfl (by rw [hc]; kernel_rfl) h
/-- the key of a list of two at most -/
def keyOf (q : Int) (l : List Int) : Value := .agg (key0 q l.length (l.getD 0 0) (l.getD 1 0))
set_option maxRecDepth 100000 in
set_option maxHeartbeats 2000000 in
theorem pack95 (q : Int) (l : List Int) (a : Option Addr) (c : Nat) (w : World) (hl : IntsAt w a l) (h2 : l.length ≤ 2) : Calls Tryz.prog 95 #[.int .i64 q, .slice a l.length c] w (Ret w (keyOf q l)) := by
  have HB0 := Lib.hid (two_below w (.cells #[.int .i64 0, .int .i64 0, .int .i64 0, .int .i64 0] 194) (.cells #[.int .i64 q, .int .i64 l.length, .int .i64 0, .int .i64 0] 194))
  have HL := Lib.hid (hl.below HB0.out); clear hl
  obtain ⟨W, hW⟩ : ∃ W, W = (w.alloc (.cells #[.int .i64 0, .int .i64 0, .int .i64 0, .int .i64 0] 194)).alloc (.cells #[.int .i64 q, .int .i64 l.length, .int .i64 0, .int .i64 0] 194) := ⟨_, rfl⟩
  have C1 : Hid (Blk W w.heap.size #[.int .i64 0, .int .i64 0, .int .i64 0, .int .i64 0] 194) := by rw [hW]; exact (blk_new ..).below (one_below ..)
  have C2 : Hid (Blk W (w.heap.size + 1) #[.int .i64 q, .int .i64 l.length, .int .i64 0, .int .i64 0] 194) := by rw [hW]; exact blk_new2 ..
  have C3 : Hid (W.heap[w.heap.size + 1]? = some (.cells [.int .i64 q, .int .i64 l.length, .int .i64 0, .int .i64 0].toArray 194 (0, 0))) := C2.out
  rw [← hW] at HB0 HL
  go_enter Tryz.func95, Tryz.ntmps95
  go_upto_region 2 with (fail)
  rw [← hW]
  clear hW
  go_wp2_with (with_reducible refine wpList_copy_splice rfl (.tmp 11) (.tmp 12) 38 38 rfl 3 Tryz.underlying38 (by kernel_rfl) (some ⟨w.heap.size + 1, 2, none⟩) a 2 2 l.length c rfl rfl (w.heap.size + 1) 2 [.int .i64 q, .int .i64 l.length, .int .i64 0, .int .i64 0] 194 C3.out (l.map (Value.int .i64)) ?c1 ?c2 ?c3 ?c4 (w.heap.size + 1) W (Below.refl _ _) ?c5 ?_)
  case c1 =>
    rw [List.length_map]
    have : Nat.min l.length 2 = l.length := Nat.min_eq_left h2
    exact this.symm
  case c2 =>
    intro h0
    obtain ⟨b, off, ha, _⟩ := HL.out 0 h0
    refine ⟨_, ha, fun j v hj => ?_⟩
    obtain ⟨x, rfl⟩ := List.getElem?_eq_some_iff.1 hj
    obtain ⟨b', off', ha', hc⟩ := HL.out j x
    rw [ha] at ha'
    cases ha'
    rw [addr_add, hc]
  case c3 => rw [List.length_map]; simp; omega
  case c4 =>
    intro v hv
    obtain ⟨x, _, rfl⟩ := List.mem_map.1 hv
    rfl
  case c5 => omega
  intro w4 hg4 hb4
  have D1 : Hid (Blk w4 w.heap.size #[.int .i64 0, .int .i64 0, .int .i64 0, .int .i64 0] 194) := by
    show w4.heap[w.heap.size]? = _
    rw [hb4.block _ (by omega)]; exact C1.out
  have D2 : Hid (Blk w4 (w.heap.size + 1) (key0 q l.length (l.getD 0 0) (l.getD 1 0)) 194) := by
    show w4.heap[w.heap.size + 1]? = _
    rw [hg4.out]
    match l, h2 with
    | [], _ => rfl
    | [x], _ => rfl
    | [x, y], _ => rfl
  have B4 : Hid (Below w.heap.size w w4) := HB0.out.trans (hb4.mono (Nat.le_succ _))
  have hsz4 : w.heap.size + 1 < w4.heap.size := D2.out.lt
  clear hb4 hg4 C1 C2 C3 HL HB0
  go_wp2_with (first | (refine wload194 rfl _ rfl (w.heap.size + 1) _ rfl D2.out rfl ?_) | (refine store194 rfl _ _ rfl w.heap.size _ _ _ _ rfl rfl _ D1.out rfl ?_))
  have E1 := D1.out.setRow (key0 q l.length (l.getD 0 0) (l.getD 1 0))
  refine bodyPost_ret (v := keyOf q l) (results_c1 Tryz.results95 _ _ w.heap.size _ _ rfl E1 Tryz.underlying194 rfl (by kernel_rfl)) rfl ?_
  exact ⟨rfl, below_setRow B4.out (Nat.le_refl _) _⟩
end Go.Proofs.YtdbmmdjmkbnboaaGreatDoor
