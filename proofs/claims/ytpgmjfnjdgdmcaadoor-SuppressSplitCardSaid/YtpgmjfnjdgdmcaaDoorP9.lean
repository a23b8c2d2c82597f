import Derived.Test.YtpgmjfnjdgdmcaaDoorP8
import Derived.Test.YtpgmjfnjdgdmcaaDoorRegy
import Derived.Laws.Tables
import Derived.Laws.CopyOwn
namespace Go.Proofs.YtpgmjfnjdgdmcaaDoor
open Go.RowKit Go.Sort

theorem alloc_drew (w : World) (o : Obj) : (w.alloc o).drew = w.drew.alloc o := rfl
theorem two_below (w : World) (o1 o2 : Obj) : Below w.heap.size w ((w.alloc o1).alloc o2) := ((Below.refl _ _).alloc (Nat.le_refl _) _).alloc (by simp) _
/-- a block of cells -/
def Blk (W : World) (g : Nat) (cs : Array Value) (t : TypeId) : Prop := W.heap[g]? = some (.cells cs t (0, 0))
theorem Blk.cell {W : World} {g : Nat} {cs : Array Value} {t : TypeId} (h : Blk W g cs t) (i : Nat) (hi : i < cs.size) : W.cell? ⟨g, i, none⟩ = some cs[i] := by
  rw [cell_of_row _ _ _ _ _ _ h]; simp [hi]
theorem Blk.free {W : World} {g : Nat} {cs : Array Value} {t : TypeId} (h : Blk W g cs t) (i : Nat) : W.frozen? ⟨g, i, none⟩ = false := by
  unfold Blk at h; unfold World.frozen?; rw [h]; simp
theorem Blk.lt {W : World} {g : Nat} {cs : Array Value} {t : TypeId} (h : Blk W g cs t) : g < W.heap.size := (Array.getElem?_eq_some_iff.1 h).1
theorem Blk.below {W W' : World} {g : Nat} {cs : Array Value} {t : TypeId} (h : Blk W g cs t) (hb : Below W.heap.size W W') : Blk W' g cs t := by
  unfold Blk; rw [hb.block g h.lt]; exact h
theorem Blk.grown {W W' : World} {g : Nat} {cs : Array Value} {t : TypeId} {row : Option Nat} (h : Blk W g cs t) (hg : W.grownBy W' row) (hne : some g ≠ row) : Blk W' g cs t := by
  unfold Blk; rw [hg.block g h.lt hne]; exact h
theorem Blk.set {W : World} {g : Nat} {cs : Array Value} {t : TypeId} (h : Blk W g cs t) (i : Nat) (v : Value) : Blk (W.setCell ⟨g, i, none⟩ v) g (cs.setIfInBounds i v) t := by
  unfold Blk at *
  simp only [World.setCell, Array.getElem?_modify, if_true, h, Option.map_some, Option.isSome_none]
  congr 2
theorem Blk.other {W : World} {g : Nat} {cs : Array Value} {t : TypeId} (h : Blk W g cs t) {g' : Nat} (hne : g' ≠ g) (i : Nat) (v : Value) : Blk (W.setCell ⟨g', i, none⟩ v) g cs t := by
  unfold Blk at *
  simp only [World.setCell, Array.getElem?_modify]
  rw [if_neg hne]; exact h
theorem blk_new (w : World) (cs : Array Value) (t : TypeId) : Blk (w.alloc (.cells cs t)) w.heap.size cs t := heap_alloc_new w _
theorem blk_1 (w : World) (cs : Array Value) (t : TypeId) (o2 o3 : Obj) : Blk (((w.alloc (.cells cs t)).alloc o2).alloc o3) w.heap.size cs t := (blk_new w cs t).below (two_below ..)
theorem blk_2 (w : World) (cs : Array Value) (t : TypeId) (o1 o3 : Obj) : Blk (((w.alloc o1).alloc (.cells cs t)).alloc o3) (w.heap.size + 1) cs t := by
  have := (blk_new (w.alloc o1) cs t).below ((Below.refl _ _).alloc (Nat.le_refl _) o3)
  simpa using this
theorem blk_3 (w : World) (cs : Array Value) (t : TypeId) (o1 o2 : Obj) : Blk (((w.alloc o1).alloc o2).alloc (.cells cs t)) (w.heap.size + 1 + 1) cs t := by
  have := blk_new ((w.alloc o1).alloc o2) cs t
  simpa using this
def NotB (a : Option Addr) (g : Nat) : Prop := ∀ b off, a = some ⟨b, off, none⟩ → b ≠ g
def GtB (a : Option Addr) (g : Nat) : Prop := ∀ b off, a = some ⟨b, off, none⟩ → g < b
theorem GtB.nb {a : Option Addr} {g r : Nat} (h : GtB a g) (hr : r ≤ g) : NotB a r := fun b off e => by have := h b off e; omega
theorem Blk.setRow {W : World} {g : Nat} {cs : Array Value} {t : TypeId} (h : Blk W g cs t) (cs' : Array Value) : Blk (W.setRow g cs') g cs' t := setRow_heap W g cs cs' t (0, 0) h
theorem Blk.setRow_ne {W : World} {g g' : Nat} {cs : Array Value} {t : TypeId} (h : Blk W g cs t) (hne : g ≠ g') (cs' : Array Value) : Blk (W.setRow g' cs') g cs t := by
  unfold Blk; rw [setRow_other W g' g cs' hne]; exact h
theorem StrsAt.setRow {w : World} {a : Option Addr} {l : List ByteArray} (h : StrsAt w a l) {g : Nat} {cs : Array Value} (hne : NotB a g) : StrsAt (w.setRow g cs) a l := by
  intro k hk
  obtain ⟨b, off, rfl, h1⟩ := h k hk
  exact ⟨b, off, rfl, by rw [cell_setRow_other w g cs _ (hne b off rfl)]; exact h1⟩

/-- a suppression is stored whole -/
theorem store23 {ops : Array Oper} {rest : List Oper} {o : Oper} {a : Act} {w : World} {Q : Exit → Act → World → Prop} (hgd : o.guard = none) (x y : Operand) (ho : o.op = .store 23 x y)
    (g : Nat) (n : Int) (s1 s2 s3 s4 : ByteArray) (hx : a.eval x = .pointer (some ⟨g, 0, none⟩)) (hy : a.eval y = .agg #[.int .i64 n, .string s1, .string s2, .string s3, .string s4])
    (old : Array Value) (hg : Blk w g old 23) (hold : old.size = 5)
    (h : wpList Tryd.prog ops Q rest (a.put o.dst undef) (w.setRow g #[.int .i64 n, .string s1, .string s2, .string s3, .string s4])) : wpList Tryd.prog ops Q (o :: rest) a w :=
  wpList_store_row hgd 23 x y ho g _ hx hy 23 old hg (by kernel_rfl) hold (by simp [Value.oneCell']) h
theorem wload23 {ops : Array Oper} {rest : List Oper} {o : Oper} {a : Act} {w : World} {Q : Exit → Act → World → Prop} (hgd : o.guard = none) (x : Operand) (ho : o.op = .load 23 x)
    (g : Nat) (cs : Array Value) (hx : a.eval x = .pointer (some ⟨g, 0, none⟩)) (hg : Blk w g cs 23) (hc : cs.size = 5)
    (h : wpList Tryd.prog ops Q rest (a.put o.dst (.agg cs)) w) : wpList Tryd.prog ops Q (o :: rest) a w :=
  wpList_load_row hgd 23 x ho g hx 23 cs (0, 0) _ hg Tryd.underlying23 rfl (by rw [hc]; kernel_rfl) h
theorem results_c2 {P : Program} {fn : Func} {p t1 : Tmp} {ty : TypeId} (h : fn.results = #[.cell p ty, .tmp t1]) (tmps : Array Value) (w : World) (g : Nat) (cs : Array Value) (d : TypeDesc) (v1 : Value)
    (hp : tmps.getD p undef = .pointer (some ⟨g, 0, none⟩)) (h1 : tmps.getD t1 undef = v1) (hg : Blk w g cs ty)
    (hu : P.underlying ty = some d) (hd : (match d with | .struct _ | .array _ _ => true | _ => false) = true) (hi : (P.info? ty).map (·.size) = some cs.size) :
    (results fn tmps).run P w = .ok (.tuple #[.agg cs, v1]) w := by
  have hp' : tmps[p]?.getD undef = .pointer (some ⟨g, 0, none⟩) := by simpa using hp
  have h1' : tmps[t1]?.getD undef = v1 := by simpa using h1
  simp [results, h, hp', h1', asAddr, run_loadVar_row w g ty ty cs (0, 0) d hg hu hd hi]

/-- the error of a code: none, the form's own, or the code itself -/
def errV (EF : Value) (c : Int) : Value := if c = 0 then .nilIface else if c = 2 then EF else .iface 29 (.int .i64 c)
def zeroN : Nt := ⟨0, ⟨#[]⟩, ⟨#[]⟩, ⟨#[]⟩, ⟨#[]⟩⟩
def LinePost (EF : Value) (l : List UInt8) (w : World) (e : Ending) (w' : World) : Prop :=
  Below w.heap.size w w' ∧ e = .returned (.tuple #[NtV (if (lineP l).1 = 0 then (lineP l).2 else zeroN), errV EF (lineP l).1])
theorem splitB_ws (l : List UInt8) : Lib.splitB ⟨#[32]⟩ 0 (min 6 ((mkB l).size + 1) - 1) (mkB l) = (wsN l).map mkB := by
  rw [← bytes_map (Lib.splitB ⟨#[32]⟩ 0 (min 6 ((mkB l).size + 1) - 1) (mkB l)), Lib.splitB_data, mkB_data, mkB_size]
  congr 1
  exact wsN_eq l
theorem wsN_len (l : List UInt8) : (wsN l).length ≤ min 6 (l.length + 1) := by
  rw [← wsN_eq]
  have h := Lib.splitB_length_le ⟨#[32]⟩ 0 (min 6 (l.length + 1) - 1) (mkB l)
  have e := congrArg List.length (Lib.splitB_data ⟨#[32]⟩ 0 (min 6 (l.length + 1) - 1) (mkB l))
  rw [mkB_data, List.length_map] at e
  have e2 : (ByteArray.mk #[32]).data.toList = [32] := rfl
  rw [e2] at e
  omega
/-- SplitN: the words of a line -/
theorem splitn60 (l : List UInt8) (m : Int) (w : World) (hs : l.length ≤ 65536) (hm : w.cell? ⟨2, 0, none⟩ = some (.int .i64 m)) :
    Calls Tryd.prog 60 #[.string (mkB l), .string ⟨#[32]⟩, .int .i64 6] w fun e w' => e = .returned (.slice (some ⟨w.heap.size, 0, none⟩) ((wsN l).map mkB).length (min 6 (l.length + 1))) ∧ Below w.heap.size w w' ∧ StrsAt w' (some ⟨w.heap.size, 0, none⟩) ((wsN l).map mkB) := by
  have hz := mkB_size l
  have := Tryd.strings_SplitN (mkB l) ⟨#[32]⟩ 6 m w (by omega) hm (by decide) (by omega) (by omega)
  rw [splitB_ws, hz] at this
  refine this.mono ?_
  rintro e w' ⟨rfl, rfl⟩
  refine ⟨rfl, (Below.refl _ _).alloc (Nat.le_refl _) _, ?_⟩
  intro k hk
  refine ⟨w.heap.size, 0, rfl, ?_⟩
  rw [cell_of_row _ _ _ _ 9 (0, 0) (heap_alloc_new w _)]
  have hk' : k < (wsN l).length := by simpa using hk
  have hN := wsN_len l
  simp only [Lib.cellsOf, List.getElem?_toArray]
  rw [List.getElem?_append_left (by simpa using hk')]
  simp [hk']
theorem cut36 (x : List UInt8) (m : Int) (w : World) (hs : x.length ≤ 65536) (hm : w.cell? ⟨2, 0, none⟩ = some (.int .i64 m)) :
    Calls Tryd.prog 36 #[.string (mkB x), .string ⟨#[10]⟩] w fun e w' => e = .returned (.tuple #[.string (mkB (Lib.cut x [10]).1), .string (mkB (Lib.cut x [10]).2.1), .bool (Lib.cut x [10]).2.2]) ∧ ∃ n, w' = w.drewN n := by
  have hz := mkB_size x
  have := Tryd.strings_Cut (mkB x) ⟨#[10]⟩ m w (by omega) hm
  rw [mkB_data] at this
  exact this
theorem addr_map (a : Option Addr) : a.map (fun x => x.add 0) = a := by
  cases a with
  | none => rfl
  | some x => simp [Addr.add]
set_option maxRecDepth 100000 in
theorem slice59h (a : Option Addr) (n cap k : Nat) (h : k ≤ cap) (w : World) : (Instr.slice 59 (.slice a n cap) none (some (.int .i64 (k : Int))) none).run Tryd.prog w = .ok (.slice a k cap) w := by
  have hs : (sizeOf (Tryd.prog.elem 59)).run Tryd.prog w = .ok 1 w := by kernel_rfl
  rw [run_slice_h w 59 a n cap Tryd.underlying59 .i64 (k : Int) (by omega) (by omega), hs]
  simp [Result.andThen, sliced, addr_map]
theorem StrsAt.take {w : World} {a : Option Addr} {l : List ByteArray} (h : StrsAt w a l) (n : Nat) : StrsAt w a (l.take n) := by
  intro k hk
  have hk' : k < l.length := by simp at hk; omega
  obtain ⟨b, off, ha, hc⟩ := h k hk'
  exact ⟨b, off, ha, by rw [hc]; simp⟩
end Go.Proofs.YtpgmjfnjdgdmcaaDoor
