import Derived.Test.YtlkafolgbkobpaaDoorA21
namespace Go.Proofs.YtlkafolgbkobpaaDoor
open Go.RowKit Go.Sort
theorem alloc_drew (w : World) (o : Obj) : (w.alloc o).drew = w.drew.alloc o := rfl
theorem two_below (w : World) (o1 o2 : Obj) : Below w.heap.size w ((w.alloc o1).alloc o2) := ((Below.refl _ _).alloc (Nat.le_refl _) _).alloc (by simp) _
/-- a block of cells -/
def Blk (W : World) (g : Nat) (cs : Array Value) (t : TypeId) : Prop := W.heap[g]? = some (.cells cs t (0, 0))
theorem Blk.cell {W : World} {g : Nat} {cs : Array Value} {t : TypeId} (h : Blk W g cs t) (i : Nat) (hi : i < cs.size) : W.cell? ⟨g, i, none⟩ = some cs[i] := by
  rw [cell_of_row _ _ _ _ _ _ h]; simp [hi]
theorem Blk.free {W : World} {g : Nat} {cs : Array Value} {t : TypeId} (h : Blk W g cs t) (i : Nat) : W.frozen? ⟨g, i, none⟩ = false := by
  unfold Blk at h; unfold World.frozen?; rw [h]; simp
theorem Blk.lt {W : World} {g : Nat} {cs : Array Value} {t : TypeId} (h : Blk W g cs t) : g < W.heap.size := (Array.getElem?_eq_some_iff.1 h).1
theorem Blk.below {W W' : World} {g : Nat} {cs : Array Value} {t : TypeId} (h : Blk W g cs t) (hb : Below W.heap.size W W') : Blk W' g cs t := by
  unfold Blk; rw [hb.block g h.lt]; exact h
theorem Blk.grown {W W' : World} {g : Nat} {cs : Array Value} {t : TypeId} {row : Option Nat} (h : Blk W g cs t) (hg : W.grownBy W' row) (hne : some g ≠ row) : Blk W' g cs t := by
  unfold Blk; rw [hg.block g h.lt hne]; exact h
theorem Blk.set {W : World} {g : Nat} {cs : Array Value} {t : TypeId} (h : Blk W g cs t) (i : Nat) (v : Value) : Blk (W.setCell ⟨g, i, none⟩ v) g (cs.setIfInBounds i v) t := by
  unfold Blk at *
  simp only [World.setCell, Array.getElem?_modify, if_true, h, Option.map_some, Option.isSome_none]
  congr 2
theorem Blk.other {W : World} {g : Nat} {cs : Array Value} {t : TypeId} (h : Blk W g cs t) {g' : Nat} (hne : g' ≠ g) (i : Nat) (v : Value) : Blk (W.setCell ⟨g', i, none⟩ v) g cs t := by
  unfold Blk at *
  simp only [World.setCell, Array.getElem?_modify]
  rw [if_neg hne]; exact h
theorem blk_new (w : World) (cs : Array Value) (t : TypeId) : Blk (w.alloc (.cells cs t)) w.heap.size cs t := heap_alloc_new w _
theorem blk_1 (w : World) (cs : Array Value) (t : TypeId) (o2 o3 : Obj) : Blk (((w.alloc (.cells cs t)).alloc o2).alloc o3) w.heap.size cs t := (blk_new w cs t).below (two_below ..)
theorem blk_2 (w : World) (cs : Array Value) (t : TypeId) (o1 o3 : Obj) : Blk (((w.alloc o1).alloc (.cells cs t)).alloc o3) (w.heap.size + 1) cs t := by
  have := (blk_new (w.alloc o1) cs t).below ((Below.refl _ _).alloc (Nat.le_refl _) o3)
  simpa using this
theorem blk_3 (w : World) (cs : Array Value) (t : TypeId) (o1 o2 : Obj) : Blk (((w.alloc o1).alloc o2).alloc (.cells cs t)) (w.heap.size + 1 + 1) cs t := by
  have := blk_new ((w.alloc o1).alloc o2) cs t
  simpa using this
end Go.Proofs.YtlkafolgbkobpaaDoor
