/-
  Maps: how many entries there are, and how many are still to come, as numbers that the world tells.
-/
import Derived.Test.YtkbmnfijeknenaaGreatDoorMP
namespace Go.AM
open Go.RowKit
section
variable {κ : Type} [DecidableEq κ]
/-- how many entries an iterator has still to hand out -/
def leftN (w : World) (r : Nat) : Nat := match w.heap[r]? with
  | some (.mapIter (some g) _ seen _) => (match w.heap[g]? with
    | some (.map ar _) => (leftOf ar seen).size
    | _ => 0)
  | _ => 0
theorem IterF.leftN {w : World} {r g : Nat} {enc : κ → Value} {F : κ → Option Value} {n : Nat} {left : List (κ × Value)} (h : IterF w r g enc F n left) : leftN w r = left.length := by
  obtain ⟨l, ar, c, since, c0, seen, h1, h2, h3, h4, h5, h6, h7, h8, h9, h10, h11, _⟩ := h.ex
  have e := congrArg List.length h11
  simp only [List.length_map, Array.length_toList] at e
  unfold AM.leftN
  simp only [h8, h1]
  exact e
/-- how many entries a map has -/
def mapN (w : World) (g : Nat) : Nat := match w.heap[g]? with
  | some (.map ar _) => ar.size
  | _ => 0
theorem MapF.mapN {w : World} {g : Nat} {enc : κ → Value} {F : κ → Option Value} {n : Nat} (h : MapF w g enc F n) : mapN w g ≤ n ∧ ∃ ks : List κ, ks.Nodup ∧ (∀ k, k ∈ ks ↔ (F k).isSome = true) ∧ mapN w g = ks.length := by
  obtain ⟨l, ar, c, h1, h2, h3, h4, h5, _⟩ := h.ex
  have e := congrArg List.length h2
  simp only [List.length_map, Array.length_toList] at e
  have em : AM.mapN w g = l.length := by unfold AM.mapN; simp only [h1]; exact e
  refine ⟨by rw [em]; exact h5, l.map (·.1), h3, fun k => ?_, by rw [em, List.length_map]⟩
  rw [h4 k]
  unfold lookL
  rw [Option.isSome_map, List.find?_isSome]
  constructor
  · intro hk
    obtain ⟨p, hp, rfl⟩ := List.mem_map.1 hk
    exact ⟨p, hp, by simp⟩
  · rintro ⟨p, hp, e⟩
    have : k = p.1 := by simpa using e
    rw [this]
    exact List.mem_map.2 ⟨p, hp, rfl⟩
end
section
variable {P : Program} {κ : Type} [DecidableEq κ] {ops : Array Oper} {rest : List Oper} {o : Oper} {a : Act} {Q : Exit → Act → World → Prop} {w : World}
/-- an entry of a map that is written out -/
theorem wpList_insertF (hg : o.guard = none) (m x v : Operand) (t : TypeId) (hop : o.op = .insert t m x v) {kt e : TypeId} {enc : κ → Value} (K : MKey P kt enc) (hu : P.underlying t = some (.map kt e)) (g : Nat) {F : κ → Option Value} {n : Nat}
    (hm : a.eval m = .map (some g)) (hown : MapF w g enc F n) (k : κ) (hx : a.eval x = enc k) (val : Value) (hv : a.eval v = val)
    (hK : ∀ w', MapF w' g enc (fun k' => if k' = k then some val else F k') (n + 1) → w.grownBy w' (some g) → w'.heap.size = w.heap.size → wpList P ops Q rest (a.put o.dst undef) w') : wpList P ops Q (o :: rest) a w := by
  refine wpList_plain hg fun K' hK' => ?_
  obtain ⟨ar, c, hrun, r1⟩ := hown.update K hu k val
  unfold Oper.wp
  simp [execOp, hop, hm, hx, hv, hrun, Result.andThen]
  exact hK' _ _ (hK _ r1 (grown_put _) (by show (w.heap.setIfInBounds g _).size = _; simp))
end
end Go.AM
