/-
  Drawn regions: three operations come up.
-/
import Derived.Test.YtkbmnfijeknenaaGreatDoorRegy
namespace Go
section
variable {P : Program} {ops : Array Oper} {md : Region.Mode} {C : World → Prop} {Q : Exit → Act → World → Prop}
theorem wpAnyY_three (k l m : Nat) {o o' o'' : Oper} {fuel : Nat} {listed : Array Bool} {a : Act} {w : World} (ho : ops[k]? = some o) (ho' : ops[l]? = some o') (ho'' : ops[m]? = some o'') (hr : (Region.ready md ops listed == [k, l, m]) = true)
    (h : wpList P ops (Exit.then (fun a' w' => C w' ∧ wpAnyY P md ops C Q fuel (listed.setIfInBounds k true) a' w') Q) [o] a w)
    (h' : wpList P ops (Exit.then (fun a' w' => C w' ∧ wpAnyY P md ops C Q fuel (listed.setIfInBounds l true) a' w') Q) [o'] a w)
    (h'' : wpList P ops (Exit.then (fun a' w' => C w' ∧ wpAnyY P md ops C Q fuel (listed.setIfInBounds m true) a' w') Q) [o''] a w) : wpAnyY P md ops C Q (fuel + 1) listed a w := by
  have hr' : Region.ready md ops listed = [k, l, m] := by simpa using hr
  refine ⟨fun h0 => (by rw [hr'] at h0; cases h0), fun i hi => ?_⟩
  rw [hr'] at hi
  have hi : i = k ∨ i = l ∨ i = m := by simpa using hi
  rcases hi with rfl | rfl | rfl
  · exact wpOpY_of_list ho h
  · exact wpOpY_of_list ho' h'
  · exact wpOpY_of_list ho'' h''
end
end Go
