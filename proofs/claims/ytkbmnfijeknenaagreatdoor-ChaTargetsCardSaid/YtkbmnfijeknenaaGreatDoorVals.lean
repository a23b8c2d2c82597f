/-
  A list of known length, spelled out: 'refine elim_vals n hl ?_; intro s0 .. '.
-/
import Derived.Tactics
namespace Go
def ElimN {α : Type} : Nat → (List α → Prop) → Prop
  | 0, p => p []
  | n + 1, p => ∀ x, ElimN n (fun l => p (x :: l))
theorem elim_vals {α : Type} : ∀ (n : Nat) {p : List α → Prop} {l : List α}, l.length = n → ElimN n p → p l
  | 0, p, l, h, hp => by
    obtain rfl := List.eq_nil_of_length_eq_zero h
    exact hp
  | n + 1, p, l, h, hp => by
    cases l with
    | nil => simp at h
    | cons x m => exact elim_vals n (p := fun l => p (x :: l)) (by simpa using h) (hp x)
end Go
