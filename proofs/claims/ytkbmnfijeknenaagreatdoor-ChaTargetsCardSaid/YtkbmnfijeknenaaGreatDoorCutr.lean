/-
  A region that keeps its order, cut: what is known between its parts.
-/
import Derived.Tactics
import Derived.Orders
namespace Go
theorem Oper.wp_then {P : Program} {Q : Exit → Act → World → Prop} {R K : Act → World → Prop} {o : Oper} {a : Act} {w : World} (h : o.wp P a w K (Exit.then R Q)) : o.wp P a w K Q := by
  unfold Oper.wp at *
  generalize (execOp a.eval o).run P w = r at *
  cases r with
  | ok n w' => cases n <;> exact h
  | halt x w' => cases x <;> exact h
theorem wpList_cut {P : Program} {ops : Array Oper} {Q : Exit → Act → World → Prop} (R : Act → World → Prop) {l2 : List Oper} (h2 : ∀ a w, R a w → wpList P ops Q l2 a w) : ∀ {l1 : List Oper} {a : Act} {w : World},
    wpList P ops (Exit.then R Q) l1 a w → wpList P ops Q (l1 ++ l2) a w
  | [], a, w, h => h2 a w h
  | o :: l1, a, w, h => by
    simp only [wpList, List.cons_append] at h ⊢
    split at h
    · rename_i hw
      rw [if_pos hw]
      rcases h with h | ⟨h1, h3⟩
      · exact .inl (Oper.wp_mono (fun a w h => wpList_cut R h2 h) (Oper.wp_then h))
      · exact .inr ⟨h1, h3⟩
    · rename_i hw
      rw [if_neg hw]
      exact wpList_cut R h2 h
theorem wp_region_cutAt {P : Program} {Q : Exit → Act → World → Prop} {id : Nat} {l : List Oper} {a : Act} {w : World} (n : Nat) (R : Act → World → Prop) (h1 : wpList P l.toArray (Exit.then R Q) (l.take n) a w)
    (h2 : ∀ a w, R a w → wpList P l.toArray Q (l.drop n) a w) : (Code.region id l.toArray false).wp P Q a w := by
  refine wp_region_lit ?_
  have := wpList_cut R h2 h1
  rwa [List.take_append_drop] at this
theorem wpList_cutAt {P : Program} {ops : Array Oper} {Q : Exit → Act → World → Prop} {l : List Oper} {a : Act} {w : World} (n : Nat) (R : Act → World → Prop) (h1 : wpList P ops (Exit.then R Q) (l.take n) a w)
    (h2 : ∀ a w, R a w → wpList P ops Q (l.drop n) a w) : wpList P ops Q l a w := by
  have := wpList_cut R h2 h1
  rwa [List.take_append_drop] at this
theorem wp_region_part {P : Program} {Q : Exit → Act → World → Prop} {id : Nat} {l : List Oper} {a : Act} {w : World} (n : Nat) (R : Act → World → Prop) (h1 : ∀ Q' : Exit → Act → World → Prop, (∀ a w, R a w → Q' .normal a w) → wpList P l.toArray Q' (l.take n) a w)
    (h2 : ∀ a w, R a w → wpList P l.toArray Q (l.drop n) a w) : (Code.region id l.toArray false).wp P Q a w :=
  wp_region_cutAt n R (h1 _ fun _ _ h => h) h2
theorem wpList_part {P : Program} {ops : Array Oper} {Q : Exit → Act → World → Prop} {l : List Oper} {a : Act} {w : World} (n : Nat) (R : Act → World → Prop) (h1 : ∀ Q' : Exit → Act → World → Prop, (∀ a w, R a w → Q' .normal a w) → wpList P ops Q' (l.take n) a w)
    (h2 : ∀ a w, R a w → wpList P ops Q (l.drop n) a w) : wpList P ops Q l a w :=
  wpList_cutAt n R (h1 _ fun _ _ h => h) h2
end Go
