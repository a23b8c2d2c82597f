/-
  A region that draws its order, walked in one order of one's own choice: operations that only read (in every world of a class C they yield one value and leave the world) may be taken at any time; the others come up alone, one after the other, and each leaves a world of C, but for operation z, behind which no reading is left.
-/
import Derived.Test.YtkbmnfijeknenaaGreatDoorRegc
namespace Go
section
variable {P : Program} {ops : Array Oper} {md : Region.Mode} {C : World → Prop} {z : Nat} {Q : Exit → Act → World → Prop}

def wpAnyZ (P : Program) (md : Region.Mode) (ops : Array Oper) (C : World → Prop) (z : Nat) (Q : Exit → Act → World → Prop) : Nat → Array Bool → Act → World → Prop
  | 0, listed, a, w => Region.ready md ops listed = [] ∧ Q .normal a w
  | fuel + 1, listed, a, w =>
    (Region.ready md ops listed = [] → Q .normal a w) ∧
    ∀ i ∈ Region.ready md ops listed, wpOp P ops Q i (fun a' w' => (i ≠ z → C w') ∧ wpAnyZ P md ops C z Q fuel (listed.setIfInBounds i true) a' w') a w
theorem wpAny_of_Z : ∀ (fuel : Nat) (listed : Array Bool) (a : Act) (w : World), wpAnyZ P md ops C z Q fuel listed a w → wpAny P md ops Q fuel listed a w
  | 0, _, _, _, h => h
  | fuel + 1, _, _, _, h => ⟨h.1, fun i hi => wpOp_mono (fun a' w' hh => wpAny_of_Z fuel _ a' w' hh.2) (h.2 i hi)⟩

theorem wpAnyZ_first {i : Nat} {oi : Oper} {v : Value} (hi : ops[i]? = some oi) (hsel : ∀ (j : Nat) (o : Oper) cs b, ops[j]? = some o → o.op ≠ .select cs b)
    (hQ : ∀ c a w, Q (.panic c) (a.put oi.dst v) w → Q (.panic c) a w) (hz : ∀ oz, ops[z]? = some oz → ∃ e ∈ oz.after, Region.binds md e = true ∧ e.on = i) :
    ∀ (fuel : Nat) (listed : Array Bool) (a : Act) (w : World), C w →
      (∀ j oj, ops[j]? = some oj → j ≠ i → listed.getD j true = false → (∀ e ∈ oj.after, Region.binds md e = true → e.on ≠ i) → oi.apart ops oj = true) →
      i ∈ Region.ready md ops listed → StillIn P ops C oi v a →
      wpAnyZ P md ops C z Q fuel (listed.setIfInBounds i true) (a.put oi.dst v) w → wpAnyZ P md ops C z Q (fuel + 1) listed a w := by
  intro fuel
  induction fuel with
  | zero =>
    intro listed a w hc _ hr hy H
    refine ⟨fun h => (by rw [h] at hr; cases hr), fun j hj => ?_⟩
    by_cases hji : j = i
    · subst hji; exact hy.wpOp hi hc ⟨fun _ => hc, H⟩
    · have := ready_mono hj hji
      rw [H.1] at this
      cases this
  | succ fuel ih =>
    intro listed a w hc hfree hr hy H
    refine ⟨fun h => (by rw [h] at hr; cases hr), fun j hj => ?_⟩
    by_cases hji : j = i
    · subst hji; exact hy.wpOp hi hc ⟨fun _ => hc, H⟩
    · have h1 := H.2 j (ready_mono hj hji)
      obtain ⟨hjun, oj, hoj, hall⟩ := mem_ready.1 hj
      have hnot : ∀ e ∈ oj.after, Region.binds md e = true → e.on ≠ i := fun e he hb heq => by
        have h1 := hall e he hb
        have h0 := (mem_ready.1 hr).1
        rw [heq] at h1
        rcases Nat.lt_or_ge i listed.size with h' | h'
        · simp [h'] at h0 h1; rw [h0] at h1; cases h1
        · simp [Array.getElem?_eq_none h'] at h1
      have h2 := wpOp_putC hoj (hfree j oj hoj hji hjun hnot) (fun cs b => hsel i oi cs b hi) (fun cs b => hsel j oj cs b hoj) hQ hy h1
      have hfree' : ∀ k ok, ops[k]? = some ok → k ≠ i → (listed.setIfInBounds j true).getD k true = false →
          (∀ e ∈ ok.after, Region.binds md e = true → e.on ≠ i) → oi.apart ops ok = true := fun k ok hk hki hun hno => by
        refine hfree k ok hk hki ?_ hno
        by_cases hjk : j = k
        · subst hjk; exact hjun
        · rw [getD_set_ne true hjk] at hun; exact hun
      have hjz : j ≠ z := fun e => by
        subst e
        obtain ⟨e, he, hb, heq⟩ := hz oj hoj
        exact hnot e he hb heq
      refine wpOp_mono (fun a' w' h3 => ⟨h3.2.1, ih (listed.setIfInBounds j true) a' w' (h3.2.1 hjz) hfree' (ready_mono hr (Ne.symm hji)) h3.1 ?_⟩) h2
      rw [Array.setIfInBounds_comm _ _ hji]
      exact h3.2.2

theorem wpAnyZ_take (i : Nat) {o : Oper} {fuel : Nat} {listed : Array Bool} {a : Act} {w : World} (ho : ops[i]? = some o)
    (hB : (Region.noSelect ops && (Region.ready md ops listed).contains i && Region.free md ops listed i) = true)
    (hZ : (match ops[z]? with | some oz => oz.after.any (fun e => Region.binds md e && e.on == i) | none => true) = true)
    (hQ : ∀ v c a w, Q (.panic c) (a.put o.dst v) w → Q (.panic c) a w) (hc : C w)
    (h : ∀ K : Act → Prop, (∀ a', wpAnyZ P md ops C z Q fuel (listed.setIfInBounds i true) a' w → K a') → if Region.wanted o (yielded ops a.tmps) then o.stillC P a C K else K (a.put o.dst undef)) :
    wpAnyZ P md ops C z Q (fuel + 1) listed a w := by
  simp only [Bool.and_eq_true] at hB
  obtain ⟨⟨hs, hr⟩, hf⟩ := hB
  have hz : ∀ oz, ops[z]? = some oz → ∃ e ∈ oz.after, Region.binds md e = true ∧ e.on = i := fun oz hoz => by
    rw [hoz] at hZ
    simp only [Array.any_eq_true', Bool.and_eq_true, beq_iff_eq] at hZ
    exact hZ
  have h' := h (fun a' => wpAnyZ P md ops C z Q fuel (listed.setIfInBounds i true) a' w) (fun _ x => x)
  by_cases hw : Region.wanted o (yielded ops a.tmps) = true
  · rw [if_pos hw] at h'
    obtain ⟨v, hv, hK⟩ := h'
    exact wpAnyZ_first ho (Region.noSelect_spec hs) (hQ v) hz fuel listed a w hc (Region.free_spec ho hf) (by simpa using hr) (.inl ⟨hw, fun w' hw' => Oper.stillAtC_run (hv w' hw')⟩) hK
  · rw [if_neg hw] at h'
    exact wpAnyZ_first ho (Region.noSelect_spec hs) (hQ undef) hz fuel listed a w hc (Region.free_spec ho hf) (by simpa using hr) (.inr ⟨by simpa using hw, rfl⟩) h'
theorem wpOp_of_list {k : Nat} {o : Oper} {K : Act → World → Prop} {a : Act} {w : World} (ho : ops[k]? = some o) (h : wpList P ops (Exit.then K Q) [o] a w) : wpOp P ops Q k K a w := by
  unfold wpOp
  simp only [ho]
  simp only [wpList] at h
  split
  · rename_i hw
    simp only [hw, if_true] at h
    rcases h with h | ⟨hasks, hlets⟩
    · refine .inl ?_
      unfold Oper.wp at *
      generalize (execOp a.eval o).run P w = r at *
      cases r with
      | ok n w' =>
        cases n <;> simp only [Oper.upon] at h ⊢
        case enter f args => exact Calls.mono h (fun e w'' he => by cases e <;> exact he)
        all_goals exact h
      | halt x w' => cases x <;> simp only [Oper.upon] at h ⊢ <;> exact h
    · exact .inr ⟨hasks, hlets⟩
  · rename_i hw
    simp only [hw] at h
    exact h
theorem wpAnyZ_one (k : Nat) {o : Oper} {fuel : Nat} {listed : Array Bool} {a : Act} {w : World} (ho : ops[k]? = some o) (hr : (Region.ready md ops listed == [k]) = true)
    (h : wpList P ops (Exit.then (fun a' w' => C w' ∧ wpAnyZ P md ops C z Q fuel (listed.setIfInBounds k true) a' w') Q) [o] a w) : wpAnyZ P md ops C z Q (fuel + 1) listed a w := by
  have hr' : Region.ready md ops listed = [k] := by simpa using hr
  refine ⟨fun h0 => (by rw [hr'] at h0; cases h0), fun i hi => ?_⟩
  rw [hr'] at hi
  obtain rfl : i = k := by simpa using hi
  exact wpOp_mono (fun _ _ h => ⟨fun _ => h.1, h.2⟩) (wpOp_of_list ho h)
theorem wpAnyZ_last {o : Oper} {fuel : Nat} {listed : Array Bool} {a : Act} {w : World} (ho : ops[z]? = some o) (hr : (Region.ready md ops listed == [z]) = true)
    (h : wpList P ops (Exit.then (fun a' w' => wpAnyZ P md ops C z Q fuel (listed.setIfInBounds z true) a' w') Q) [o] a w) : wpAnyZ P md ops C z Q (fuel + 1) listed a w := by
  have hr' : Region.ready md ops listed = [z] := by simpa using hr
  refine ⟨fun h0 => (by rw [hr'] at h0; cases h0), fun i hi => ?_⟩
  rw [hr'] at hi
  obtain rfl : i = z := by simpa using hi
  exact wpOp_mono (fun _ _ h => ⟨fun hn => absurd rfl hn, h⟩) (wpOp_of_list ho h)
theorem wpAnyZ_two (k l : Nat) {o o' : Oper} {fuel : Nat} {listed : Array Bool} {a : Act} {w : World} (ho : ops[k]? = some o) (ho' : ops[l]? = some o') (hr : (Region.ready md ops listed == [k, l]) = true)
    (h : wpList P ops (Exit.then (fun a' w' => C w' ∧ wpAnyZ P md ops C z Q fuel (listed.setIfInBounds k true) a' w') Q) [o] a w)
    (h' : wpList P ops (Exit.then (fun a' w' => C w' ∧ wpAnyZ P md ops C z Q fuel (listed.setIfInBounds l true) a' w') Q) [o'] a w) : wpAnyZ P md ops C z Q (fuel + 1) listed a w := by
  have hr' : Region.ready md ops listed = [k, l] := by simpa using hr
  refine ⟨fun h0 => (by rw [hr'] at h0; cases h0), fun i hi => ?_⟩
  rw [hr'] at hi
  have hi : i = k ∨ i = l := by simpa using hi
  rcases hi with rfl | rfl
  · exact wpOp_mono (fun _ _ h => ⟨fun _ => h.1, h.2⟩) (wpOp_of_list ho h)
  · exact wpOp_mono (fun _ _ h => ⟨fun _ => h.1, h.2⟩) (wpOp_of_list ho' h')
theorem wpAnyZ_done {listed : Array Bool} {a : Act} {w : World} (hr : (Region.ready md ops listed).isEmpty = true) (h : Q .normal a w) (fuel : Nat) : wpAnyZ P md ops C z Q fuel listed a w := by
  have hr' : Region.ready md ops listed = [] := by simpa using hr
  cases fuel with
  | zero => exact ⟨hr', h⟩
  | succ n => exact ⟨fun _ => h, by rw [hr']; simp⟩
theorem wp_region_Z {id : Nat} {a : Act} {w : World} {l : List Oper} (C : World → Prop) (z : Nat) (hm : P.follows .mixedOrders = true)
    (h : wpAnyZ P .any l.toArray C z Q l.length (Array.replicate l.length false) a { w with drawn := w.drawn + 1 }) : (Code.region id l.toArray true).wp P Q a w :=
  wp_region_any hm (by simpa using wpAny_of_Z _ _ _ _ h)
end
end Go
