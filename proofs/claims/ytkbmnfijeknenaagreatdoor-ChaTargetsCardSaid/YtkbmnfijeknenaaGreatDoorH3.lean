/-
  Plain: the targets of a call.
-/
import Derived.Test.YtkbmnfijeknenaaGreatDoorHA
import Derived.Test.YtkbmnfijeknenaaGreatDoorUA
import Derived.Test.YtkbmnfijeknenaaGreatDoorG6
namespace Go.Proofs.YtkbmnfijeknenaaGreatDoor
open Go.RowKit Go.Unit0 Go.AM

def callS (h : List Cls) (fs : List Fnc) (c : Ins) (g : Int) : Prop := (c.op = 10 ∧ g = fnI fs c.cls c.name) ∨ (c.op = 9 ∧ ∃ x, tgtNS h c.cls c.name x ∧ g = fnI fs x c.name)
def trgS (u : Unt) (f i x : Int) : Prop := 0 ≤ x ∧ ∃ (j k : Nat) (hj : j < u.fs.length) (hk : k < u.fs[j].code.length), f = (j : Int) ∧ i = (k : Int) ∧ callS u.h u.fs u.fs[j].code[k] x
theorem fnFrom_lt (s t : Str) : ∀ (l : List Fnc) (k : Nat), -1 ≤ fnFrom s t l k ∧ fnFrom s t l k < (k + l.length : Nat)
  | [], k => by
    show -1 ≤ (-1 : Int) ∧ (-1 : Int) < _
    omega
  | x :: l, k => by
    have ih := fnFrom_lt s t l (k + 1)
    show -1 ≤ (if isFn s t x = true then (k : Int) else fnFrom s t l (k + 1)) ∧ (if isFn s t x = true then (k : Int) else fnFrom s t l (k + 1)) < _
    rw [List.length_cons]
    by_cases e : isFn s t x = true
    · rw [if_pos e]; omega
    · rw [if_neg e]; omega
theorem fnI_lt (l : List Fnc) (s t : Str) : -1 ≤ fnI l s t ∧ fnI l s t < l.length := by
  have := fnFrom_lt s t l 0
  simpa [fnI] using this
theorem callS_lt {h : List Cls} {fs : List Fnc} {c : Ins} {g : Int} (k : callS h fs c g) : g < fs.length := by
  rcases k with ⟨_, rfl⟩ | ⟨_, x, _, rfl⟩ <;> exact (fnI_lt ..).2
theorem trgS_lt {u : Unt} {f i x : Int} (k : trgS u f i x) : 0 ≤ x ∧ x < u.fs.length := by
  obtain ⟨h0, j, m, hj, hm, _, _, hc⟩ := k
  exact ⟨h0, callS_lt hc⟩
theorem trgS_at {u : Unt} {j k : Nat} (hj : j < u.fs.length) (hk : k < u.fs[j].code.length) (x : Int) : trgS u j k x ↔ 0 ≤ x ∧ callS u.h u.fs u.fs[j].code[k] x := by
  constructor
  · rintro ⟨h0, j', k', hj', hk', e1, e2, hc⟩
    obtain rfl : j = j' := by omega
    obtain rfl : k = k' := by omega
    exact ⟨h0, hc⟩
  · rintro ⟨h0, hc⟩
    exact ⟨h0, j, k, hj, hk, rfl, rfl, hc⟩
theorem trgS_out {u : Unt} {f i : Int} (h : ∀ (j k : Nat) (hj : j < u.fs.length), k < u.fs[j].code.length → ¬ (f = (j : Int) ∧ i = (k : Int))) (x : Int) : ¬ trgS u f i x := by
  rintro ⟨_, j, k, hj, hk, e1, e2, _⟩
  exact h j k hj hk ⟨e1, e2⟩
theorem set_unique {S : Int → Prop} {L M : List Int} (h1 : L.Pairwise (· < ·)) (h2 : ∀ x, x ∈ L ↔ S x) (k1 : M.Pairwise (· < ·)) (k2 : ∀ x, x ∈ M ↔ S x) : L = M :=
  ord_unique (fun a => Int.lt_irrefl a) (fun _ _ _ => Int.lt_trans) L M h1 k1 fun x => (h2 x).trans (k2 x).symm
theorem asc_len {n : Nat} {L : List Int} (h : L.Pairwise (· < ·)) (k : ∀ x ∈ L, 0 ≤ x ∧ x < n) : L.length ≤ n :=
  nodup_len n L (h.imp fun h => Int.ne_of_lt h) (fun x hx => ⟨x.toNat, by have := k x hx; omega, by have := k x hx; omega⟩)
open Classical in
noncomputable def trgL (u : Unt) (f i : Int) : List Int := ((List.range u.fs.length).filter (fun g : Nat => decide (trgS u f i (g : Int)))).map (fun g : Nat => (g : Int))
open Classical in
theorem trgL_spec (u : Unt) (f i : Int) : (trgL u f i).Pairwise (· < ·) ∧ ∀ x, x ∈ trgL u f i ↔ trgS u f i x := by
  refine ⟨?_, fun x => ?_⟩
  · unfold trgL
    rw [List.pairwise_map]
    exact (List.pairwise_lt_range.filter _).imp (fun h => Int.ofNat_lt.2 h)
  · unfold trgL
    simp only [List.mem_map, List.mem_filter, List.mem_range, decide_eq_true_eq]
    constructor
    · rintro ⟨g, ⟨_, hs⟩, rfl⟩; exact hs
    · intro hs
      have := trgS_lt hs
      refine ⟨x.toNat, ⟨by omega, ?_⟩, by omega⟩
      rw [Int.toNat_of_nonneg this.1]; exact hs
theorem trgL_unique {u : Unt} {f i : Int} {L : List Int} (h1 : L.Pairwise (· < ·)) (h2 : ∀ x, x ∈ L ↔ trgS u f i x) : L = trgL u f i :=
  set_unique h1 h2 (trgL_spec u f i).1 (trgL_spec u f i).2
theorem trgL_len (u : Unt) (f i : Int) : (trgL u f i).length ≤ u.fs.length := asc_len (trgL_spec u f i).1 (fun x hx => trgS_lt (((trgL_spec u f i).2 x).1 hx))
theorem callS_same {h : List Cls} {fs : List Fnc} {c d : Ins} (h1 : c.op = d.op) (h2 : c.cls = d.cls) (h3 : c.name = d.name) (g : Int) : callS h fs c g ↔ callS h fs d g := by
  unfold callS; rw [h1, h2, h3]
theorem trgL_same {u : Unt} {f i f' i' : Nat} (hf : f < u.fs.length) (hi : i < u.fs[f].code.length) (hf' : f' < u.fs.length) (hi' : i' < u.fs[f'].code.length) (h1 : u.fs[f].code[i].op = u.fs[f'].code[i'].op) (h2 : u.fs[f].code[i].cls = u.fs[f'].code[i'].cls) (h3 : u.fs[f].code[i].name = u.fs[f'].code[i'].name) : trgL u f i = trgL u f' i' :=
  trgL_unique (trgL_spec u f i).1 fun x => by rw [(trgL_spec u f i).2 x, trgS_at hf hi, trgS_at hf' hi', callS_same h1 h2 h3]
noncomputable def edgI (u : Unt) (f i : Nat) : List Cal := (trgL u f i).map (fun g => ⟨(f : Int), (i : Int), g⟩)
noncomputable def edgF (u : Unt) (f n : Nat) : List Cal := (List.range n).flatMap (fun i => edgI u f i)
noncomputable def edgU (u : Unt) (m : Nat) : List Cal := (List.range m).flatMap (fun f => edgF u f (u.fs[f]?.elim 0 (fun x => x.code.length)))
theorem edgF_succ (u : Unt) (f n : Nat) : edgF u f (n + 1) = edgF u f n ++ edgI u f n := by
  unfold edgF; rw [List.range_succ, List.flatMap_append]; simp
theorem edgU_succ {u : Unt} {m : Nat} (hm : m < u.fs.length) : edgU u (m + 1) = edgU u m ++ edgF u m u.fs[m].code.length := by
  unfold edgU; rw [List.range_succ, List.flatMap_append]; simp [hm]
theorem edgI_len (u : Unt) (f i : Nat) : (edgI u f i).length ≤ u.fs.length := by unfold edgI; rw [List.length_map]; exact trgL_len ..
theorem edgF_len (u : Unt) (f n : Nat) : (edgF u f n).length ≤ n * u.fs.length := by
  induction n with
  | zero => simp [edgF]
  | succ n ih =>
    rw [edgF_succ, List.length_append, Nat.add_mul]
    have := edgI_len u f n
    omega
theorem edgU_len {u : Unt} {m : Nat} (hm : m ≤ u.fs.length) : (edgU u m).length ≤ sumC (u.fs.take m) * u.fs.length := by
  induction m with
  | zero => simp [edgU]
  | succ m ih =>
    have h1 := ih (by omega)
    have h2 := edgF_len u m u.fs[m].code.length
    rw [edgU_succ (by omega), List.length_append, sumC_snoc (by omega), Nat.add_mul]
    omega
end Go.Proofs.YtkbmnfijeknenaaGreatDoor
