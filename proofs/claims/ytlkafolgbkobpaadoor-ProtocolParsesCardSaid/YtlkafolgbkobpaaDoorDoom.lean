/-
  Plain: the states from which calls can lead to Error, by passes over the moves.
-/
import Derived.Test.YtlkafolgbkobpaaDoorA13
namespace Go.Proofs.YtlkafolgbkobpaaDoor
open Go.RowKit Go.Sort

def pass1 (d : List Bool) (m : Mv) : List Bool := if d.getD m.to.toNat false then d.set m.frm.toNat true else d
def passL (d : List Bool) (ms : List Mv) : List Bool := ms.foldl pass1 d
def passN (ms : List Mv) : Nat → List Bool → List Bool
  | 0, d => d
  | n + 1, d => passN ms n (passL d ms)
def cntF (d : List Bool) : Nat := d.countP (! ·)
theorem pass1_len (d : List Bool) (m : Mv) : (pass1 d m).length = d.length := by unfold pass1; split <;> simp
theorem passL_len (ms : List Mv) : ∀ d : List Bool, (passL d ms).length = d.length := by
  induction ms with
  | nil => intro d; rfl
  | cons m l ih => intro d; show (passL (pass1 d m) l).length = _; rw [ih, pass1_len]
theorem passN_len (ms : List Mv) : ∀ n (d : List Bool), (passN ms n d).length = d.length
  | 0, _ => rfl
  | n + 1, d => by simp only [passN]; rw [passN_len ms n, passL_len]
theorem set_true_self {d : List Bool} {i : Nat} (h : d.getD i false = true) : d.set i true = d := by
  by_cases hi : i < d.length
  · have : d[i] = true := by simpa [hi] using h
    rw [← this]; simp
  · simp [List.set_eq_of_length_le (by omega : d.length ≤ i)]
theorem cntF_set {d : List Bool} {i : Nat} (hi : i < d.length) (h : d[i] = false) : cntF (d.set i true) < cntF d := by
  unfold cntF
  induction d generalizing i with
  | nil => simp at hi
  | cons b l ih =>
    cases i with
    | zero => simp at h; subst h; simp
    | succ i =>
      simp only [List.set_cons_succ, List.countP_cons]
      have := ih (i := i) (by simpa using hi) (by simpa using h)
      omega
theorem cntF_set_le (d : List Bool) (i : Nat) : cntF (d.set i true) ≤ cntF d := by
  by_cases hi : i < d.length
  · cases h : d[i] with
    | false => exact Nat.le_of_lt (cntF_set hi h)
    | true => rw [set_true_self (by simp [hi, h])]; exact Nat.le_refl _
  · rw [List.set_eq_of_length_le (by omega)]; exact Nat.le_refl _
/-- a pass changes nothing, or there are fewer false ones -/
theorem pass1_cnt (d : List Bool) (m : Mv) : pass1 d m = d ∨ cntF (pass1 d m) < cntF d := by
  unfold pass1
  split
  · by_cases hi : m.frm.toNat < d.length
    · cases h : d[m.frm.toNat] with
      | false => exact .inr (cntF_set hi h)
      | true => exact .inl (set_true_self (by simp [hi, h]))
    · exact .inl (List.set_eq_of_length_le (by omega))
  · exact .inl rfl
theorem pass1_le (d : List Bool) (m : Mv) : cntF (pass1 d m) ≤ cntF d := by
  rcases pass1_cnt d m with h | h
  · rw [h]; exact Nat.le_refl _
  · omega
theorem passL_cnt (ms : List Mv) : ∀ d : List Bool, passL d ms = d ∨ cntF (passL d ms) < cntF d := by
  induction ms with
  | nil => intro d; exact .inl rfl
  | cons m l ih =>
    intro d
    show passL (pass1 d m) l = d ∨ cntF (passL (pass1 d m) l) < cntF d
    rcases ih (pass1 d m) with h | h
    · rw [h]; exact pass1_cnt d m
    · have := pass1_le d m; omega
theorem passN_succ (ms : List Mv) : ∀ n (d : List Bool), passN ms (n + 1) d = passL (passN ms n d) ms
  | 0, _ => rfl
  | n + 1, d => by
    show passN ms (n + 1) (passL d ms) = _
    rw [passN_succ ms n]; rfl
theorem passN_fix (ms : List Mv) {d : List Bool} (h : passL d ms = d) : ∀ n, passN ms n d = d
  | 0 => rfl
  | n + 1 => by show passN ms n (passL d ms) = d; rw [h]; exact passN_fix ms h n
theorem passN_add (ms : List Mv) : ∀ a b (d : List Bool), passN ms (a + b) d = passN ms b (passN ms a d)
  | 0, b, d => by simp [passN]
  | a + 1, b, d => by
    rw [show a + 1 + b = (a + b) + 1 by omega]
    show passN ms (a + b) (passL d ms) = passN ms b (passN ms a (passL d ms))
    exact passN_add ms a b _
/-- so many passes are enough -/
theorem passN_done (ms : List Mv) : ∀ c (d : List Bool), cntF d ≤ c → passL (passN ms c d) ms = passN ms c d
  | 0, d, h => by
    rcases passL_cnt ms d with e | e
    · exact e
    · omega
  | c + 1, d, h => by
    rcases passL_cnt ms d with e | e
    · rw [passN_fix ms e]; exact e
    · exact passN_done ms c (passL d ms) (by omega)
theorem cntF_le (d : List Bool) : cntF d ≤ d.length := List.countP_le_length
def doom0 (p : Pr) : List Bool := (List.replicate p.sts.length false).set p.err.toNat true
def doomL (p : Pr) : List Bool := passN p.mvs p.sts.length (doom0 p)
theorem doom0_len (p : Pr) : (doom0 p).length = p.sts.length := by simp [doom0]
theorem doomL_len (p : Pr) : (doomL p).length = p.sts.length := by rw [doomL, passN_len, doom0_len]
theorem doomL_fix (p : Pr) : passL (doomL p) p.mvs = doomL p := passN_done _ _ _ (by rw [← doom0_len p]; exact cntF_le _)
/-- a stage that a pass does not change is the last one -/
theorem doomL_of (p : Pr) {k : Nat} (h : passL (passN p.mvs k (doom0 p)) p.mvs = passN p.mvs k (doom0 p)) : passN p.mvs k (doom0 p) = doomL p := by
  unfold doomL
  by_cases hk : k ≤ p.sts.length
  · obtain ⟨j, hj⟩ : ∃ j, k + j = p.sts.length := ⟨p.sts.length - k, by omega⟩
    rw [← hj, passN_add, passN_fix _ h]
  · obtain ⟨j, hj⟩ : ∃ j, p.sts.length + j = k := ⟨k - p.sts.length, by omega⟩
    rw [← hj, passN_add]
    exact passN_fix _ (doomL_fix p) j
/-- the indices of true -/
def truesTo (d : List Bool) (k : Nat) : List Int := ((List.range k).filter fun i => d.getD i false).map (fun i : Nat => (i : Int))
theorem truesTo_succ (d : List Bool) (k : Nat) : truesTo d (k + 1) = truesTo d k ++ if d.getD k false then [(k : Int)] else [] := by
  unfold truesTo
  rw [List.range_succ, List.filter_append, List.map_append]
  congr 1
  cases h : d.getD k false
  · rw [List.filter_cons_of_neg (by simp only [h]; decide)]; rfl
  · rw [List.filter_cons_of_pos (p := fun i => d.getD i false) h]; rfl
def doomedP (p : Pr) : List Int := if checkP p = 0 then truesTo (doomL p) p.sts.length else []
theorem passL_take {ms : List Mv} {k : Nat} (h : k < ms.length) (d : List Bool) : passL d (ms.take (k + 1)) = pass1 (passL d (ms.take k)) ms[k] := by
  unfold passL; rw [List.take_succ_eq_append_getElem h, List.foldl_append]; rfl
end Go.Proofs.YtlkafolgbkobpaaDoor
