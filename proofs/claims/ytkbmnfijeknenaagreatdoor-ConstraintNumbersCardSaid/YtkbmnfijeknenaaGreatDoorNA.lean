/-
  The numbers of variables, results and thrown exceptions: program and reference.
  The number of a function's first variable, as the program counts it.
  Var, Result and Thrown of the program and of the reference: the same numbers.
-/
import Derived.Test.YtkbmnfijeknenaaGreatDoorWF
import Derived.Test.YtkbmnfijeknenaaGreatDoorUA
import Derived.IntWalk
namespace Go.Proofs.YtkbmnfijeknenaaGreatDoor
open Go.RowKit Go.Unit0

/-- the number of the first variable of a function -/
def baseP (l : List Fnc) (k : Nat) : Nat := ((l.take k).map (fun f => f.vars.length + 2)).sum
theorem baseP_snoc {l : List Fnc} {k : Nat} (hk : k < l.length) : baseP l (k + 1) = baseP l k + (l[k].vars.length + 2) := by
  have e : l.take (k + 1) = l.take k ++ [l[k]] := List.take_succ_eq_append_getElem hk
  unfold baseP
  rw [e, List.map_append, List.sum_append]; simp
theorem baseP_le {l : List Fnc} (h : ∀ f ∈ l, f.vars.length ≤ 1000) : ∀ {k : Nat}, k ≤ l.length → baseP l k ≤ k * 1002
  | 0, _ => by simp [baseP]
  | k + 1, hk => by
    have ih := baseP_le h (k := k) (by omega)
    rw [baseP_snoc (by omega)]
    have := h _ (List.getElem_mem (show k < l.length by omega))
    omega
set_option maxRecDepth 100000 in
set_option maxHeartbeats 4000000 in
theorem base73 (u : Unt) (ha : Option Addr) (hc : Nat) (fa : Option Addr) (fc : Nat) (k : Nat) (w : World) (h : ClssAt w ha u.h) (f : FncsAt w fa u.fs) (hk : k ≤ u.fs.length) (hl : u.fs.length ≤ 1000) (hv : ∀ f ∈ u.fs, f.vars.length ≤ 1000) :
    Calls Tryz.prog 73 #[unV u ha hc fa fc, .int .i64 k] w (Ret w (.int .i64 (baseP u.fs k))) := by
  have S0 := Lib.hid (UB.start (hc := hc) (fc := fc) h f)
  have HS : Hid (∀ q (hq : q < u.fs.length), baseP u.fs (q + 1) = baseP u.fs q + (u.fs[q].vars.length + 2)) := fun q hq => baseP_snoc hq
  have HV := Lib.hid hv
  clear h f hv
  unfold unV
  go_enter Tryz.func73, Tryz.ntmps73
  go_wp2
  generalize w.alloc _ = W at *
  obtain ⟨z0, z1, z2⟩ := S0.out.cells
  go_loop [5, 6] (fun s i => ∃ q p : Nat, q ≤ k ∧ p ≤ q * 1002 ∧ s = .int .i64 p ∧ i = .int .i64 q ∧ Hid (p = baseP u.fs q)) (fun _ i => k - (intOf i).toNat)
  case atStart => exact ⟨0, 0, Nat.zero_le _, Nat.zero_le _, rfl, rfl, rfl⟩
  case round =>
    obtain ⟨q, p, hq, hp, rfl, rfl, HI⟩ := hrel
    by_cases hlt : q < k
    case neg =>
      obtain rfl : q = k := by omega
      go_wp2
      go_ret
      exact ⟨ret_int (by rw [HI.out]), S0.out.hb⟩
    have hql : q < u.fs.length := by omega
    obtain ⟨b, off, va, vc, ca, cc, he, -, -, -, -, m4, -, -, -, -⟩ := S0.out.f q hql
    subst he
    have HSQ := Lib.hid (HS.out q hql)
    have hvl := HV.out _ (List.getElem_mem hql)
    generalize u.fs[q].vars.length = vl at *
    go_wp2
    go_round
    case rel => exact ⟨q + 1, p + vl + 2, by omega, by omega, by go_num, by go_num, (by show _ = _; rw [HSQ.out, HI.out, Nat.add_assoc])⟩
    case measure => simp [intOf]; omega
end Go.Proofs.YtkbmnfijeknenaaGreatDoor
namespace Go.Proofs.YtkbmnfijeknenaaGreatDoor
open Go.RowKit Go.Unit0

set_option maxRecDepth 100000 in
set_option maxHeartbeats 4000000 in
theorem first72 (u : Unt) (ha : Option Addr) (hc : Nat) (fa : Option Addr) (fc : Nat) (k : Nat) (w : World) (h : ClssAt w ha u.h) (f : FncsAt w fa u.fs) (hk : k ≤ u.fs.length) (hl : u.fs.length ≤ 1000) (hcap : u.fs.length ≤ fc) (hv : ∀ f ∈ u.fs, f.vars.length ≤ 1000) :
    Calls Tryz.prog 72 #[unV u ha hc fa fc, .int .i64 k] w (Ret w (.int .i64 (baseP u.fs k))) := by
  have S0 := Lib.hid (UB.start (hc := hc) (fc := fc) h f)
  have HS : Hid (∀ q (hq : q < u.fs.length), baseP u.fs (q + 1) = baseP u.fs q + (u.fs[q].vars.length + 2)) := fun q hq => baseP_snoc hq
  have HV := Lib.hid hv
  clear h f hv
  unfold unV
  go_enter Tryz.func72, Tryz.ntmps72
  go_upto_region 2 with (fail)
  generalize w.alloc _ = W at *
  obtain ⟨z0, z1, z2⟩ := S0.out.cells
  have hkc : k ≤ fc := by omega
  go_wp2
  clear z0 z1 z2
  go_loopw [5, 13] (fun s i wr => ∃ q p : Nat, q ≤ k ∧ p ≤ q * 1002 ∧ s = .int .i64 p ∧ i = .int .i64 q ∧ Hid (p = baseP u.fs q) ∧ Hid (UB u ha hc fa fc w wr)) (fun _ i _ => k - (intOf i).toNat)
  case atStart => exact ⟨0, 0, Nat.zero_le _, Nat.zero_le _, rfl, rfl, rfl, S0.out⟩
  case round =>
    clear S0
    obtain ⟨q, p, hq, hp, rfl, rfl, HI, S⟩ := hrel
    by_cases hlt : q < k
    case neg =>
      obtain rfl : q = k := by omega
      go_wp2
      go_ret
      exact ⟨ret_int (by rw [HI.out]), S.out.hb⟩
    have hql : q < u.fs.length := by omega
    obtain ⟨b, off, va, vc, ca, cc, he, m0, m1, m2, m3, m4, m5, m6, -, -⟩ := S.out.f q hql
    subst he
    have HSQ := Lib.hid (HS.out q hql)
    have hvl := HV.out _ (List.getElem_mem hql)
    generalize u.fs[q] = f at *
    have BZ : Hid (Blk (wr.alloc zFnC) wr.heap.size _ 55) := blk_new ..
    have hsz : wr.heap.size ≤ wr.heap.size := Nat.le_refl _
    go_upto_region 5 with (refine storeFunc rfl rfl _ _ rfl wr.heap.size f va vc ca cc rfl rfl _ BZ.out rfl ?_)
    have HB2 := Lib.hid (below_row (one_below wr zFnC) hsz #[.string f.cls, .string f.name, .bool f.stat, .int .i64 f.params, .slice va f.vars.length vc, .string f.result, .slice ca f.code.length cc])
    have B2 := Lib.hid (BZ.out.setRow #[.string f.cls, .string f.name, .bool f.stat, .int .i64 f.params, .slice va f.vars.length vc, .string f.result, .slice ca f.code.length cc])
    have S2 := Lib.hid (S.out.below HB2.out)
    clear S BZ HB2 m0 m1 m2 m3 m4 m5 m6 hsz
    generalize (wr.alloc zFnC).setRow wr.heap.size _ = W2 at *
    generalize wr.heap.size = n2 at *
    have y4 := B2.out.cell 4 (by simp)
    simp only [List.getElem_toArray, List.getElem_cons_zero, List.getElem_cons_succ] at y4
    generalize f.vars.length = vl at *
    go_wp2
    go_roundw
    case rel => exact ⟨q + 1, p + (vl + 2), by omega, by omega, by go_num, by go_num, (by show _ = _; rw [HSQ.out, HI.out]), S2.out⟩
    case measure => simp [intOf]; omega
end Go.Proofs.YtkbmnfijeknenaaGreatDoor
namespace Go.Proofs.YtkbmnfijeknenaaGreatDoor
open Go.RowKit Go.Unit0

def nvars (l : List Fnc) (k : Nat) : Nat := if h : k < l.length then l[k].vars.length else 0
def varP (u : Unt) (f v : Int) : Int := if f < 0 then -1 else if (u.fs.length : Int) ≤ f then -1 else if v < 0 then -1 else if (nvars u.fs f.toNat : Int) ≤ v then -1 else baseP u.fs f.toNat + v
def resP (u : Unt) (f : Int) : Int := if f < 0 then -1 else if (u.fs.length : Int) ≤ f then -1 else baseP u.fs f.toNat + nvars u.fs f.toNat
def thrP (u : Unt) (f : Int) : Int := if f < 0 then -1 else if (u.fs.length : Int) ≤ f then -1 else baseP u.fs f.toNat + nvars u.fs f.toNat + 1
theorem FncsAt.nv {w : World} {fa : Option Addr} {l : List Fnc} (f : FncsAt w fa l) {k : Nat} (hk : k < l.length) : ∃ b off va vc, fa = some ⟨b, off, none⟩ ∧ w.cell? ⟨b, off + k * 7 + 4, none⟩ = some (.slice va (nvars l k) vc) := by
  obtain ⟨b, off, va, vc, ca, cc, he, -, -, -, -, m4, -⟩ := f k hk
  exact ⟨b, off, va, vc, he, by unfold nvars; rw [dif_pos hk]; exact m4⟩
theorem nvars_le {l : List Fnc} {m : Nat} (h : ∀ f ∈ l, f.vars.length ≤ m) (k : Nat) : nvars l k ≤ m := by
  unfold nvars
  split
  · exact h _ (List.getElem_mem ‹_›)
  · omega
set_option maxRecDepth 100000 in
set_option maxHeartbeats 4000000 in
theorem varPconstraint (u : Unt) (ha : Option Addr) (hc : Nat) (fa : Option Addr) (fc : Nat) (f v : Int) (w : World) (h : ClssAt w ha u.h) (hf : FncsAt w fa u.fs) (hl : u.fs.length ≤ 1000) (hcap : u.fs.length ≤ fc) (hv : ∀ f ∈ u.fs, f.vars.length ≤ 1000) :
    Calls Tryz.prog 32 #[unV u ha hc fa fc, .int .i64 f, .int .i64 v] w (Ret w (.int .i64 (varP u f v))) := by
  have S0 := Lib.hid (UB.start (hc := hc) (fc := fc) h hf)
  have HBA : Hid (∀ k, k ≤ u.fs.length → ∀ w1, ClssAt w1 ha u.h → FncsAt w1 fa u.fs → Calls Tryz.prog 72 #[unV u ha hc fa fc, .int .i64 k] w1 (Ret w1 (.int .i64 (baseP u.fs k)))) := fun k hk w1 h1 h2 => first72 u ha hc fa fc k w1 h1 h2 hk hl hcap hv
  have HBL : Hid (∀ k, k ≤ u.fs.length → baseP u.fs k ≤ k * 1002) := fun k hk => baseP_le hv hk
  have HNV : Hid (∀ k, nvars u.fs k ≤ 1000) := fun k => nvars_le hv k
  obtain ⟨R, hR⟩ : ∃ R, R = varP u f v := ⟨_, rfl⟩
  rw [← hR]
  have HE := Lib.hid hR
  clear hR
  unfold varP at HE
  clear h hf hv
  unfold unV at *
  go_enter Tryz.func32, Tryz.ntmps32
  go_upto_region 1 with (fail)
  generalize w.alloc _ = W at *
  obtain ⟨z0, z1, z2⟩ := S0.out.cells
  by_cases h1 : f < 0
  · have HF : Hid (R = -1) := by have := HE.out; rw [if_pos h1] at this; exact this
    have t1 : decide (f < 0) = true := by simp; omega
    clear h1
    go_wp2
    go_ret
    exact ⟨ret_int HF.out.symm, S0.out.hb⟩
  have t1 : decide (f < 0) = false := by simp; omega
  rw [if_neg h1] at HE
  by_cases h2 : (u.fs.length : Int) ≤ f
  · have HF : Hid (R = -1) := by have := HE.out; rw [if_pos h2] at this; exact this
    have t2 : decide ((u.fs.length : Int) ≤ f) = true := by simp; omega
    clear h1 h2
    go_wp2
    go_ret
    exact ⟨ret_int HF.out.symm, S0.out.hb⟩
  have t2 : decide ((u.fs.length : Int) ≤ f) = false := by simp; omega
  rw [if_neg h2] at HE
  obtain ⟨k, rfl⟩ : ∃ k : Nat, f = k := ⟨f.toNat, by omega⟩
  have hkl : k < u.fs.length := by omega
  rw [Int.toNat_natCast] at HE
  clear h1 h2 t1 t2
  obtain ⟨b, off, va, vc, he, m4⟩ := S0.out.f.nv hkl
  subst he
  have hnv := HNV.out k
  have hbl := HBL.out k (by omega)
  have HB := Lib.hid (HBA.out k (by omega))
  clear HNV HBL HBA
  generalize nvars u.fs k = nv at *
  generalize baseP u.fs k = bs at *
  by_cases h3 : v < 0
  · have HF : Hid (R = -1) := by have := HE.out; rw [if_pos h3] at this; exact this
    have t3 : decide (v < 0) = true := by simp; omega
    clear h3
    go_wp2
    go_ret
    exact ⟨ret_int HF.out.symm, S0.out.hb⟩
  have t3 : decide (v < 0) = false := by simp; omega
  rw [if_neg h3] at HE
  by_cases h4 : (nv : Int) ≤ v
  · have HF : Hid (R = -1) := by have := HE.out; rw [if_pos h4] at this; exact this
    have t4 : decide ((nv : Int) ≤ v) = true := by simp; omega
    clear h3 h4
    go_wp2
    go_ret
    exact ⟨ret_int HF.out.symm, S0.out.hb⟩
  have t4 : decide ((nv : Int) ≤ v) = false := by simp; omega
  rw [if_neg h4] at HE
  have hv1 : 0 ≤ v := by omega
  have hv2 : v < nv := by omega
  clear h3 h4
  go_wp2_with fail
  refine (HB.out _ S0.out.h S0.out.f).mono ?_
  rintro e w' ⟨rfl, hb'⟩
  have S1 := Lib.hid (S0.out.below hb')
  clear S0 hb' z0 z1 z2 m4 t3 t4
  go_wp2
  go_ret
  exact ⟨ret_int HE.out.symm, S1.out.hb⟩
set_option maxRecDepth 100000 in
set_option maxHeartbeats 4000000 in
theorem resPconstraint (u : Unt) (ha : Option Addr) (hc : Nat) (fa : Option Addr) (fc : Nat) (f : Int) (w : World) (h : ClssAt w ha u.h) (hf : FncsAt w fa u.fs) (hl : u.fs.length ≤ 1000) (hcap : u.fs.length ≤ fc) (hv : ∀ f ∈ u.fs, f.vars.length ≤ 1000) :
    Calls Tryz.prog 34 #[unV u ha hc fa fc, .int .i64 f] w (Ret w (.int .i64 (resP u f))) := by
  have S0 := Lib.hid (UB.start (hc := hc) (fc := fc) h hf)
  have HBA : Hid (∀ k, k ≤ u.fs.length → ∀ w1, ClssAt w1 ha u.h → FncsAt w1 fa u.fs → Calls Tryz.prog 72 #[unV u ha hc fa fc, .int .i64 k] w1 (Ret w1 (.int .i64 (baseP u.fs k)))) := fun k hk w1 h1 h2 => first72 u ha hc fa fc k w1 h1 h2 hk hl hcap hv
  have HBL : Hid (∀ k, k ≤ u.fs.length → baseP u.fs k ≤ k * 1002) := fun k hk => baseP_le hv hk
  have HNV : Hid (∀ k, nvars u.fs k ≤ 1000) := fun k => nvars_le hv k
  obtain ⟨R, hR⟩ : ∃ R, R = resP u f := ⟨_, rfl⟩
  rw [← hR]
  have HE := Lib.hid hR
  clear hR
  unfold resP at HE
  clear h hf hv
  unfold unV at *
  go_enter Tryz.func34, Tryz.ntmps34
  go_upto_region 1 with (fail)
  generalize w.alloc _ = W at *
  obtain ⟨z0, z1, z2⟩ := S0.out.cells
  by_cases h1 : f < 0
  · have HF : Hid (R = -1) := by have := HE.out; rw [if_pos h1] at this; exact this
    have t1 : decide (f < 0) = true := by simp; omega
    clear h1
    go_wp2
    go_ret
    exact ⟨ret_int HF.out.symm, S0.out.hb⟩
  have t1 : decide (f < 0) = false := by simp; omega
  rw [if_neg h1] at HE
  by_cases h2 : (u.fs.length : Int) ≤ f
  · have HF : Hid (R = -1) := by have := HE.out; rw [if_pos h2] at this; exact this
    have t2 : decide ((u.fs.length : Int) ≤ f) = true := by simp; omega
    clear h1 h2
    go_wp2
    go_ret
    exact ⟨ret_int HF.out.symm, S0.out.hb⟩
  have t2 : decide ((u.fs.length : Int) ≤ f) = false := by simp; omega
  rw [if_neg h2] at HE
  obtain ⟨k, rfl⟩ : ∃ k : Nat, f = k := ⟨f.toNat, by omega⟩
  have hkl : k < u.fs.length := by omega
  rw [Int.toNat_natCast] at HE
  clear h1 h2 t1 t2
  obtain ⟨b, off, va, vc, he, m4⟩ := S0.out.f.nv hkl
  subst he
  have hnv := HNV.out k
  have hbl := HBL.out k (by omega)
  have HB := Lib.hid (HBA.out k (by omega))
  clear HNV HBL HBA
  generalize nvars u.fs k = nv at *
  generalize baseP u.fs k = bs at *
  go_upto_region 3 with (fail)
  have HBB : Hid (∀ o : WB W, Calls Tryz.prog 72 #[.agg #[.slice ha u.h.length hc, .slice (some ⟨b, off, none⟩) u.fs.length fc, .int .i64 u.main], .int .i64 k] o.u (Ret o.u (.int .i64 bs))) := fun o => HB.out _ (S0.out.h.below o.h) (S0.out.f.below o.h)
  have hne : Nonempty (WB W) := ⟨⟨W, Below.refl _ _⟩⟩
  have k0 : ∀ o : WB W, o.u.cell? ⟨w.heap.size, 0, none⟩ = some (.slice ha u.h.length hc) := fun o => cell_below o.h z0
  have k1 : ∀ o : WB W, o.u.cell? ⟨w.heap.size, 1, none⟩ = some (.slice (some ⟨b, off, none⟩) u.fs.length fc) := fun o => cell_below o.h z1
  have k2 : ∀ o : WB W, o.u.cell? ⟨w.heap.size, 2, none⟩ = some (.int .i64 u.main) := fun o => cell_below o.h z2
  have k4 : ∀ o : WB W, o.u.cell? ⟨b, off + k * 7 + 4, none⟩ = some (.slice va nv vc) := fun o => cell_below o.h m4
  have q1 : IntKind.i64.wrap ((bs : Int) + nv) = bs + nv := IntWalk.i64_in _ (by omega)
  clear z0 z1 z2 m4 HB hnv hbl
  refine wp_region_WB W (by kernel_rfl) ?_
  repeat (go_big_quiet_step ((rename_i o; exact (HBB.out o).mono (fun _ _ h => Ret.inB h))))
  refine wpQuiet_nil ?_
  intro _ hw'
  obtain ⟨o, rfl⟩ := hw'
  have S1 := Lib.hid (S0.out.below o.h)
  clear k0 k1 k2 k4 q1
  go_wp2
  go_ret
  exact ⟨ret_int (by rw [HE.out]), S1.out.hb⟩
set_option maxRecDepth 100000 in
set_option maxHeartbeats 4000000 in
theorem thrPconstraint (u : Unt) (ha : Option Addr) (hc : Nat) (fa : Option Addr) (fc : Nat) (f : Int) (w : World) (h : ClssAt w ha u.h) (hf : FncsAt w fa u.fs) (hl : u.fs.length ≤ 1000) (hcap : u.fs.length ≤ fc) (hv : ∀ f ∈ u.fs, f.vars.length ≤ 1000) :
    Calls Tryz.prog 36 #[unV u ha hc fa fc, .int .i64 f] w (Ret w (.int .i64 (thrP u f))) := by
  have S0 := Lib.hid (UB.start (hc := hc) (fc := fc) h hf)
  have HBA : Hid (∀ k, k ≤ u.fs.length → ∀ w1, ClssAt w1 ha u.h → FncsAt w1 fa u.fs → Calls Tryz.prog 72 #[unV u ha hc fa fc, .int .i64 k] w1 (Ret w1 (.int .i64 (baseP u.fs k)))) := fun k hk w1 h1 h2 => first72 u ha hc fa fc k w1 h1 h2 hk hl hcap hv
  have HBL : Hid (∀ k, k ≤ u.fs.length → baseP u.fs k ≤ k * 1002) := fun k hk => baseP_le hv hk
  have HNV : Hid (∀ k, nvars u.fs k ≤ 1000) := fun k => nvars_le hv k
  obtain ⟨R, hR⟩ : ∃ R, R = thrP u f := ⟨_, rfl⟩
  rw [← hR]
  have HE := Lib.hid hR
  clear hR
  unfold thrP at HE
  clear h hf hv
  unfold unV at *
  go_enter Tryz.func36, Tryz.ntmps36
  go_upto_region 1 with (fail)
  generalize w.alloc _ = W at *
  obtain ⟨z0, z1, z2⟩ := S0.out.cells
  by_cases h1 : f < 0
  · have HF : Hid (R = -1) := by have := HE.out; rw [if_pos h1] at this; exact this
    have t1 : decide (f < 0) = true := by simp; omega
    clear h1
    go_wp2
    go_ret
    exact ⟨ret_int HF.out.symm, S0.out.hb⟩
  have t1 : decide (f < 0) = false := by simp; omega
  rw [if_neg h1] at HE
  by_cases h2 : (u.fs.length : Int) ≤ f
  · have HF : Hid (R = -1) := by have := HE.out; rw [if_pos h2] at this; exact this
    have t2 : decide ((u.fs.length : Int) ≤ f) = true := by simp; omega
    clear h1 h2
    go_wp2
    go_ret
    exact ⟨ret_int HF.out.symm, S0.out.hb⟩
  have t2 : decide ((u.fs.length : Int) ≤ f) = false := by simp; omega
  rw [if_neg h2] at HE
  obtain ⟨k, rfl⟩ : ∃ k : Nat, f = k := ⟨f.toNat, by omega⟩
  have hkl : k < u.fs.length := by omega
  rw [Int.toNat_natCast] at HE
  clear h1 h2 t1 t2
  obtain ⟨b, off, va, vc, he, m4⟩ := S0.out.f.nv hkl
  subst he
  have hnv := HNV.out k
  have hbl := HBL.out k (by omega)
  have HB := Lib.hid (HBA.out k (by omega))
  clear HNV HBL HBA
  generalize nvars u.fs k = nv at *
  generalize baseP u.fs k = bs at *
  go_upto_region 3 with (fail)
  have HBB : Hid (∀ o : WB W, Calls Tryz.prog 72 #[.agg #[.slice ha u.h.length hc, .slice (some ⟨b, off, none⟩) u.fs.length fc, .int .i64 u.main], .int .i64 k] o.u (Ret o.u (.int .i64 bs))) := fun o => HB.out _ (S0.out.h.below o.h) (S0.out.f.below o.h)
  have hne : Nonempty (WB W) := ⟨⟨W, Below.refl _ _⟩⟩
  have k0 : ∀ o : WB W, o.u.cell? ⟨w.heap.size, 0, none⟩ = some (.slice ha u.h.length hc) := fun o => cell_below o.h z0
  have k1 : ∀ o : WB W, o.u.cell? ⟨w.heap.size, 1, none⟩ = some (.slice (some ⟨b, off, none⟩) u.fs.length fc) := fun o => cell_below o.h z1
  have k2 : ∀ o : WB W, o.u.cell? ⟨w.heap.size, 2, none⟩ = some (.int .i64 u.main) := fun o => cell_below o.h z2
  have k4 : ∀ o : WB W, o.u.cell? ⟨b, off + k * 7 + 4, none⟩ = some (.slice va nv vc) := fun o => cell_below o.h m4
  have q1 : IntKind.i64.wrap ((bs : Int) + nv) = bs + nv := IntWalk.i64_in _ (by omega)
  have q2 : IntKind.i64.wrap ((bs : Int) + nv + 1) = bs + nv + 1 := IntWalk.i64_in _ (by omega)
  clear z0 z1 z2 m4 HB hnv hbl
  refine wp_region_WB W (by kernel_rfl) ?_
  repeat (go_big_quiet_step ((rename_i o; exact (HBB.out o).mono (fun _ _ h => Ret.inB h))))
  refine wpQuiet_nil ?_
  intro _ hw'
  obtain ⟨o, rfl⟩ := hw'
  have S1 := Lib.hid (S0.out.below o.h)
  clear k0 k1 k2 k4 q1 q2
  go_wp2
  go_ret
  exact ⟨ret_int (by rw [HE.out]), S1.out.hb⟩
set_option maxRecDepth 100000 in
set_option maxHeartbeats 4000000 in
theorem varPr17 (u : Unt) (ha : Option Addr) (hc : Nat) (fa : Option Addr) (fc : Nat) (f v : Int) (w : World) (h : ClssAt w ha u.h) (hf : FncsAt w fa u.fs) (hl : u.fs.length ≤ 1000) (hv : ∀ f ∈ u.fs, f.vars.length ≤ 1000) :
    Calls Tryz.prog 33 #[unV u ha hc fa fc, .int .i64 f, .int .i64 v] w (Ret w (.int .i64 (varP u f v))) := by
  have S0 := Lib.hid (UB.start (hc := hc) (fc := fc) h hf)
  have HBA : Hid (∀ k, k ≤ u.fs.length → ∀ w1, ClssAt w1 ha u.h → FncsAt w1 fa u.fs → Calls Tryz.prog 73 #[unV u ha hc fa fc, .int .i64 k] w1 (Ret w1 (.int .i64 (baseP u.fs k)))) := fun k hk w1 h1 h2 => base73 u ha hc fa fc k w1 h1 h2 hk hl hv
  have HBL : Hid (∀ k, k ≤ u.fs.length → baseP u.fs k ≤ k * 1002) := fun k hk => baseP_le hv hk
  have HNV : Hid (∀ k, nvars u.fs k ≤ 1000) := fun k => nvars_le hv k
  obtain ⟨R, hR⟩ : ∃ R, R = varP u f v := ⟨_, rfl⟩
  rw [← hR]
  have HE := Lib.hid hR
  clear hR
  unfold varP at HE
  clear h hf hv
  unfold unV at *
  go_enter Tryz.func33, Tryz.ntmps33
  go_upto_region 1 with (fail)
  generalize w.alloc _ = W at *
  obtain ⟨z0, z1, z2⟩ := S0.out.cells
  by_cases h1 : f < 0
  · have HF : Hid (R = -1) := by have := HE.out; rw [if_pos h1] at this; exact this
    have t1 : decide (f < 0) = true := by simp; omega
    clear h1
    go_wp2
    go_ret
    exact ⟨ret_int HF.out.symm, S0.out.hb⟩
  have t1 : decide (f < 0) = false := by simp; omega
  rw [if_neg h1] at HE
  by_cases h2 : (u.fs.length : Int) ≤ f
  · have HF : Hid (R = -1) := by have := HE.out; rw [if_pos h2] at this; exact this
    have t2 : decide ((u.fs.length : Int) ≤ f) = true := by simp; omega
    clear h1 h2
    go_wp2
    go_ret
    exact ⟨ret_int HF.out.symm, S0.out.hb⟩
  have t2 : decide ((u.fs.length : Int) ≤ f) = false := by simp; omega
  rw [if_neg h2] at HE
  obtain ⟨k, rfl⟩ : ∃ k : Nat, f = k := ⟨f.toNat, by omega⟩
  have hkl : k < u.fs.length := by omega
  rw [Int.toNat_natCast] at HE
  clear h1 h2 t1 t2
  obtain ⟨b, off, va, vc, he, m4⟩ := S0.out.f.nv hkl
  subst he
  have hnv := HNV.out k
  have hbl := HBL.out k (by omega)
  have HB := Lib.hid (HBA.out k (by omega))
  clear HNV HBL HBA
  generalize nvars u.fs k = nv at *
  generalize baseP u.fs k = bs at *
  by_cases h3 : v < 0
  · have HF : Hid (R = -1) := by have := HE.out; rw [if_pos h3] at this; exact this
    have t3 : decide (v < 0) = true := by simp; omega
    clear h3
    go_wp2
    go_ret
    exact ⟨ret_int HF.out.symm, S0.out.hb⟩
  have t3 : decide (v < 0) = false := by simp; omega
  rw [if_neg h3] at HE
  by_cases h4 : (nv : Int) ≤ v
  · have HF : Hid (R = -1) := by have := HE.out; rw [if_pos h4] at this; exact this
    have t4 : decide ((nv : Int) ≤ v) = true := by simp; omega
    clear h3 h4
    go_wp2
    go_ret
    exact ⟨ret_int HF.out.symm, S0.out.hb⟩
  have t4 : decide ((nv : Int) ≤ v) = false := by simp; omega
  rw [if_neg h4] at HE
  have hv1 : 0 ≤ v := by omega
  have hv2 : v < nv := by omega
  clear h3 h4
  go_wp2_with fail
  refine (HB.out _ S0.out.h S0.out.f).mono ?_
  rintro e w' ⟨rfl, hb'⟩
  have S1 := Lib.hid (S0.out.below hb')
  clear S0 hb' z0 z1 z2 m4 t3 t4
  go_wp2
  go_ret
  exact ⟨ret_int HE.out.symm, S1.out.hb⟩
set_option maxRecDepth 100000 in
set_option maxHeartbeats 4000000 in
theorem resPr17 (u : Unt) (ha : Option Addr) (hc : Nat) (fa : Option Addr) (fc : Nat) (f : Int) (w : World) (h : ClssAt w ha u.h) (hf : FncsAt w fa u.fs) (hl : u.fs.length ≤ 1000) (hv : ∀ f ∈ u.fs, f.vars.length ≤ 1000) :
    Calls Tryz.prog 35 #[unV u ha hc fa fc, .int .i64 f] w (Ret w (.int .i64 (resP u f))) := by
  have S0 := Lib.hid (UB.start (hc := hc) (fc := fc) h hf)
  have HBA : Hid (∀ k, k ≤ u.fs.length → ∀ w1, ClssAt w1 ha u.h → FncsAt w1 fa u.fs → Calls Tryz.prog 73 #[unV u ha hc fa fc, .int .i64 k] w1 (Ret w1 (.int .i64 (baseP u.fs k)))) := fun k hk w1 h1 h2 => base73 u ha hc fa fc k w1 h1 h2 hk hl hv
  have HBL : Hid (∀ k, k ≤ u.fs.length → baseP u.fs k ≤ k * 1002) := fun k hk => baseP_le hv hk
  have HNV : Hid (∀ k, nvars u.fs k ≤ 1000) := fun k => nvars_le hv k
  obtain ⟨R, hR⟩ : ∃ R, R = resP u f := ⟨_, rfl⟩
  rw [← hR]
  have HE := Lib.hid hR
  clear hR
  unfold resP at HE
  clear h hf hv
  unfold unV at *
  go_enter Tryz.func35, Tryz.ntmps35
  go_upto_region 1 with (fail)
  generalize w.alloc _ = W at *
  obtain ⟨z0, z1, z2⟩ := S0.out.cells
  by_cases h1 : f < 0
  · have HF : Hid (R = -1) := by have := HE.out; rw [if_pos h1] at this; exact this
    have t1 : decide (f < 0) = true := by simp; omega
    clear h1
    go_wp2
    go_ret
    exact ⟨ret_int HF.out.symm, S0.out.hb⟩
  have t1 : decide (f < 0) = false := by simp; omega
  rw [if_neg h1] at HE
  by_cases h2 : (u.fs.length : Int) ≤ f
  · have HF : Hid (R = -1) := by have := HE.out; rw [if_pos h2] at this; exact this
    have t2 : decide ((u.fs.length : Int) ≤ f) = true := by simp; omega
    clear h1 h2
    go_wp2
    go_ret
    exact ⟨ret_int HF.out.symm, S0.out.hb⟩
  have t2 : decide ((u.fs.length : Int) ≤ f) = false := by simp; omega
  rw [if_neg h2] at HE
  obtain ⟨k, rfl⟩ : ∃ k : Nat, f = k := ⟨f.toNat, by omega⟩
  have hkl : k < u.fs.length := by omega
  rw [Int.toNat_natCast] at HE
  clear h1 h2 t1 t2
  obtain ⟨b, off, va, vc, he, m4⟩ := S0.out.f.nv hkl
  subst he
  have hnv := HNV.out k
  have hbl := HBL.out k (by omega)
  have HB := Lib.hid (HBA.out k (by omega))
  clear HNV HBL HBA
  generalize nvars u.fs k = nv at *
  generalize baseP u.fs k = bs at *
  go_upto_region 3 with (fail)
  have HBB : Hid (∀ o : WB W, Calls Tryz.prog 73 #[.agg #[.slice ha u.h.length hc, .slice (some ⟨b, off, none⟩) u.fs.length fc, .int .i64 u.main], .int .i64 k] o.u (Ret o.u (.int .i64 bs))) := fun o => HB.out _ (S0.out.h.below o.h) (S0.out.f.below o.h)
  have hne : Nonempty (WB W) := ⟨⟨W, Below.refl _ _⟩⟩
  have k0 : ∀ o : WB W, o.u.cell? ⟨w.heap.size, 0, none⟩ = some (.slice ha u.h.length hc) := fun o => cell_below o.h z0
  have k1 : ∀ o : WB W, o.u.cell? ⟨w.heap.size, 1, none⟩ = some (.slice (some ⟨b, off, none⟩) u.fs.length fc) := fun o => cell_below o.h z1
  have k2 : ∀ o : WB W, o.u.cell? ⟨w.heap.size, 2, none⟩ = some (.int .i64 u.main) := fun o => cell_below o.h z2
  have k4 : ∀ o : WB W, o.u.cell? ⟨b, off + k * 7 + 4, none⟩ = some (.slice va nv vc) := fun o => cell_below o.h m4
  have q1 : IntKind.i64.wrap ((bs : Int) + nv) = bs + nv := IntWalk.i64_in _ (by omega)
  clear z0 z1 z2 m4 HB hnv hbl
  refine wp_region_WB W (by kernel_rfl) ?_
  repeat (go_big_quiet_step ((rename_i o; exact (HBB.out o).mono (fun _ _ h => Ret.inB h))))
  refine wpQuiet_nil ?_
  intro _ hw'
  obtain ⟨o, rfl⟩ := hw'
  have S1 := Lib.hid (S0.out.below o.h)
  clear k0 k1 k2 k4 q1
  go_wp2
  go_ret
  exact ⟨ret_int (by rw [HE.out]), S1.out.hb⟩
set_option maxRecDepth 100000 in
set_option maxHeartbeats 4000000 in
theorem thrPr17 (u : Unt) (ha : Option Addr) (hc : Nat) (fa : Option Addr) (fc : Nat) (f : Int) (w : World) (h : ClssAt w ha u.h) (hf : FncsAt w fa u.fs) (hl : u.fs.length ≤ 1000) (hv : ∀ f ∈ u.fs, f.vars.length ≤ 1000) :
    Calls Tryz.prog 37 #[unV u ha hc fa fc, .int .i64 f] w (Ret w (.int .i64 (thrP u f))) := by
  have S0 := Lib.hid (UB.start (hc := hc) (fc := fc) h hf)
  have HBA : Hid (∀ k, k ≤ u.fs.length → ∀ w1, ClssAt w1 ha u.h → FncsAt w1 fa u.fs → Calls Tryz.prog 73 #[unV u ha hc fa fc, .int .i64 k] w1 (Ret w1 (.int .i64 (baseP u.fs k)))) := fun k hk w1 h1 h2 => base73 u ha hc fa fc k w1 h1 h2 hk hl hv
  have HBL : Hid (∀ k, k ≤ u.fs.length → baseP u.fs k ≤ k * 1002) := fun k hk => baseP_le hv hk
  have HNV : Hid (∀ k, nvars u.fs k ≤ 1000) := fun k => nvars_le hv k
  obtain ⟨R, hR⟩ : ∃ R, R = thrP u f := ⟨_, rfl⟩
  rw [← hR]
  have HE := Lib.hid hR
  clear hR
  unfold thrP at HE
  clear h hf hv
  unfold unV at *
  go_enter Tryz.func37, Tryz.ntmps37
  go_upto_region 1 with (fail)
  generalize w.alloc _ = W at *
  obtain ⟨z0, z1, z2⟩ := S0.out.cells
  by_cases h1 : f < 0
  · have HF : Hid (R = -1) := by have := HE.out; rw [if_pos h1] at this; exact this
    have t1 : decide (f < 0) = true := by simp; omega
    clear h1
    go_wp2
    go_ret
    exact ⟨ret_int HF.out.symm, S0.out.hb⟩
  have t1 : decide (f < 0) = false := by simp; omega
  rw [if_neg h1] at HE
  by_cases h2 : (u.fs.length : Int) ≤ f
  · have HF : Hid (R = -1) := by have := HE.out; rw [if_pos h2] at this; exact this
    have t2 : decide ((u.fs.length : Int) ≤ f) = true := by simp; omega
    clear h1 h2
    go_wp2
    go_ret
    exact ⟨ret_int HF.out.symm, S0.out.hb⟩
  have t2 : decide ((u.fs.length : Int) ≤ f) = false := by simp; omega
  rw [if_neg h2] at HE
  obtain ⟨k, rfl⟩ : ∃ k : Nat, f = k := ⟨f.toNat, by omega⟩
  have hkl : k < u.fs.length := by omega
  rw [Int.toNat_natCast] at HE
  clear h1 h2 t1 t2
  obtain ⟨b, off, va, vc, he, m4⟩ := S0.out.f.nv hkl
  subst he
  have hnv := HNV.out k
  have hbl := HBL.out k (by omega)
  have HB := Lib.hid (HBA.out k (by omega))
  clear HNV HBL HBA
  generalize nvars u.fs k = nv at *
  generalize baseP u.fs k = bs at *
  go_upto_region 3 with (fail)
  have HBB : Hid (∀ o : WB W, Calls Tryz.prog 73 #[.agg #[.slice ha u.h.length hc, .slice (some ⟨b, off, none⟩) u.fs.length fc, .int .i64 u.main], .int .i64 k] o.u (Ret o.u (.int .i64 bs))) := fun o => HB.out _ (S0.out.h.below o.h) (S0.out.f.below o.h)
  have hne : Nonempty (WB W) := ⟨⟨W, Below.refl _ _⟩⟩
  have k0 : ∀ o : WB W, o.u.cell? ⟨w.heap.size, 0, none⟩ = some (.slice ha u.h.length hc) := fun o => cell_below o.h z0
  have k1 : ∀ o : WB W, o.u.cell? ⟨w.heap.size, 1, none⟩ = some (.slice (some ⟨b, off, none⟩) u.fs.length fc) := fun o => cell_below o.h z1
  have k2 : ∀ o : WB W, o.u.cell? ⟨w.heap.size, 2, none⟩ = some (.int .i64 u.main) := fun o => cell_below o.h z2
  have k4 : ∀ o : WB W, o.u.cell? ⟨b, off + k * 7 + 4, none⟩ = some (.slice va nv vc) := fun o => cell_below o.h m4
  have q1 : IntKind.i64.wrap ((bs : Int) + nv) = bs + nv := IntWalk.i64_in _ (by omega)
  have q2 : IntKind.i64.wrap ((bs : Int) + nv + 1) = bs + nv + 1 := IntWalk.i64_in _ (by omega)
  clear z0 z1 z2 m4 HB hnv hbl
  refine wp_region_WB W (by kernel_rfl) ?_
  repeat (go_big_quiet_step ((rename_i o; exact (HBB.out o).mono (fun _ _ h => Ret.inB h))))
  refine wpQuiet_nil ?_
  intro _ hw'
  obtain ⟨o, rfl⟩ := hw'
  have S1 := Lib.hid (S0.out.below o.h)
  clear k0 k1 k2 k4 q1 q2
  go_wp2
  go_ret
  exact ⟨ret_int (by rw [HE.out]), S1.out.hb⟩
end Go.Proofs.YtkbmnfijeknenaaGreatDoor
