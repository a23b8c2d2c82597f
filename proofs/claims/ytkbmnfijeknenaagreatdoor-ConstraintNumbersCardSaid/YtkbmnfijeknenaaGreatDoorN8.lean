/-
  The law ConstraintNumbers returns true.
-/
import Derived.Test.YtkbmnfijeknenaaGreatDoorNB
import Derived.Test.YtkbmnfijeknenaaGreatDoorNA
import Derived.Test.YtkbmnfijeknenaaGreatDoorWF
import Derived.Test.YtkbmnfijeknenaaGreatDoorLiv
namespace Go.Proofs.YtkbmnfijeknenaaGreatDoor
open Go.RowKit Go.Unit0

theorem bl_inj {a b : List Str} (h : a.map bl = b.map bl) : a = b := by
  have e : ∀ l : List Str, (l.map bl).map mkB = l := fun l => by rw [List.map_map]; exact List.map_id'' mkB_bl l
  rw [← e a, h, e b]
theorem sortBL_eq (l : List Str) : (compB (sortB l)).map bl = Lib.compact (sortBL (l.map bl)) := by
  have e : ∀ m : List BL, (m.map mkB).map bl = m := fun m => by rw [List.map_map]; exact List.map_id'' bl_mkB m
  unfold compB sortB
  rw [e, e]; rfl
theorem fldNames_len {m : Nat} : ∀ {h : List Cls}, (∀ x ∈ h, x.fields.length ≤ m) → (fldNames h).length ≤ h.length * m
  | [], _ => by simp [fldNames]
  | c :: h, k => by
    have ih := fldNames_len (h := h) (fun x hx => k x (List.mem_cons_of_mem _ hx))
    have hc := k c (List.mem_cons_self ..)
    have e : fldNames (c :: h) = c.fields.map (·.name) ++ fldNames h := by simp [fldNames]
    rw [e, List.length_append, List.length_map, List.length_cons, Nat.add_mul]
    omega
theorem UB.now {u : Unt} {ha : Option Addr} {hc : Nat} {fa : Option Addr} {fc : Nat} {w wr : World} (k : UB u ha hc fa fc w wr) {o : World} (h : Below wr.heap.size wr o) : o.cell? ⟨w.heap.size, 0, none⟩ = some (.slice ha u.h.length hc) ∧ o.cell? ⟨w.heap.size, 1, none⟩ = some (.slice fa u.fs.length fc) ∧ o.cell? ⟨w.heap.size, 2, none⟩ = some (.int .i64 u.main) := (k.below h).cells
set_option maxRecDepth 100000 in
set_option maxHeartbeats 8000000 in
theorem numbers8 (u : Unt) (ha : Option Addr) (hc : Nat) (fa : Option Addr) (fc : Nat) (f v : Int) (w : World) (hA : AW w) (h : ClssAt w ha u.h) (hf : FncsAt w fa u.fs) (hcap : u.fs.length ≤ fc) :
    Calls Tryz.prog 8 #[unV u ha hc fa fc, .int .i64 f, .int .i64 v] w (Ret w (.bool true)) := by
  have S0 := Lib.hid (UB.start (hc := hc) (fc := fc) h hf)
  have AW0 := Lib.hid hA
  have HSM : Hid (∀ w1, ClssAt w1 ha u.h → FncsAt w1 fa u.fs → Calls Tryz.prog 11 #[unV u ha hc fa fc, .int .i64 150] w1 (BPost (fun b => b = true → FitOk u 150 ∧ UnitOk u) w1)) := fun w1 h1 h2 => small11 u ha hc fa fc 150 w1 h1 h2 (by omega)
  have HF1 : Hid (FitOk u 150 → ∀ w1, ClssAt w1 ha u.h → FncsAt w1 fa u.fs → Calls Tryz.prog 30 #[unV u ha hc fa fc] w1 (StrsPost (compB (sortB (fldNames u.h))) w1)) := fun k w1 h1 h2 => fields30 u ha hc fa fc w1 h1 h2 (by have := k.nc; omega) (fun x hx => by have := (k.c x hx).f; omega)
  have HF2 : Hid (FitOk u 150 → ∀ w1, ClssAt w1 ha u.h → FncsAt w1 fa u.fs → Calls Tryz.prog 31 #[unV u ha hc fa fc] w1 (StrsB (foldL ((fldNames u.h).map bl)) w1)) := fun k w1 h1 h2 => fields31 u ha hc fa fc w1 h1 h2 (by have := k.nc; omega) (fun x hx => by have := (k.c x hx).f; omega)
  have HFE : Hid (∀ r : List Str, r.map bl = foldL ((fldNames u.h).map bl) → r = compB (sortB (fldNames u.h))) := fun r hr => bl_inj (by rw [hr, sortBL_eq]; exact fold_csort _)
  have HV1 : Hid (FitOk u 150 → ∀ w1, ClssAt w1 ha u.h → FncsAt w1 fa u.fs → Calls Tryz.prog 32 #[unV u ha hc fa fc, .int .i64 f, .int .i64 v] w1 (Ret w1 (.int .i64 (varP u f v)))) := fun k w1 h1 h2 => varPconstraint u ha hc fa fc f v w1 h1 h2 (by have := k.nf; omega) hcap (fun x hx => by have := (k.f x hx).v; omega)
  have HV2 : Hid (FitOk u 150 → ∀ w1, ClssAt w1 ha u.h → FncsAt w1 fa u.fs → Calls Tryz.prog 33 #[unV u ha hc fa fc, .int .i64 f, .int .i64 v] w1 (Ret w1 (.int .i64 (varP u f v)))) := fun k w1 h1 h2 => varPr17 u ha hc fa fc f v w1 h1 h2 (by have := k.nf; omega) (fun x hx => by have := (k.f x hx).v; omega)
  have HV3 : Hid (FitOk u 150 → ∀ w1, ClssAt w1 ha u.h → FncsAt w1 fa u.fs → Calls Tryz.prog 34 #[unV u ha hc fa fc, .int .i64 f] w1 (Ret w1 (.int .i64 (resP u f)))) := fun k w1 h1 h2 => resPconstraint u ha hc fa fc f w1 h1 h2 (by have := k.nf; omega) hcap (fun x hx => by have := (k.f x hx).v; omega)
  have HV4 : Hid (FitOk u 150 → ∀ w1, ClssAt w1 ha u.h → FncsAt w1 fa u.fs → Calls Tryz.prog 35 #[unV u ha hc fa fc, .int .i64 f] w1 (Ret w1 (.int .i64 (resP u f)))) := fun k w1 h1 h2 => resPr17 u ha hc fa fc f w1 h1 h2 (by have := k.nf; omega) (fun x hx => by have := (k.f x hx).v; omega)
  have HV5 : Hid (FitOk u 150 → ∀ w1, ClssAt w1 ha u.h → FncsAt w1 fa u.fs → Calls Tryz.prog 36 #[unV u ha hc fa fc, .int .i64 f] w1 (Ret w1 (.int .i64 (thrP u f)))) := fun k w1 h1 h2 => thrPconstraint u ha hc fa fc f w1 h1 h2 (by have := k.nf; omega) hcap (fun x hx => by have := (k.f x hx).v; omega)
  have HV6 : Hid (FitOk u 150 → ∀ w1, ClssAt w1 ha u.h → FncsAt w1 fa u.fs → Calls Tryz.prog 37 #[unV u ha hc fa fc, .int .i64 f] w1 (Ret w1 (.int .i64 (thrP u f)))) := fun k w1 h1 h2 => thrPr17 u ha hc fa fc f w1 h1 h2 (by have := k.nf; omega) (fun x hx => by have := (k.f x hx).v; omega)
  have HNL : Hid (FitOk u 150 → (fldNames u.h).length ≤ 1000) := fun k => by have h1 := fldNames_len (h := u.h) (m := 20) (fun x hx => (k.c x hx).f); have := k.nc; omega
  clear hA h hf hcap
  generalize varP u f v = vv at *
  generalize resP u f = rv at *
  generalize thrP u f = tv at *
  generalize fldNames u.h = names at *
  unfold unV at *
  go_enter Tryz.func8, Tryz.ntmps8
  go_upto_region 1 with (fail)
  generalize w.alloc _ = W at *
  obtain ⟨z0, z1, z2⟩ := S0.out.cells
  go_wp2_with fail
  refine (HSM.out _ S0.out.h S0.out.f).mono ?_
  rintro e w1 ⟨hb', d, rfl, hr⟩
  have S1 := Lib.hid (S0.out.below hb')
  have HR := Lib.hid hr
  clear S0 hb' z0 z1 z2 hr HSM
  cases d
  case false =>
    go_wp2_with fail
    refine (awake17 _ (AW0.out.below S1.out.hb)).mono ?_
    rintro e w2 ⟨rfl, hb'⟩
    have S2 := Lib.hid (S1.out.below hb')
    clear S1 hb'
    go_wp2
    go_ret
    exact ⟨rfl, S2.out.hb⟩
  have HFO := Lib.hid (HR.out rfl).1
  replace HF1 := Lib.hid (HF1.out HFO.out)
  replace HF2 := Lib.hid (HF2.out HFO.out)
  replace HV1 := Lib.hid (HV1.out HFO.out)
  replace HV2 := Lib.hid (HV2.out HFO.out)
  replace HV3 := Lib.hid (HV3.out HFO.out)
  replace HV4 := Lib.hid (HV4.out HFO.out)
  replace HV5 := Lib.hid (HV5.out HFO.out)
  replace HV6 := Lib.hid (HV6.out HFO.out)
  have hnames : (compB (sortB names)).length ≤ names.length := by have := compB_len (sortB names); rw [sortB_len] at this; exact this
  have hnl := HNL.out HFO.out
  clear HR HFO HNL
  generalize compB (sortB names) = r at *
  go_upto_region 3 with (fail)
  go_cut [7, 8] (fun a b wx => ∃ (a1 : Option Addr) (c1 : Nat) (a2 : Option Addr) (c2 : Nat), a = .slice a1 r.length c1 ∧ b = .slice a2 r.length c2 ∧ Hid (StrsAt wx a1 r) ∧ Hid (StrsAt wx a2 r) ∧ Hid (UB u ha hc fa fc w wx))
  case first =>
    have k0 : ∀ o : WB w1, o.u.cell? ⟨w.heap.size, 0, none⟩ = some (.slice ha u.h.length hc) := fun o => (S1.out.now o.h).1
    have k1 : ∀ o : WB w1, o.u.cell? ⟨w.heap.size, 1, none⟩ = some (.slice fa u.fs.length fc) := fun o => (S1.out.now o.h).2.1
    have k2 : ∀ o : WB w1, o.u.cell? ⟨w.heap.size, 2, none⟩ = some (.int .i64 u.main) := fun o => (S1.out.now o.h).2.2
    have hne : Nonempty (WB w1) := ⟨⟨w1, Below.refl _ _⟩⟩
    have hcur : Below w1.heap.size w1 w1.drew := (Below.refl _ _).drew
    refine wp_region_Y (fun w' => ∃ o : WB w1, w' = o.u) (by kernel_rfl) ?_
    change wpAnyY _ _ _ _ _ _ _ _ w1.drew
    refine wpAnyY_take 0 rfl (by kernel_rfl) (fun _ _ _ _ h => h) ⟨⟨_, hcur⟩, rfl⟩ (fun K hK => ?_)
    go_simp
    refine hK _ ?_
    clear hK K
    refine wpAnyY_take 2 rfl (by kernel_rfl) (fun _ _ _ _ h => h) ⟨⟨_, hcur⟩, rfl⟩ (fun K hK => ?_)
    go_simp
    refine hK _ ?_
    clear hK K
    refine wpAnyY_one 1 rfl (by kernel_rfl) ?_
    go_wp2_with fail
    refine (HF1.out _ (S1.out.h.below hcur) (S1.out.f.below hcur)).mono ?_
    rintro e w2 ⟨hb2, a1, c1, rfl, own⟩
    have hcur2 : Below w1.heap.size w1 w2 := hcur.trans (hb2.mono hcur.size)
    have HA1 : Hid (StrsAt w2 a1 r) := (owns_strs' own).2
    clear own
    go_wp2
    refine ⟨⟨⟨_, hcur2⟩, rfl⟩, ?_⟩
    refine wpAnyY_one 3 rfl (by kernel_rfl) ?_
    go_wp2_with fail
    refine (HF2.out _ (S1.out.h.below hcur2) (S1.out.f.below hcur2)).mono ?_
    rintro e w3 ⟨hb3, r2, a2, c2, rfl, hat, hr2⟩
    have er := HFE.out r2 hr2
    subst er
    have hcur3 : Below w1.heap.size w1 w3 := hcur2.trans (hb3.mono hcur2.size)
    have HA1' := Lib.hid (HA1.out.below hb3)
    have HA2 := Lib.hid hat
    clear hat hr2 HA1
    go_wp2
    refine ⟨⟨⟨_, hcur3⟩, rfl⟩, ?_⟩
    refine wpAnyY_one 4 rfl (by kernel_rfl) ?_
    go_wp2
    refine ⟨⟨⟨_, hcur3⟩, rfl⟩, ?_⟩
    refine wpAnyY_one 5 rfl (by kernel_rfl) ?_
    go_wp2
    refine ⟨⟨⟨_, hcur3⟩, rfl⟩, ?_⟩
    refine wpAnyY_done (by kernel_rfl) ?_ _
    have S3 := Lib.hid (S1.out.below hcur3)
    go_wp2
    go_meet
    exact ⟨a1, c1, a2, c2, rfl, rfl, HA1'.out, HA2.out, S3.out⟩
  case rest =>
    obtain ⟨a1, c1, a2, c2, rfl, rfl, HA1, HA2, S2⟩ := hcut
    clear S1 HF1 HF2 HFE
    go_wp2
    go_loopw [25] (fun i wr => ∃ k : Nat, k ≤ r.length ∧ i = .int .i64 k ∧ Hid (UB u ha hc fa fc w wr) ∧ Hid (StrsAt wr a1 r) ∧ Hid (StrsAt wr a2 r)) (fun i _ => r.length - (intOf i).toNat)
    case atStart => exact ⟨0, Nat.zero_le _, rfl, S2.out, HA1.out, HA2.out⟩
    case round =>
      clear S2 HA1 HA2
      obtain ⟨k, hk, rfl, S, HA1, HA2⟩ := hrel
      by_cases hlt : k < r.length
      case pos =>
        obtain ⟨b1, o1, he1, p1⟩ := HA1.out k hlt
        obtain ⟨b2, o2, he2, p2⟩ := HA2.out k hlt
        subst he1
        subst he2
        have HA1c := Lib.hid HA1.out
        have HA2c := Lib.hid HA2.out
        generalize r[k] = x at *
        have hne : Nonempty (WB wr) := ⟨⟨wr, Below.refl _ _⟩⟩
        have k0 : ∀ o : WB wr, o.u.cell? ⟨b1, o1 + k, none⟩ = some (.string x) := fun o => cell_below o.h p1
        have k1 : ∀ o : WB wr, o.u.cell? ⟨b2, o2 + k, none⟩ = some (.string x) := fun o => cell_below o.h p2
        go_upto_region 9 with (fail)
        clear p1 p2
        refine wp_region_WB wr (by kernel_rfl) ?_
        repeat (go_big_quiet_step (fail))
        refine wpQuiet_nil ?_
        intro _ hw'
        obtain ⟨o, rfl⟩ := hw'
        have S3 := Lib.hid (S.out.below o.h)
        have HA3 := Lib.hid (HA1c.out.below o.h)
        have HA4 := Lib.hid (HA2c.out.below o.h)
        clear k0 k1
        go_wp2
        go_roundw
        case rel => exact ⟨k + 1, by omega, by go_num, S3.out, HA3.out, HA4.out⟩
        case measure => simp [intOf]; omega
      go_upto_region 12 with (fail)
      have hne : Nonempty (WB wr) := ⟨⟨wr, Below.refl _ _⟩⟩
      have k0 : ∀ o : WB wr, o.u.cell? ⟨w.heap.size, 0, none⟩ = some (.slice ha u.h.length hc) := fun o => (S.out.now o.h).1
      have k1 : ∀ o : WB wr, o.u.cell? ⟨w.heap.size, 1, none⟩ = some (.slice fa u.fs.length fc) := fun o => (S.out.now o.h).2.1
      have k2 : ∀ o : WB wr, o.u.cell? ⟨w.heap.size, 2, none⟩ = some (.int .i64 u.main) := fun o => (S.out.now o.h).2.2
      refine wp_region_WB wr (by kernel_rfl) ?_
      repeat (go_big_quiet_step ((rename_i o; first
        | (with_reducible exact (awake17 _ (AW0.out.below (S.out.below o.h).hb)).mono (fun _ _ h => Ret.inB h))
        | (with_reducible exact (HV1.out _ (S.out.h.below o.h) (S.out.f.below o.h)).mono (fun _ _ h => Ret.inB h))
        | (with_reducible exact (HV2.out _ (S.out.h.below o.h) (S.out.f.below o.h)).mono (fun _ _ h => Ret.inB h))
        | (with_reducible exact (HV3.out _ (S.out.h.below o.h) (S.out.f.below o.h)).mono (fun _ _ h => Ret.inB h))
        | (with_reducible exact (HV4.out _ (S.out.h.below o.h) (S.out.f.below o.h)).mono (fun _ _ h => Ret.inB h))
        | (with_reducible exact (HV5.out _ (S.out.h.below o.h) (S.out.f.below o.h)).mono (fun _ _ h => Ret.inB h))
        | (with_reducible exact (HV6.out _ (S.out.h.below o.h) (S.out.f.below o.h)).mono (fun _ _ h => Ret.inB h)))))
      refine wpQuiet_nil ?_
      intro _ hw'
      obtain ⟨o, rfl⟩ := hw'
      have S3 := Lib.hid (S.out.below o.h)
      clear k0 k1 k2
      go_wp2
      go_ret
      exact ⟨ret_bool (by simp), S3.out.hb⟩
end Go.Proofs.YtkbmnfijeknenaaGreatDoor
