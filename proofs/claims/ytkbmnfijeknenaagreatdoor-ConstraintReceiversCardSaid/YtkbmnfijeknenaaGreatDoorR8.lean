/-
  The law ConstraintReceivers returns true.
-/
import Derived.Test.YtkbmnfijeknenaaGreatDoorR7
import Derived.Test.YtkbmnfijeknenaaGreatDoorWF
import Derived.Test.YtkbmnfijeknenaaGreatDoorLiv
namespace Go.Proofs.YtkbmnfijeknenaaGreatDoor
open Go.RowKit Go.Unit0 Go.AM

def hasI (l : List Int) (x : Int) : Bool := decide (x ∈ l)
set_option maxHeartbeats 1000000 in
theorem has17 (l : List Int) (x : Int) (la : Option Addr) (lc : Nat) (w : World) (h : IntsAt w la l) (hl : l.length ≤ 1000000) :
    Calls Tryz.prog 44 #[.slice la l.length lc, .int .i64 x] w (Same w (.bool (hasI l x))) := by
  have HL := Lib.hid h
  clear h
  have HD : Hid (hasI l x = decide (x ∈ l)) := rfl
  generalize hasI l x = r at *
  go_enter Tryz.func44, Tryz.ntmps44
  go_wp2
  go_loop [8] (fun i => ∃ k : Nat, k ≤ l.length ∧ i = .int .i64 k ∧ Hid (x ∉ l.take k)) (fun i => l.length - (intOf i).toNat)
  case atStart => exact ⟨0, Nat.zero_le _, rfl, by show _ ∉ _; simp⟩
  case round =>
    obtain ⟨k, hk, rfl, HN⟩ := hrel
    by_cases hlt : k < l.length
    case neg =>
      have HF : Hid (r = false) := by
        show _ = _
        rw [HD.out, decide_eq_false_iff_not]
        have := HN.out
        rw [List.take_of_length_le (by omega)] at this
        exact this
      go_wp2
      go_ret
      exact ⟨by rw [HF.out] <;> rfl, rfl⟩
    obtain ⟨b, off, he, c0⟩ := HL.out k hlt
    subst he
    have HT : Hid (l.take (k + 1) = l.take k ++ [l[k]]) := List.take_succ_eq_append_getElem hlt
    have HME : Hid (l[k] = x → r = true) := fun e => by rw [HD.out, decide_eq_true_iff, ← e]; exact List.getElem_mem hlt
    generalize l[k] = y at *
    by_cases hy : y = x
    · have t1 : (y == x) = true := by simp [hy]
      have HF := Lib.hid (HME.out hy)
      clear hy
      go_wp2
      go_ret
      exact ⟨by rw [HF.out] <;> rfl, rfl⟩
    · have t1 : (y == x) = false := by simp [hy]
      have HN2 : Hid (x ∉ l.take (k + 1)) := by
        show _ ∉ _
        rw [HT.out, List.mem_append, List.mem_singleton, not_or]
        exact ⟨HN.out, fun e => hy e.symm⟩
      clear hy
      go_wp2
      go_round
      case rel => exact ⟨k + 1, by omega, by go_num, HN2.out⟩
      case measure => simp [intOf]; omega
/-- what the law holds on its way -/
structure LW7 (u : Unt) (ha : Option Addr) (hc : Nat) (fa : Option Addr) (fc : Nat) (L : List Sit) (sa : Option Addr) (I : List Int) (ia : Option Addr) (w wr : World) : Prop where
  ub : UB u ha hc fa fc w wr
  sa : SitsAt wr sa L
  ia : IntsAt wr ia I
theorem LW7.below {u : Unt} {ha : Option Addr} {hc : Nat} {fa : Option Addr} {fc : Nat} {L : List Sit} {sa : Option Addr} {I : List Int} {ia : Option Addr} {w wr w' : World} (k : LW7 u ha hc fa fc L sa I ia w wr) (hb : Below wr.heap.size wr w') : LW7 u ha hc fa fc L sa I ia w w' := ⟨k.ub.below hb, k.sa.below hb, k.ia.below hb⟩
/-- a look-up's outcome: whether what it found is static -/
def LookS (h : List Cls) (s m : Str) (w : World) (e : Ending) (w' : World) : Prop := Below w.heap.size w w' ∧ ∃ (x s1 s2 : Str) (b : Bool) (pa : Option Addr) (n pc : Nat),
  e = .returned (.tuple #[.string x, .agg #[.string s1, .bool (stcB h s m), .slice pa n pc, .string s2], .bool b])
theorem lookS {h : List Cls} {s m : Str} {w : World} {e : Ending} {w' : World} (k : LookQ (lookP h s m) w e w') : LookS h s m w e w' := by
  refine ⟨k.1, ?_⟩
  unfold stcB
  rcases k.2 with ⟨h1, rfl⟩ | ⟨x, g, pa, pc, h1, rfl, _⟩
  · rw [h1]; exact ⟨_, _, _, _, _, _, _, rfl⟩
  · rw [h1]; exact ⟨_, _, _, _, _, _, _, rfl⟩
set_option maxRecDepth 100000 in
set_option maxHeartbeats 16000000 in
theorem receivers17 (u : Unt) (ha : Option Addr) (hc : Nat) (fa : Option Addr) (fc : Nat) (c m : Str) (w : World) (hA : AW w) (h : ClssAt w ha u.h) (hf : FncsAt w fa u.fs) :
    Calls Tryz.prog 10 #[unV u ha hc fa fc, .string c, .string m] w (Ret w (.bool true)) := by
  have S0 := Lib.hid (UB.start (hc := hc) (fc := fc) h hf)
  have AW0 := Lib.hid hA
  have HSM : Hid (∀ w1, ClssAt w1 ha u.h → FncsAt w1 fa u.fs → Calls Tryz.prog 11 #[unV u ha hc fa fc, .int .i64 150] w1 (BPost (fun b => b = true → FitOk u 150 ∧ UnitOk u) w1)) := fun w1 h1 h2 => small11 u ha hc fa fc 150 w1 h1 h2 (by omega)
  have HSI : Hid (FitOk u 150 → ∀ w1, ClssAt w1 ha u.h → FncsAt w1 fa u.fs → Calls Tryz.prog 41 #[unV u ha hc fa fc] w1 (SitsPost (sitL u) w1)) := fun k w1 h1 h2 => sitesP u ha hc fa fc w1 h1 h2 k
  have HIN : Hid (FitOk u 150 → ∀ w1, ClssAt w1 ha u.h → FncsAt w1 fa u.fs → Calls Tryz.prog 42 #[unV u ha hc fa fc, .string c] w1 (IntsPost (instL u.h (sitL u) c) w1)) := fun k w1 h1 h2 => instancesU u ha hc fa fc c w1 h1 h2 k
  have HRC : Hid (FitOk u 150 → ∀ (g : Int) w1, ClssAt w1 ha u.h → FncsAt w1 fa u.fs → Calls Tryz.prog 45 #[unV u ha hc fa fc, .string c, .string m, .int .i64 g] w1 (IntsPost (rcvL u.h u.fs (sitL u) c m g) w1)) := fun k g w1 h1 h2 => receiversU u ha hc fa fc c m g w1 h1 h2 k
  have HLK : Hid (FitOk u 150 → ∀ (s : Str) (w1 : World), ClssAt w1 ha u.h → Calls Tryz.prog 43 #[.agg #[.slice ha u.h.length hc], .string s, .string m] w1 (LookS u.h s m w1)) := fun k s w1 h1 => (lookupP u.h s m ha hc w1 h1 (fitOk_bnd k (by omega)).h.l (fitOk_bnd k (by omega)).h.m (fitOk_bnd k (by omega)).h.p).mono fun _ _ h => lookS h
  have HDS : Hid (FitOk u 150 → ∀ (s : Str) (w1 : World), ClssAt w1 ha u.h → FncsAt w1 fa u.fs → Calls Tryz.prog 28 #[unV u ha hc fa fc, .string s, .string m] w1 (Ret w1 (.int .i64 (dspP u.h u.fs s m)))) := fun k s w1 h1 h2 => dispatchP u ha hc fa fc s m w1 h1 h2 (fitOk_bnd k (by omega))
  have HBN : Hid (FitOk u 150 → (sitL u).length ≤ 150 ∧ u.fs.length ≤ 20) := fun k => ⟨by
    have h1 := sitU_len (fs := u.fs) (Nat.le_refl u.fs.length)
    rw [List.take_length] at h1
    have h2 := k.t
    show (sitU u.fs u.fs.length).length ≤ _
    omega, k.nf⟩
  have HIM : Hid (∀ x, x ∈ instL u.h (sitL u) c → ∃ (j : Nat) (hj : j < (sitL u).length), x = (j : Int)) := fun x hx => by
    obtain ⟨j, hj, e, _⟩ := instL_mem.1 hx
    exact ⟨j, hj, e⟩
  have HIL : Hid ((instL u.h (sitL u) c).length ≤ (sitL u).length) := idxL_len _ _
  have HRM : Hid (∀ (j f : Nat) (hj : j < (sitL u).length), (j : Int) ∈ instL u.h (sitL u) c → stcB u.h (sitL u)[j].c m = false → hasI (rcvL u.h u.fs (sitL u) c m (f : Int)) (j : Int) = decide ((f : Int) = dspP u.h u.fs (sitL u)[j].c m)) := fun j f hj hin hs => by
    rw [← fnd_dsp hs f, hasI]
    rw [Bool.eq_iff_iff, decide_eq_true_iff]
    exact rcvL_mem hj hin
  have HRL : Hid (∀ (f : Nat), (rcvL u.h u.fs (sitL u) c m (f : Int)).length ≤ (sitL u).length) := fun f => by
    unfold rcvL
    rw [if_neg (by omega)]
    exact Nat.le_trans (List.length_filter_le _ _) (idxL_len _ _)
  clear hA h hf
  generalize hRC : (fun g : Int => rcvL u.h u.fs (sitL u) c m g) = RC at *
  have HRD : Hid (∀ g : Int, rcvL u.h u.fs (sitL u) c m g = RC g) := fun g => by rw [← hRC]
  clear hRC
  simp only [HRD.out] at HRC HRM HRL
  clear HRD
  generalize instL u.h (sitL u) c = I at *
  generalize sitL u = L at *
  unfold unV at *
  go_enter Tryz.func10, Tryz.ntmps10
  go_upto_region 1 with (fail)
  generalize w.alloc _ = W at *
  obtain ⟨z0, z1, z2⟩ := S0.out.cells
  go_wp2_with fail
  refine (HSM.out _ S0.out.h S0.out.f).mono ?_
  rintro e w1 ⟨hb', d, rfl, hr⟩
  have S := Lib.hid (S0.out.below hb')
  have HR := Lib.hid hr
  clear S0 hb' z0 z1 z2 hr HSM
  generalize w1 = W at *
  cases d
  case false =>
    go_wp2_with fail
    refine (awake17 _ (AW0.out.below S.out.hb)).mono ?_
    rintro e w2 ⟨rfl, hb'⟩
    have S1 := Lib.hid (S.out.below hb')
    clear S hb'
    go_wp2
    go_ret
    exact ⟨rfl, S1.out.hb⟩
  have HFO := Lib.hid (HR.out rfl).1
  replace HSI := Lib.hid (HSI.out HFO.out)
  replace HIN := Lib.hid (HIN.out HFO.out)
  replace HRC := Lib.hid (HRC.out HFO.out)
  replace HLK := Lib.hid (HLK.out HFO.out)
  replace HDS := Lib.hid (HDS.out HFO.out)
  have hsl := (HBN.out HFO.out).1
  have hfl := (HBN.out HFO.out).2
  have hil := HIL.out
  clear HR HFO HBN HIL
  obtain ⟨z0, z1, z2⟩ := S.out.cells
  go_upto_region 4 with (go_at_call 41; refine (HSI.out _ S.out.h S.out.f).mono ?_; rintro e w2 ⟨hb2, sa, sc, rfl, ow2⟩)
  have S2 := Lib.hid (S.out.below hb2)
  have SA2 := Lib.hid (ownsS' ow2).2
  clear hb2 ow2 S z0 z1 z2 HSI
  obtain ⟨z0, z1, z2⟩ := S2.out.cells
  go_upto_region 5 with (go_at_call 42; refine (HIN.out _ S2.out.h S2.out.f).mono ?_; rintro e w3 ⟨hb3, ia, ic, rfl, ow3⟩)
  have S3 : Hid (LW7 u ha hc fa fc L sa I ia w w3) := ⟨S2.out.below hb3, SA2.out.below hb3, (owns_ints' ow3).2⟩
  clear hb3 ow3 S2 SA2 z0 z1 z2 HIN
  go_wp2
  go_loopw [26] (fun i wr => ∃ k : Nat, k ≤ I.length ∧ i = .int .i64 k ∧ Hid (LW7 u ha hc fa fc L sa I ia w wr)) (fun i _ => I.length - (intOf i).toNat)
  case atStart => exact ⟨0, Nat.zero_le _, rfl, S3.out⟩
  case round =>
    clear S3
    obtain ⟨k, hk, rfl, S⟩ := hrel
    by_cases hlt : k < I.length
    case neg =>
      go_wp2_with fail
      refine (awake17 _ (AW0.out.below S.out.ub.hb)).mono ?_
      rintro e w4 ⟨rfl, hb'⟩
      have S1 := Lib.hid (S.out.below hb')
      clear S hb'
      go_wp2
      go_ret
      exact ⟨rfl, S1.out.ub.hb⟩
    obtain ⟨b, off, he, c0⟩ := S.out.ia k hlt
    subst he
    have HXI := Lib.hid (List.getElem_mem hlt)
    obtain ⟨j, hj, ej⟩ := HIM.out _ HXI.out
    have HXE := Lib.hid ej
    rw [ej] at c0
    have HXI2 : Hid ((j : Int) ∈ I) := by rw [← ej]; exact HXI.out
    clear ej
    obtain ⟨bs, os, he, -, -, m2⟩ := S.out.sa j hj
    subst he
    have HRJ := Lib.hid (fun f => HRM.out j f hj HXI2.out)
    have HQ0 := HLK.out L[j].c
    unfold LookS at HQ0
    have HQ := Lib.hid HQ0
    clear HQ0
    have HDJ := Lib.hid (HDS.out L[j].c)
    generalize stcB u.h L[j].c m = st at *
    generalize dspP u.h u.fs L[j].c m = dg at *
    have HXC : Hid (∃ z, z = L[j].c) := ⟨_, rfl⟩
    generalize hxc : L[j].c = xc at *
    replace HXC := Lib.hid hxc
    clear hxc
    have t1 : decide ((j : Int) < 0) = false := decide_eq_false (by omega)
    have t2 : decide ((L.length : Int) ≤ (j : Int)) = false := decide_eq_false (by omega)
    go_upto_region 10 with (fail)
    clear t1 t2
    go_cut [11] (fun v wx => ∃ g, v = .pointer (some ⟨g, 0, none⟩) ∧ Hid (wx.cell? ⟨g, 1, none⟩ = some (.bool st)) ∧ Hid (LW7 u ha hc fa fc L (some ⟨bs, os, none⟩) I (some ⟨b, off, none⟩) w wx))
    case first =>
      have hne : Nonempty (WB wr) := ⟨⟨wr, Below.refl _ _⟩⟩
      obtain ⟨z0, z1, z2⟩ := S.out.ub.cells
      have k0 : ∀ o : WB wr, o.u.cell? ⟨w.heap.size, 0, none⟩ = some (.slice ha u.h.length hc) := fun o => cell_below o.h z0
      have k1 : ∀ o : WB wr, o.u.cell? ⟨b, off + k, none⟩ = some (.int .i64 j) := fun o => cell_below o.h c0
      have k2 : ∀ o : WB wr, o.u.cell? ⟨bs, os + j * 3 + 2, none⟩ = some (.string xc) := fun o => cell_below o.h m2
      clear z0 z1 z2 c0 m2
      have h0 : Below wr.heap.size wr wr.drew := (Below.refl _ _).drew
      refine wp_region_Y (fun w' => ∃ o : WB wr, w' = o.u) (by kernel_rfl) ?_
      change wpAnyY _ _ _ _ _ _ _ _ wr.drew
      generalize wr.drew = V0 at *
      refine wpAnyY_take 0 rfl (by kernel_rfl) (fun _ _ _ _ h => h) ⟨⟨_, h0⟩, rfl⟩ (fun K hK => ?_)
      go_simp
      refine hK _ ?_
      clear hK K
      refine wpAnyY_take 1 rfl (by kernel_rfl) (fun _ _ _ _ h => h) ⟨⟨_, h0⟩, rfl⟩ (fun K hK => ?_)
      go_simp
      refine hK _ ?_
      clear hK K
      refine wpAnyY_take 2 rfl (by kernel_rfl) (fun _ _ _ _ h => h) ⟨⟨_, h0⟩, rfl⟩ (fun K hK => ?_)
      go_simp
      refine hK _ ?_
      clear hK K
      refine wpAnyY_take 3 rfl (by kernel_rfl) (fun _ _ _ _ h => h) ⟨⟨_, h0⟩, rfl⟩ (fun K hK => ?_)
      go_simp
      refine hK _ ?_
      clear hK K
      refine wpAnyY_take 4 rfl (by kernel_rfl) (fun _ _ _ _ h => h) ⟨⟨_, h0⟩, rfl⟩ (fun K hK => ?_)
      go_simp
      refine hK _ ?_
      clear hK K
      refine wpAnyY_take 5 rfl (by kernel_rfl) (fun _ _ _ _ h => h) ⟨⟨_, h0⟩, rfl⟩ (fun K hK => ?_)
      go_simp
      refine hK _ ?_
      clear hK K
      refine wpAnyY_take 6 rfl (by kernel_rfl) (fun _ _ _ _ h => h) ⟨⟨_, h0⟩, rfl⟩ (fun K hK => ?_)
      go_simp
      refine hK _ ?_
      clear hK K
      refine wpAnyY_take 7 rfl (by kernel_rfl) (fun _ _ _ _ h => h) ⟨⟨_, h0⟩, rfl⟩ (fun K hK => ?_)
      go_simp
      refine hK _ ?_
      clear hK K
      refine wpAnyY_take 8 rfl (by kernel_rfl) (fun _ _ _ _ h => h) ⟨⟨_, h0⟩, rfl⟩ (fun K hK => ?_)
      go_simp
      refine hK _ ?_
      clear hK K
      refine wpAnyY_take 9 rfl (by kernel_rfl) (fun _ _ _ _ h => h) ⟨⟨_, h0⟩, rfl⟩ (fun K hK => ?_)
      go_simp
      refine hK _ ?_
      clear hK K
      refine wpAnyY_take 10 rfl (by kernel_rfl) (fun _ _ _ _ h => h) ⟨⟨_, h0⟩, rfl⟩ (fun K hK => ?_)
      go_simp
      refine hK _ ?_
      clear hK K
      refine wpAnyY_two 11 16 rfl rfl (by kernel_rfl) ?_ ?_
      · go_wp2_with fail
        refine (HQ.out _ (S.out.ub.h.below h0)).mono ?_
        rintro e w2 ⟨hb2, x, s1, s2, b1, pa, n, pc, rfl⟩
        have h2 : Below wr.heap.size wr w2 := h0.trans (hb2.mono h0.size)
        clear hb2
        go_wp2
        refine ⟨⟨⟨_, h2⟩, rfl⟩, ?_⟩
        refine wpAnyY_take 12 rfl (by kernel_rfl) (fun _ _ _ _ h => h) ⟨⟨_, h2⟩, rfl⟩ (fun K hK => ?_)
        go_simp
        refine hK _ ?_
        clear hK K
        refine wpAnyY_take 13 rfl (by kernel_rfl) (fun _ _ _ _ h => h) ⟨⟨_, h2⟩, rfl⟩ (fun K hK => ?_)
        go_simp
        refine hK _ ?_
        clear hK K
        refine wpAnyY_take 14 rfl (by kernel_rfl) (fun _ _ _ _ h => h) ⟨⟨_, h2⟩, rfl⟩ (fun K hK => ?_)
        go_simp
        refine hK _ ?_
        clear hK K
        refine wpAnyY_take 15 rfl (by kernel_rfl) (fun _ _ _ _ h => h) ⟨⟨_, h2⟩, rfl⟩ (fun K hK => ?_)
        go_simp
        refine hK _ ?_
        clear hK K
        have h3 : Below wr.heap.size wr (w2.alloc (.cells #[.string ⟨#[]⟩, .bool false, .slice none 0 0, .string ⟨#[]⟩] 79)) := h2.trans ((one_below ..).mono h2.size)
        have B3 : Hid (Blk (w2.alloc (.cells #[.string ⟨#[]⟩, .bool false, .slice none 0 0, .string ⟨#[]⟩] 79)) w2.heap.size #[.string ⟨#[]⟩, .bool false, .slice none 0 0, .string ⟨#[]⟩] 79) := blk_new ..
        have h4 := below_setRow h3 h2.size #[.string s1, .bool st, .slice pa n pc, .string s2]
        refine wpAnyY_one 16 rfl (by kernel_rfl) ?_
        go_wp2
        refine ⟨⟨⟨_, h3⟩, rfl⟩, ?_⟩
        refine wpAnyY_take 17 rfl (by kernel_rfl) (fun _ _ _ _ h => h) ⟨⟨_, h3⟩, rfl⟩ (fun K hK => ?_)
        go_simp
        refine hK _ ?_
        clear hK K
        refine wpAnyY_one 18 rfl (by kernel_rfl) ?_
        go_wp2_with (refine store114 rfl _ _ rfl w2.heap.size _ _ _ _ _ _ rfl rfl _ B3.out rfl ?_)
        refine ⟨⟨⟨_, below_setRow h3 h2.size _⟩, rfl⟩, ?_⟩
        refine wpAnyY_one 19 rfl (by kernel_rfl) ?_
        go_wp2
        refine ⟨⟨⟨_, below_setRow h3 h2.size _⟩, rfl⟩, ?_⟩
        refine wpAnyY_done (by kernel_rfl) ?_ _
        have G4 : Hid (_ = some (Value.bool st)) := (B3.out.setRow #[.string s1, .bool st, .slice pa n pc, .string s2]).cell 1 (by simp)
        have S4 := Lib.hid (S.out.below h4)
        clear k0 k1 k2
        go_wp2
        go_meet
        exact ⟨w2.heap.size, rfl, G4.out, S4.out⟩
      · go_wp2
        have h2 : Below wr.heap.size wr (V0.alloc (.cells #[.string ⟨#[]⟩, .bool false, .slice none 0 0, .string ⟨#[]⟩] 79)) := h0.trans ((one_below ..).mono h0.size)
        have B2 : Hid (Blk (V0.alloc (.cells #[.string ⟨#[]⟩, .bool false, .slice none 0 0, .string ⟨#[]⟩] 79)) V0.heap.size #[.string ⟨#[]⟩, .bool false, .slice none 0 0, .string ⟨#[]⟩] 79) := blk_new ..
        refine ⟨⟨⟨_, h2⟩, rfl⟩, ?_⟩
        refine wpAnyY_one 11 rfl (by kernel_rfl) ?_
        go_wp2_with fail
        refine (HQ.out _ (S.out.ub.h.below h2)).mono ?_
        rintro e w2 ⟨hb2, x, s1, s2, b1, pa, n, pc, rfl⟩
        have h3 : Below wr.heap.size wr w2 := h2.trans (hb2.mono h2.size)
        have B3 := Lib.hid (B2.out.below hb2)
        clear hb2 B2
        have h4 := below_setRow h3 h0.size #[.string s1, .bool st, .slice pa n pc, .string s2]
        go_wp2
        refine ⟨⟨⟨_, h3⟩, rfl⟩, ?_⟩
        refine wpAnyY_take 12 rfl (by kernel_rfl) (fun _ _ _ _ h => h) ⟨⟨_, h3⟩, rfl⟩ (fun K hK => ?_)
        go_simp
        refine hK _ ?_
        clear hK K
        refine wpAnyY_take 13 rfl (by kernel_rfl) (fun _ _ _ _ h => h) ⟨⟨_, h3⟩, rfl⟩ (fun K hK => ?_)
        go_simp
        refine hK _ ?_
        clear hK K
        refine wpAnyY_take 14 rfl (by kernel_rfl) (fun _ _ _ _ h => h) ⟨⟨_, h3⟩, rfl⟩ (fun K hK => ?_)
        go_simp
        refine hK _ ?_
        clear hK K
        refine wpAnyY_take 15 rfl (by kernel_rfl) (fun _ _ _ _ h => h) ⟨⟨_, h3⟩, rfl⟩ (fun K hK => ?_)
        go_simp
        refine hK _ ?_
        clear hK K
        refine wpAnyY_take 17 rfl (by kernel_rfl) (fun _ _ _ _ h => h) ⟨⟨_, h3⟩, rfl⟩ (fun K hK => ?_)
        go_simp
        refine hK _ ?_
        clear hK K
        refine wpAnyY_one 18 rfl (by kernel_rfl) ?_
        go_wp2_with (refine store114 rfl _ _ rfl V0.heap.size _ _ _ _ _ _ rfl rfl _ B3.out rfl ?_)
        refine ⟨⟨⟨_, below_setRow h3 h0.size _⟩, rfl⟩, ?_⟩
        refine wpAnyY_one 19 rfl (by kernel_rfl) ?_
        go_wp2
        refine ⟨⟨⟨_, below_setRow h3 h0.size _⟩, rfl⟩, ?_⟩
        refine wpAnyY_done (by kernel_rfl) ?_ _
        have G4 : Hid (_ = some (Value.bool st)) := (B3.out.setRow #[.string s1, .bool st, .slice pa n pc, .string s2]).cell 1 (by simp)
        have S4 := Lib.hid (S.out.below h4)
        clear k0 k1 k2
        go_wp2
        go_meet
        exact ⟨V0.heap.size, rfl, G4.out, S4.out⟩
    case rest =>
      obtain ⟨g, rfl, HG, S2⟩ := hcut
      have y1 := HG.out
      clear S c0 m2 HQ
      cases st
      case true =>
        go_wp2
        go_roundw
        case rel => exact ⟨k + 1, by omega, by go_num, S2.out⟩
        case measure => simp [intOf]; omega
      case false =>
        go_upto_region 12 with (fail)
        clear y1 HG
        obtain ⟨z0, z1, z2⟩ := S2.out.ub.cells
        obtain ⟨b', off', he, c0⟩ := S2.out.ia k hlt
        cases he
        rw [HXE.out] at c0
        generalize wc = V at *
        obtain ⟨bs', os', he, -, -, m2⟩ := S2.out.sa j hj
        cases he
        rw [HXC.out] at m2
        have k0 : ∀ o : WB V, o.u.cell? ⟨w.heap.size, 0, none⟩ = some (.slice ha u.h.length hc) := fun o => cell_below o.h z0
        have k1 : ∀ o : WB V, o.u.cell? ⟨w.heap.size, 1, none⟩ = some (.slice fa u.fs.length fc) := fun o => cell_below o.h z1
        have k2 : ∀ o : WB V, o.u.cell? ⟨w.heap.size, 2, none⟩ = some (.int .i64 u.main) := fun o => cell_below o.h z2
        have k3 : ∀ o : WB V, o.u.cell? ⟨b, off + k, none⟩ = some (.int .i64 j) := fun o => cell_below o.h c0
        have k4 : ∀ o : WB V, o.u.cell? ⟨bs, os + j * 3 + 2, none⟩ = some (.string xc) := fun o => cell_below o.h m2
        have hneV : Nonempty (WB V) := ⟨⟨V, Below.refl _ _⟩⟩
        clear z0 z1 z2 c0 m2
        refine wp_region_WB V (by kernel_rfl) ?_
        repeat (go_big_quiet_step ((rename_i o; exact (HDJ.out _ (S2.out.below o.h).ub.h (S2.out.below o.h).ub.f).mono (fun _ _ h => Ret.inB h))))
        refine wpQuiet_nil ?_
        intro _ hw'
        obtain ⟨o, rfl⟩ := hw'
        have S3 := Lib.hid (S2.out.below o.h)
        clear k0 k1 k2 k3 k4 S2 hneV HDJ
        generalize o.u = V3 at *
        obtain ⟨z0, z1, z2⟩ := S3.out.ub.cells
        go_wp2
        clear z0 z1 z2
        obtain ⟨wo, rfl⟩ : ∃ wo : World, wo = wr := ⟨_, rfl⟩
        go_loopw [75] (fun i wr => ∃ f : Nat, f ≤ u.fs.length ∧ i = .int .i64 f ∧ Hid (LW7 u ha hc fa fc L (some ⟨bs, os, none⟩) I (some ⟨b, off, none⟩) w wr)) (fun i _ => u.fs.length - (intOf i).toNat)
        case atStart => exact ⟨0, Nat.zero_le _, rfl, S3.out⟩
        case round =>
          clear S3
          obtain ⟨f, hf, rfl, S⟩ := hrel
          by_cases hfl2 : f < u.fs.length
          case neg =>
            go_wp2
            go_roundw
            case rel => exact ⟨k + 1, by omega, by go_num, S.out⟩
            case measure => simp [intOf]; omega
          have HRX := Lib.hid (HRJ.out f (by first | rfl | trivial))
          have HRF := Lib.hid (HRC.out (f : Int))
          have hrl := HRL.out f
          have HHS : Hid (∀ a cc w1, IntsAt w1 a (RC (f : Int)) → Calls Tryz.prog 44 #[.slice a (RC (f : Int)).length cc, .int .i64 j] w1 (Same w1 (.bool (decide ((f : Int) = dg))))) := fun a cc w1 h1 => by
            have := has17 (RC (f : Int)) (j : Int) a cc w1 h1 (by omega)
            rw [HRX.out] at this
            exact this
          clear HRX
          obtain ⟨z0, z1, z2⟩ := S.out.ub.cells
          obtain ⟨b', off', he, c0⟩ := S.out.ia k hlt
          cases he
          rw [HXE.out] at c0
          generalize RC (f : Int) = RF at *
          have k0 : ∀ o : WB wr, o.u.cell? ⟨w.heap.size, 0, none⟩ = some (.slice ha u.h.length hc) := fun o => cell_below o.h z0
          have k1 : ∀ o : WB wr, o.u.cell? ⟨w.heap.size, 1, none⟩ = some (.slice fa u.fs.length fc) := fun o => cell_below o.h z1
          have k2 : ∀ o : WB wr, o.u.cell? ⟨w.heap.size, 2, none⟩ = some (.int .i64 u.main) := fun o => cell_below o.h z2
          have k3 : ∀ o : WB wr, o.u.cell? ⟨b, off + k, none⟩ = some (.int .i64 j) := fun o => cell_below o.h c0
          have hneV : Nonempty (WB wr) := ⟨⟨wr, Below.refl _ _⟩⟩
          go_upto_region 16 with (fail)
          clear z0 z1 z2 c0
          have h0 : Below wr.heap.size wr wr.drew := (Below.refl _ _).drew
          cases hbb : ((f : Int) == dg)
          all_goals
            have hdd : decide ((f : Int) = dg) = ((f : Int) == dg) := rfl
            rw [hdd, hbb] at HHS
            clear hdd
            refine wp_region_Y (fun w' => ∃ o : WB wr, w' = o.u) (by kernel_rfl) ?_
            change wpAnyY _ _ _ _ _ _ _ _ wr.drew
            refine wpAnyY_take 0 rfl (by kernel_rfl) (fun _ _ _ _ h => h) ⟨⟨_, h0⟩, rfl⟩ (fun K hK => ?_)
            go_simp
            refine hK _ ?_
            clear hK K
            refine wpAnyY_take 1 rfl (by kernel_rfl) (fun _ _ _ _ h => h) ⟨⟨_, h0⟩, rfl⟩ (fun K hK => ?_)
            go_simp
            refine hK _ ?_
            clear hK K
            refine wpAnyY_take 2 rfl (by kernel_rfl) (fun _ _ _ _ h => h) ⟨⟨_, h0⟩, rfl⟩ (fun K hK => ?_)
            go_simp
            refine hK _ ?_
            clear hK K
            refine wpAnyY_take 3 rfl (by kernel_rfl) (fun _ _ _ _ h => h) ⟨⟨_, h0⟩, rfl⟩ (fun K hK => ?_)
            go_simp
            refine hK _ ?_
            clear hK K
            refine wpAnyY_take 5 rfl (by kernel_rfl) (fun _ _ _ _ h => h) ⟨⟨_, h0⟩, rfl⟩ (fun K hK => ?_)
            go_simp
            refine hK _ ?_
            clear hK K
            refine wpAnyY_take 6 rfl (by kernel_rfl) (fun _ _ _ _ h => h) ⟨⟨_, h0⟩, rfl⟩ (fun K hK => ?_)
            go_simp
            refine hK _ ?_
            clear hK K
            refine wpAnyY_take 7 rfl (by kernel_rfl) (fun _ _ _ _ h => h) ⟨⟨_, h0⟩, rfl⟩ (fun K hK => ?_)
            go_simp
            refine hK _ ?_
            clear hK K
            refine wpAnyY_take 8 rfl (by kernel_rfl) (fun _ _ _ _ h => h) ⟨⟨_, h0⟩, rfl⟩ (fun K hK => ?_)
            go_simp
            refine hK _ ?_
            clear hK K
            refine wpAnyY_take 10 rfl (by kernel_rfl) (fun _ _ _ _ h => h) ⟨⟨_, h0⟩, rfl⟩ (fun K hK => ?_)
            go_simp
            refine hK _ ?_
            clear hK K
            refine wpAnyY_take 11 rfl (by kernel_rfl) (fun _ _ _ _ h => h) ⟨⟨_, h0⟩, rfl⟩ (fun K hK => ?_)
            go_simp
            refine hK _ ?_
            clear hK K
            refine wpAnyY_take 12 rfl (by kernel_rfl) (fun _ _ _ _ h => h) ⟨⟨_, h0⟩, rfl⟩ (fun K hK => ?_)
            go_simp
            refine hK _ ?_
            clear hK K
            refine wpAnyY_one 4 rfl (by kernel_rfl) ?_
            go_wp2_with fail
            refine (HRF.out _ (S.out.ub.h.below h0) (S.out.ub.f.below h0)).mono ?_
            rintro e w2 ⟨hb2, ra, rc, rfl, ow2⟩
            have h2 : Below wr.heap.size wr w2 := h0.trans (hb2.mono h0.size)
            have RA := Lib.hid (owns_ints' ow2).2
            clear hb2 ow2
            go_wp2
            refine ⟨⟨⟨_, h2⟩, rfl⟩, ?_⟩
            refine wpAnyY_one 9 rfl (by kernel_rfl) ?_
            go_wp2_with fail
            refine (HHS.out _ _ _ RA.out).mono ?_
            rintro e w3 ⟨rfl, rfl⟩
            go_wp2
            refine ⟨⟨⟨_, h2⟩, rfl⟩, ?_⟩
            refine wpAnyY_one 13 rfl (by kernel_rfl) ?_
            go_wp2
            refine ⟨⟨⟨_, h2⟩, rfl⟩, ?_⟩
            refine wpAnyY_done (by kernel_rfl) ?_ _
            have S4 := Lib.hid (S.out.below h2)
            clear k0 k1 k2 k3 S RA
            go_wp2
            go_roundw
            case rel => exact ⟨f + 1, by omega, by go_num, S4.out⟩
            case measure => simp [intOf]; omega
end Go.Proofs.YtkbmnfijeknenaaGreatDoor
