/-
  The program's receivers of a call.
-/
import Derived.Test.YtkbmnfijeknenaaGreatDoorRB
import Derived.Test.YtkbmnfijeknenaaGreatDoorRC
import Derived.Test.YtkbmnfijeknenaaGreatDoorH0
import Derived.Test.YtkbmnfijeknenaaGreatDoorWF
namespace Go.Proofs.YtkbmnfijeknenaaGreatDoor
open Go.RowKit Go.Unit0 Go.AM

theorem IntsAt.grown {w w' : World} {a : Option Addr} {l : List Int} {row : Option Nat} (h : IntsAt w a l) (hg : w.grownBy w' row) (hne : ∀ b off, a = some ⟨b, off, none⟩ → some b ≠ row) : IntsAt w' a l := by
  intro k hk
  obtain ⟨b, off, ha, h0⟩ := h k hk
  exact ⟨b, off, ha, hg.cell h0 (hne b off ha)⟩
theorem IntsAt.put {κ : Type} [DecidableEq κ] {w w' : World} {a : Option Addr} {l : List Int} {g : Nat} (h : IntsAt w a l) {enc : κ → Value} {F : κ → Option Value} {n : Nat} (hm : MapF w g enc F n) (hg : w.grownBy w' (some g)) : IntsAt w' a l := by
  intro k hk
  obtain ⟨b, off, ha, h0⟩ := h k hk
  exact ⟨b, off, ha, hg.cell h0 (cell_mapF h0 hm)⟩
/-- a unit boxed, sites, numbers, a cache, numbers of one's own -/
structure RE (u : Unt) (ha : Option Addr) (hc : Nat) (fa : Option Addr) (fc : Nat) (L : List Sit) (sa : Option Addr) (I : List Int) (ia : Option Addr) (B2 gm : Nat) (p : Str → Bool) (F : Str → Option Value) (n : Nat) (out : List Int) (oa : Option Addr) (oc : Nat) (w wr : World) : Prop where
  ub : UB u ha hc fa fc w wr
  sa : SitsAt wr sa L
  iv : IntsAt wr ia I
  ca : CacheB wr gm p F n
  ow : wr.ownsRow B2 3 1 (.slice oa out.length oc) out.length (out.map intV)
  gg : w.heap.size < gm
  wb : w.heap.size < B2
  ib : ∀ b off, ia = some ⟨b, off, none⟩ → b < B2
  bb : B2 ≤ wr.heap.size
section
variable {u : Unt} {ha : Option Addr} {hc : Nat} {fa : Option Addr} {fc : Nat} {L : List Sit} {sa : Option Addr} {I : List Int} {ia : Option Addr} {B2 gm : Nat} {p : Str → Bool} {F : Str → Option Value} {n : Nat} {out : List Int} {oa : Option Addr} {oc : Nat} {w wr w' : World}
theorem RE.below (k : RE u ha hc fa fc L sa I ia B2 gm p F n out oa oc w wr) (hb : Below wr.heap.size wr w') : RE u ha hc fa fc L sa I ia B2 gm p F n out oa oc w w' :=
  ⟨k.ub.below hb, k.sa.below hb, k.iv.below hb, k.ca.below hb, owns_below k.ow hb, k.gg, k.wb, k.ib, Nat.le_trans k.bb hb.size⟩
theorem RE.grow {out' : List Int} {oa' : Option Addr} {oc' : Nat} (h : ClssAt w ha u.h) (f : FncsAt w fa u.fs) (hs : SitsAt w sa L) (k : RE u ha hc fa fc L sa I ia B2 gm p F n out oa oc w wr) (own : w'.ownsRow B2 3 1 (.slice oa' out'.length oc') out'.length (out'.map intV)) (hg : wr.grownBy w' (Value.slice oa out.length oc).ownBlock) : RE u ha hc fa fc L sa I ia B2 gm p F n out' oa' oc' w w' :=
  have hr : ∀ q, (Value.slice oa out.length oc).ownBlock = some q → B2 ≤ q := fun q hq => (k.ow.lt q hq).1
  have ub := k.ub.grow h f hg (fun q hq => Nat.lt_of_lt_of_le k.wb (hr q hq))
  ⟨ub, hs.below ub.hb, k.iv.grown hg (fun b off e e2 => by have h1 := k.ib b off e; have h2 := hr b e2.symm; omega), ⟨k.ca.1.grown hg (owns_mapF k.ow k.ca.1), k.ca.2⟩, own, k.gg, k.wb, k.ib, Nat.le_trans k.bb hg.size⟩
theorem RE.put {F' : Str → Option Value} {n' : Nat} (h : ClssAt w ha u.h) (f : FncsAt w fa u.fs) (hs : SitsAt w sa L) (k : RE u ha hc fa fc L sa I ia B2 gm p F n out oa oc w wr) (hc' : CacheB w' gm p F' n') (hg : wr.grownBy w' (some gm)) : RE u ha hc fa fc L sa I ia B2 gm p F' n' out oa oc w w' :=
  have ub := k.ub.grow h f hg (fun q hq => by cases hq; exact k.gg)
  ⟨ub, hs.below ub.hb, k.iv.put k.ca.1 hg, hc', owns_put k.ow k.ca.1 hg, k.gg, k.wb, k.ib, Nat.le_trans k.bb hg.size⟩
end
theorem filter_t {I : List Int} {Q : Int → Bool} {k : Nat} (hk : k < I.length) (e : Q I[k] = true) : (I.take (k + 1)).filter Q = (I.take k).filter Q ++ [I[k]] := by
  rw [List.take_succ_eq_append_getElem hk, List.filter_append]; simp [e]
theorem filter_f {I : List Int} {Q : Int → Bool} {k : Nat} (hk : k < I.length) (e : Q I[k] = false) : (I.take (k + 1)).filter Q = (I.take k).filter Q := by
  rw [List.take_succ_eq_append_getElem hk, List.filter_append]; simp [e]
set_option maxRecDepth 100000 in
set_option maxHeartbeats 16000000 in
theorem receiversP (u : Unt) (ha : Option Addr) (hc : Nat) (fa : Option Addr) (fc : Nat) (L : List Sit) (sa : Option Addr) (sc : Nat) (c m : Str) (g : Int) (w : World) (h : ClssAt w ha u.h) (hf : FncsAt w fa u.fs) (hs : SitsAt w sa L) (hb : BndU u) (hL : L.length ≤ 1000000) :
    Calls Tryz.prog 88 #[unV u ha hc fa fc, .slice sa L.length sc, .string c, .string m, .int .i64 g] w (IntsPost (rcvL u.h u.fs L c m g) w) := by
  have S00 := Lib.hid (UB.start (hc := hc) (fc := fc) h hf)
  have HZ : Hid ((w.alloc (unC u ha hc fa fc)).heap.size = w.heap.size + 1) := by show _ = _; simp
  have HM : Hid (ClssAt w ha u.h ∧ FncsAt w fa u.fs ∧ SitsAt w sa L) := ⟨h, hf, hs⟩
  have HIN : Hid (∀ (w1 : World), ClssAt w1 ha u.h → FncsAt w1 fa u.fs → SitsAt w1 sa L → Calls Tryz.prog 84 #[unV u ha hc fa fc, .slice sa L.length sc, .string c] w1 (IntsPost (instL u.h L c) w1)) := fun w1 h1 h2 h3 => instancesP u ha hc fa fc L sa sc c w1 h1 h2 h3 hb.h.l hL
  have HLK : Hid (∀ (s : Str) (w1 : World), ClssAt w1 ha u.h → Calls Tryz.prog 43 #[.agg #[.slice ha u.h.length hc], .string s, .string m] w1 (LookQ (lookP u.h s m) w1)) := fun s w1 h1 => lookupP u.h s m ha hc w1 h1 hb.h.l hb.h.m hb.h.p
  have HFN : Hid (∀ (x : Str) (w1 : World), FncsAt w1 fa u.fs → Calls Tryz.prog 49 #[unV u ha hc fa fc, .string x, .string m] w1 (Ret w1 (.int .i64 (fnI u.fs x m)))) := fun x w1 h1 => irFind u ha hc fa fc x m w1 h1 (by have := hb.l; omega)
  have HIL : Hid ((instL u.h L c).length ≤ L.length ∧ ∀ x ∈ instL u.h L c, ∃ j : Nat, j < L.length ∧ x = (j : Int)) := ⟨idxL_len _ _, fun x hx => by
    obtain ⟨j, hj, e, _⟩ := instL_mem.1 hx
    exact ⟨j, hj, e⟩⟩
  have HR : Hid (rcvL u.h u.fs L c m g = if g < 0 then [] else (instL u.h L c).filter (fun x => L[x.toNat]?.elim false (fun s => fndB u.h u.fs s.c m g))) := rfl
  have HFB : Hid (∀ s, fndB u.h u.fs s m g = match lookP u.h s m with | some (x, _) => fnI u.fs x m == g | none => false) := fun s => rfl
  clear h hf hs hb
  generalize rcvL u.h u.fs L c m g = R at *
  generalize instL u.h L c = I at *
  generalize hQ : (fun x : Int => L[x.toNat]?.elim false (fun s => fndB u.h u.fs s.c m g)) = Q at *
  generalize hp : (fun s => fndB u.h u.fs s m g) = p at *
  have HPP : Hid (∀ s, fndB u.h u.fs s m g = p s) := fun s => by rw [← hp]
  have HQQ : Hid (∀ (j : Nat) (hj : j < L.length), Q (j : Int) = p L[j].c) := fun j hj => by
    rw [← hQ, ← hp]
    simp [hj]
  clear hp hQ
  unfold unV at *
  go_enter Tryz.func88, Tryz.ntmps88
  go_upto_region 1 with (fail)
  generalize w.alloc _ = W at *
  by_cases hg0 : g < 0
  case pos =>
    have t1 := decide_eq_true hg0
    have HN : Hid (R = []) := by show _ = _; rw [HR.out, if_pos hg0]
    clear hg0
    go_wp2
    go_ret
    exact ⟨S00.out.hb, none, 0, by rw [HN.out]; rfl, by rw [HN.out]; exact World.ownsRow_nil _ _ _ _⟩
  have t1 := decide_eq_false hg0
  rw [if_neg hg0] at HR
  clear hg0
  go_upto_region 5 with (refine wpList_makeF rfl 114 rfl undMSB Value.string ?_; intro hmp)
  have hgm : w.heap.size < W.heap.size := by rw [HZ.out]; omega
  have hob := one_below W (.map #[] 0)
  have S01 := Lib.hid (S00.out.below hob)
  have MP := Lib.hid hmp
  have hW1 : w.heap.size < (W.alloc (.map #[] 0)).heap.size := Nat.lt_of_lt_of_le hgm hob.size
  clear S00 HZ hmp hob t1
  generalize W.heap.size = gm at *
  generalize W.alloc (.map #[] 0) = W1 at *
  obtain ⟨z0, z1, z2⟩ := S01.out.cells
  go_wp2_with fail
  refine (HIN.out _ S01.out.h S01.out.f (HM.out.2.2.below S01.out.hb)).mono ?_
  rintro e W2 ⟨hb2, ia, ic, rfl, ow2⟩
  have hI := (owns_ints' ow2).2
  have hib : ∀ b off, ia = some ⟨b, off, none⟩ → b < W2.heap.size := fun b off e => by
    subst e
    exact (ow2.lt b rfl).2
  have S02 := S01.out.below hb2
  have S0 : Hid (RE u ha hc fa fc L sa I ia W2.heap.size gm p (fun _ => none) 0 [] none 0 w W2) := ⟨S02, HM.out.2.2.below S02.hb, hI, ⟨MP.out.below hb2, fun s v e => (by cases e)⟩, World.ownsRow_nil _ _ _ _, hgm, Nat.lt_of_lt_of_le hW1 hb2.size, hib, Nat.le_refl _⟩
  have hil := HIL.out.1
  clear hb2 ow2 hI hib S02 S01 MP hgm hW1 z0 z1 z2 HIN
  generalize W2.heap.size = B2 at *
  go_wp2
  go_loopw [11, 29] (fun v i wr => ∃ (k : Nat) (F : Str → Option Value) (n : Nat) (out : List Int) (oa : Option Addr) (oc : Nat), k ≤ I.length ∧ out.length ≤ k ∧ v = .slice oa out.length oc ∧ i = .int .i64 k ∧ Hid (out = (I.take k).filter Q) ∧ Hid (RE u ha hc fa fc L sa I ia B2 gm p F n out oa oc w wr)) (fun _ i _ => I.length - (intOf i).toNat)
  case atStart => exact ⟨0, _, _, [], none, 0, Nat.zero_le _, Nat.zero_le _, rfl, rfl, (by show _ = _; simp), S0.out⟩
  case round =>
    clear S0
    obtain ⟨k, F, n, out, oa, oc, hk, hol, rfl, rfl, HI, S⟩ := hrel
    by_cases hlt : k < I.length
    case neg =>
      have HF : Hid (out = R) := by show _ = _; rw [HR.out, HI.out, List.take_of_length_le (by omega)]
      go_wp2
      go_ret
      exact ⟨S.out.ub.hb, oa, oc, by rw [← HF.out] <;> rfl, by rw [← HF.out]; exact owns_mono S.out.ow (Nat.le_of_lt S.out.wb)⟩
    obtain ⟨b, off, he, c0⟩ := S.out.iv k hlt
    subst he
    have HT := Lib.hid (@filter_t I Q k hlt)
    have HFF := Lib.hid (@filter_f I Q k hlt)
    obtain ⟨j, hj, ej⟩ := HIL.out.2 _ (List.getElem_mem hlt)
    generalize I[k] = x at *
    subst ej
    rw [HQQ.out j hj] at HT HFF
    obtain ⟨bs, os, he, -, -, m2⟩ := S.out.sa j hj
    subst he
    have HQ := Lib.hid (HLK.out L[j].c)
    have HPX := Lib.hid (HFB.out L[j].c)
    rw [HPP.out] at HPX
    generalize lookP u.h L[j].c m = R2 at *
    generalize L[j].c = xc at *
    cases hF : F xc with
    | some v =>
      have hv := S.out.ca.2 xc v hF
      subst hv
      have HV := Lib.hid hF
      clear hF HPX HQ
      cases hb : p xc
      case false =>
        have HN : Hid (out = (I.take (k + 1)).filter Q) := by show _ = _; rw [HFF.out hb]; exact HI.out
        rw [hb] at HV
        clear HT HFF HI hb
        go_wp2_with (at_lookup; refine wpList_lookF rfl _ _ _ _ rfl keyStr undMSB _ (zeroBool _) gm rfl S.out.ca.1 xc rfl ?_; rw [HV.out])
        go_roundw
        case rel => exact ⟨k + 1, F, n, out, oa, oc, by omega, by omega, rfl, by go_num, HN.out, S.out⟩
        case measure => simp [intOf]; omega
      case true =>
        have HN : Hid (out ++ [(j : Int)] = (I.take (k + 1)).filter Q) := by show _ = _; rw [HT.out hb, HI.out]
        rw [hb] at HV
        clear HT HFF HI hb
        have S1 := Lib.hid (S.out.below (one_below wr (.cells #[.int .i64 j] 3)))
        have hbs : B2 ≤ (wr.alloc (.cells #[.int .i64 j] 3)).heap.size := S1.out.bb
        have hoc : out.length ≤ 1000000 := by omega
        go_wp2_with (first | (at_lookup; refine wpList_lookF rfl _ _ _ _ rfl keyStr undMSB _ (zeroBool _) gm rfl S.out.ca.1 xc rfl ?_; rw [HV.out]) | (at_builtin; refine app_ints rfl _ _ rfl B2 _ out rfl S1.out.ow _ 1 [(j : Int)] rfl (ints_new _ _) hoc (by simp) hbs ?_; intro v7 W7 own7 hg7; obtain ⟨-, oa7, oc7, rfl, -, -⟩ := owns_ints own7))
        have S7 := Lib.hid (RE.grow HM.out.1 HM.out.2.1 HM.out.2.2 S1.out own7 hg7)
        have hlen : (out ++ [(j : Int)]).length = out.length + 1 := by simp
        go_roundw
        case rel => exact ⟨k + 1, F, n, out ++ [(j : Int)], oa7, oc7, by omega, by omega, (by first | rfl | simp), by go_num, HN.out, S7.out⟩
        case measure => simp [intOf]; omega
    | none =>
      have HV := Lib.hid hF
      clear hF
      go_upto_region 11 with (at_lookup; refine wpList_lookF rfl _ _ _ _ rfl keyStr undMSB _ (zeroBool _) gm rfl S.out.ca.1 xc rfl ?_; rw [HV.out])
      obtain ⟨z0, z1, z2⟩ := S.out.ub.cells
      go_wp2_with fail
      refine (HQ.out _ S.out.ub.h).mono ?_
      rintro e w3 ⟨hb3, hr⟩
      have S3 := Lib.hid (S.out.below hb3)
      clear S hb3 c0 m2 z0 z1 z2 HV HQ
      rcases hr with ⟨hR, rfl⟩ | ⟨y, gs, pa, pc, hR, rfl, -⟩
      · rw [hR] at HPX
        have HB : Hid (p xc = false) := HPX.out
        clear hR HPX
        go_upto_region 12 with (fail)
        have S4 := Lib.hid (S3.out.below (one_below w3 (.cells #[.string ⟨#[]⟩, .bool false, .slice none 0 0, .string ⟨#[]⟩] 79)))
        clear S3
        generalize w3.alloc _ = W4 at *
        go_upto_region 14 with (at_mapUpdate; refine wpList_mapF rfl _ _ _ _ rfl keyStr undMSB gm rfl S4.out.ca.1 xc rfl (.bool false) rfl ?_; intro w5 hm5 hg5 hs5)
        rw [← HB.out] at hm5
        have S5 := Lib.hid (RE.put HM.out.1 HM.out.2.1 HM.out.2.2 S4.out (CacheB.put S4.out.ca.2 hm5) hg5)
        have HN : Hid (out = (I.take (k + 1)).filter Q) := by show _ = _; rw [HFF.out HB.out]; exact HI.out
        clear hm5 hg5 hs5 S4 HB HT HFF HI
        go_wp2
        go_roundw
        case rel => exact ⟨k + 1, _, _, out, oa, oc, by omega, by omega, rfl, by go_num, HN.out, S5.out⟩
        case measure => simp [intOf]; omega
      · rw [hR] at HPX
        have HB : Hid (p xc = (fnI u.fs y m == g)) := HPX.out
        clear hR HPX
        go_upto_region 12 with (fail)
        have S4 := Lib.hid (S3.out.below (one_below w3 (.cells #[.string gs.name, .bool gs.stat, .slice pa gs.params.length pc, .string gs.result] 79)))
        clear S3
        generalize w3.alloc _ = W4 at *
        obtain ⟨z0, z1, z2⟩ := S4.out.ub.cells
        have HFY := Lib.hid (HFN.out y)
        go_upto_region 13 with (go_at_call 49; refine (HFY.out _ S4.out.ub.f).mono ?_; rintro e w5 ⟨rfl, hb5⟩)
        have S5 := Lib.hid (S4.out.below hb5)
        clear S4 hb5 z0 z1 z2 HFY
        rw [← HB.out]
        clear HB
        go_upto_region 14 with (at_mapUpdate; refine wpList_mapF rfl _ _ _ _ rfl keyStr undMSB gm rfl S5.out.ca.1 xc rfl (.bool (p xc)) rfl ?_; intro w6 hm6 hg6 hs6)
        have S6 := Lib.hid (RE.put HM.out.1 HM.out.2.1 HM.out.2.2 S5.out (CacheB.put S5.out.ca.2 hm6) hg6)
        clear hm6 hg6 hs6 S5
        cases hb : p xc
        case false =>
          have HN : Hid (out = (I.take (k + 1)).filter Q) := by show _ = _; rw [HFF.out hb]; exact HI.out
          clear HT HFF HI hb
          go_wp2
          go_roundw
          case rel => exact ⟨k + 1, _, _, out, oa, oc, by omega, by omega, rfl, by go_num, HN.out, S6.out⟩
          case measure => simp [intOf]; omega
        case true =>
          have HN : Hid (out ++ [(j : Int)] = (I.take (k + 1)).filter Q) := by show _ = _; rw [HT.out hb, HI.out]
          clear HT HFF HI hb
          have S1 := Lib.hid (S6.out.below (one_below w6 (.cells #[.int .i64 j] 3)))
          have hbs : B2 ≤ (w6.alloc (.cells #[.int .i64 j] 3)).heap.size := S1.out.bb
          have hoc : out.length ≤ 1000000 := by omega
          go_wp2_with ((at_builtin; refine app_ints rfl _ _ rfl B2 _ out rfl S1.out.ow _ 1 [(j : Int)] rfl (ints_new _ _) hoc (by simp) hbs ?_; intro v7 W7 own7 hg7; obtain ⟨-, oa7, oc7, rfl, -, -⟩ := owns_ints own7))
          have S7 := Lib.hid (RE.grow HM.out.1 HM.out.2.1 HM.out.2.2 S1.out own7 hg7)
          have hlen : (out ++ [(j : Int)]).length = out.length + 1 := by simp
          go_roundw
          case rel => exact ⟨k + 1, _, _, out ++ [(j : Int)], oa7, oc7, by omega, by omega, (by first | rfl | simp), by go_num, HN.out, S7.out⟩
          case measure => simp [intOf]; omega
set_option maxRecDepth 100000 in
set_option maxHeartbeats 8000000 in
theorem instancesU (u : Unt) (ha : Option Addr) (hc : Nat) (fa : Option Addr) (fc : Nat) (c : Str) (w : World) (h : ClssAt w ha u.h) (hf : FncsAt w fa u.fs) (hb : FitOk u 150) :
    Calls Tryz.prog 42 #[unV u ha hc fa fc, .string c] w (IntsPost (instL u.h (sitL u) c) w) := by
  have S := Lib.hid (UB.start (hc := hc) (fc := fc) h hf)
  have HSL : Hid ((sitL u).length ≤ 1000000) := by
    have h1 := sitU_len (fs := u.fs) (Nat.le_refl u.fs.length)
    rw [List.take_length] at h1
    have h2 := hb.t
    show (sitU u.fs u.fs.length).length ≤ _
    omega
  have HS : Hid (∀ w1, ClssAt w1 ha u.h → FncsAt w1 fa u.fs → Calls Tryz.prog 41 #[unV u ha hc fa fc] w1 (SitsPost (sitL u) w1)) := fun w1 h1 h2 => sitesP u ha hc fa fc w1 h1 h2 hb
  have HI : Hid (∀ sa sc w1, ClssAt w1 ha u.h → FncsAt w1 fa u.fs → SitsAt w1 sa (sitL u) → Calls Tryz.prog 84 #[unV u ha hc fa fc, .slice sa (sitL u).length sc, .string c] w1 (IntsPost (instL u.h (sitL u) c) w1)) := fun sa sc w1 h1 h2 h3 => instancesP u ha hc fa fc (sitL u) sa sc c w1 h1 h2 h3 (fitOk_bnd hb (by omega)).h.l HSL.out
  clear h hf hb
  generalize instL u.h (sitL u) c = R at *
  generalize sitL u = L at *
  unfold unV at *
  go_enter Tryz.func42, Tryz.ntmps42
  go_upto_region 1 with (fail)
  generalize w.alloc _ = W at *
  have k0 : ∀ o : WB W, o.u.cell? ⟨w.heap.size, 0, none⟩ = some (.slice ha u.h.length hc) := fun o => (S.out.below o.h).cells.1
  have k1 : ∀ o : WB W, o.u.cell? ⟨w.heap.size, 1, none⟩ = some (.slice fa u.fs.length fc) := fun o => (S.out.below o.h).cells.2.1
  have k2 : ∀ o : WB W, o.u.cell? ⟨w.heap.size, 2, none⟩ = some (.int .i64 u.main) := fun o => (S.out.below o.h).cells.2.2
  have hne0 : Nonempty (WB W) := ⟨⟨W, Below.refl _ _⟩⟩
  have h0 : Below W.heap.size W W.drew := (Below.refl _ _).drew
  refine wp_region_Y (fun w' => ∃ o : WB W, w' = o.u) (by kernel_rfl) ?_
  change wpAnyY _ _ _ _ _ _ _ _ W.drew
  generalize W.drew = W0 at *
  refine wpAnyY_take 0 rfl (by kernel_rfl) (fun _ _ _ _ h => h) ⟨⟨_, h0⟩, rfl⟩ (fun K hK => ?_)
  go_simp
  refine hK _ ?_
  clear hK K
  refine wpAnyY_take 1 rfl (by kernel_rfl) (fun _ _ _ _ h => h) ⟨⟨_, h0⟩, rfl⟩ (fun K hK => ?_)
  go_simp
  refine hK _ ?_
  clear hK K
  refine wpAnyY_take 3 rfl (by kernel_rfl) (fun _ _ _ _ h => h) ⟨⟨_, h0⟩, rfl⟩ (fun K hK => ?_)
  go_simp
  refine hK _ ?_
  clear hK K
  refine wpAnyY_one 2 rfl (by kernel_rfl) ?_
  go_wp2_with fail
  refine (HS.out _ (S.out.h.below h0) (S.out.f.below h0)).mono ?_
  rintro e W1 ⟨hb1, sa, sc, rfl, ow1⟩
  have h1 : Below W.heap.size W W1 := h0.trans (hb1.mono h0.size)
  have SA := Lib.hid (ownsS' ow1).2
  clear hb1 ow1
  go_wp2
  refine ⟨⟨⟨_, h1⟩, rfl⟩, ?_⟩
  refine wpAnyY_one 4 rfl (by kernel_rfl) ?_
  go_wp2_with fail
  refine (HI.out _ _ _ (S.out.h.below h1) (S.out.f.below h1) SA.out).mono ?_
  rintro e W2 ⟨hb2, ia, ic, rfl, ow2⟩
  have h2 : Below W.heap.size W W2 := h1.trans (hb2.mono h1.size)
  have OW := Lib.hid (owns_mono ow2 (Nat.le_trans S.out.hb.size h1.size))
  clear hb2 ow2
  go_wp2
  refine ⟨⟨⟨_, h2⟩, rfl⟩, ?_⟩
  refine wpAnyY_one 5 rfl (by kernel_rfl) ?_
  go_wp2
  refine ⟨⟨⟨_, h2⟩, rfl⟩, ?_⟩
  refine wpAnyY_done (by kernel_rfl) ?_ _
  have HB := Lib.hid (S.out.hb.trans (h2.mono S.out.hb.size))
  go_wp2
  go_ret
  exact ⟨HB.out, ia, ic, rfl, OW.out⟩
set_option maxRecDepth 100000 in
set_option maxHeartbeats 8000000 in
theorem receiversU (u : Unt) (ha : Option Addr) (hc : Nat) (fa : Option Addr) (fc : Nat) (c m : Str) (g : Int) (w : World) (h : ClssAt w ha u.h) (hf : FncsAt w fa u.fs) (hb : FitOk u 150) :
    Calls Tryz.prog 45 #[unV u ha hc fa fc, .string c, .string m, .int .i64 g] w (IntsPost (rcvL u.h u.fs (sitL u) c m g) w) := by
  have S := Lib.hid (UB.start (hc := hc) (fc := fc) h hf)
  have HSL : Hid ((sitL u).length ≤ 1000000) := by
    have h1 := sitU_len (fs := u.fs) (Nat.le_refl u.fs.length)
    rw [List.take_length] at h1
    have h2 := hb.t
    show (sitU u.fs u.fs.length).length ≤ _
    omega
  have HS : Hid (∀ w1, ClssAt w1 ha u.h → FncsAt w1 fa u.fs → Calls Tryz.prog 41 #[unV u ha hc fa fc] w1 (SitsPost (sitL u) w1)) := fun w1 h1 h2 => sitesP u ha hc fa fc w1 h1 h2 hb
  have HI : Hid (∀ sa sc w1, ClssAt w1 ha u.h → FncsAt w1 fa u.fs → SitsAt w1 sa (sitL u) → Calls Tryz.prog 88 #[unV u ha hc fa fc, .slice sa (sitL u).length sc, .string c, .string m, .int .i64 g] w1 (IntsPost (rcvL u.h u.fs (sitL u) c m g) w1)) := fun sa sc w1 h1 h2 h3 => receiversP u ha hc fa fc (sitL u) sa sc c m g w1 h1 h2 h3 (fitOk_bnd hb (by omega)) HSL.out
  clear h hf hb
  generalize rcvL u.h u.fs (sitL u) c m g = R at *
  generalize sitL u = L at *
  unfold unV at *
  go_enter Tryz.func45, Tryz.ntmps45
  go_upto_region 1 with (fail)
  generalize w.alloc _ = W at *
  have k0 : ∀ o : WB W, o.u.cell? ⟨w.heap.size, 0, none⟩ = some (.slice ha u.h.length hc) := fun o => (S.out.below o.h).cells.1
  have k1 : ∀ o : WB W, o.u.cell? ⟨w.heap.size, 1, none⟩ = some (.slice fa u.fs.length fc) := fun o => (S.out.below o.h).cells.2.1
  have k2 : ∀ o : WB W, o.u.cell? ⟨w.heap.size, 2, none⟩ = some (.int .i64 u.main) := fun o => (S.out.below o.h).cells.2.2
  have hne0 : Nonempty (WB W) := ⟨⟨W, Below.refl _ _⟩⟩
  have h0 : Below W.heap.size W W.drew := (Below.refl _ _).drew
  refine wp_region_Y (fun w' => ∃ o : WB W, w' = o.u) (by kernel_rfl) ?_
  change wpAnyY _ _ _ _ _ _ _ _ W.drew
  generalize W.drew = W0 at *
  refine wpAnyY_take 0 rfl (by kernel_rfl) (fun _ _ _ _ h => h) ⟨⟨_, h0⟩, rfl⟩ (fun K hK => ?_)
  go_simp
  refine hK _ ?_
  clear hK K
  refine wpAnyY_take 1 rfl (by kernel_rfl) (fun _ _ _ _ h => h) ⟨⟨_, h0⟩, rfl⟩ (fun K hK => ?_)
  go_simp
  refine hK _ ?_
  clear hK K
  refine wpAnyY_take 3 rfl (by kernel_rfl) (fun _ _ _ _ h => h) ⟨⟨_, h0⟩, rfl⟩ (fun K hK => ?_)
  go_simp
  refine hK _ ?_
  clear hK K
  refine wpAnyY_take 4 rfl (by kernel_rfl) (fun _ _ _ _ h => h) ⟨⟨_, h0⟩, rfl⟩ (fun K hK => ?_)
  go_simp
  refine hK _ ?_
  clear hK K
  refine wpAnyY_take 5 rfl (by kernel_rfl) (fun _ _ _ _ h => h) ⟨⟨_, h0⟩, rfl⟩ (fun K hK => ?_)
  go_simp
  refine hK _ ?_
  clear hK K
  refine wpAnyY_one 2 rfl (by kernel_rfl) ?_
  go_wp2_with fail
  refine (HS.out _ (S.out.h.below h0) (S.out.f.below h0)).mono ?_
  rintro e W1 ⟨hb1, sa, sc, rfl, ow1⟩
  have h1 : Below W.heap.size W W1 := h0.trans (hb1.mono h0.size)
  have SA := Lib.hid (ownsS' ow1).2
  clear hb1 ow1
  go_wp2
  refine ⟨⟨⟨_, h1⟩, rfl⟩, ?_⟩
  refine wpAnyY_one 6 rfl (by kernel_rfl) ?_
  go_wp2_with fail
  refine (HI.out _ _ _ (S.out.h.below h1) (S.out.f.below h1) SA.out).mono ?_
  rintro e W2 ⟨hb2, ia, ic, rfl, ow2⟩
  have h2 : Below W.heap.size W W2 := h1.trans (hb2.mono h1.size)
  have OW := Lib.hid (owns_mono ow2 (Nat.le_trans S.out.hb.size h1.size))
  clear hb2 ow2
  go_wp2
  refine ⟨⟨⟨_, h2⟩, rfl⟩, ?_⟩
  refine wpAnyY_one 7 rfl (by kernel_rfl) ?_
  go_wp2
  refine ⟨⟨⟨_, h2⟩, rfl⟩, ?_⟩
  refine wpAnyY_done (by kernel_rfl) ?_ _
  have HB := Lib.hid (S.out.hb.trans (h2.mono S.out.hb.size))
  go_wp2
  go_ret
  exact ⟨HB.out, ia, ic, rfl, OW.out⟩
end Go.Proofs.YtkbmnfijeknenaaGreatDoor
