/-
  The reference's targets of a call.
  Call edges of one's own, beside a unit boxed.
  The reference's call edges by the hierarchy.
-/
import Derived.Test.YtkbmnfijeknenaaGreatDoorS3
import Derived.Test.YtkbmnfijeknenaaGreatDoorH3
import Derived.Test.YtkbmnfijeknenaaGreatDoorG6
import Derived.Test.YtkbmnfijeknenaaGreatDoorS4
import Derived.Test.YtkbmnfijeknenaaGreatDoorWF
import Derived.Test.YtkbmnfijeknenaaGreatDoorH0
namespace Go.Proofs.YtkbmnfijeknenaaGreatDoor
open Go.RowKit Go.Unit0 Go.AM

theorem cell10 {w wr : World} {b off : Nat} {vs : Nat → Value} (hb : Below w.heap.size w wr) (h : ∀ q, q < 10 → w.cell? ⟨b, off + q, none⟩ = some (vs q)) : ∀ q, q < 10 → wr.cell? ⟨b, off + q, none⟩ = some (vs q) := fun q hq => cell_below hb (h q hq)
set_option maxRecDepth 100000 in
set_option maxHeartbeats 8000000 in
theorem refTargets (u : Unt) (ha : Option Addr) (hc : Nat) (fa : Option Addr) (fc : Nat) (f i : Int) (w : World) (h : ClssAt w ha u.h) (hf : FncsAt w fa u.fs) (hb : BndU u) (hl : u.h.length ≤ 10000) :
    Calls Tryz.prog 15 #[unV u ha hc fa fc, .int .i64 f, .int .i64 i] w (SetPost (trgS u f i) w) := by
  have S0 := Lib.hid (UB.start (hc := hc) (fc := fc) h hf)
  have HCA : Hid (∀ (x : Ins) (ga : Option Addr) (gc : Nat) (g : Int) (w1 : World), (x.op = 9 ∨ x.op = 10) → ClssAt w1 ha u.h → FncsAt w1 fa u.fs → Calls Tryz.prog 53 #[unV u ha hc fa fc, inV x ga gc, .int .i64 g] w1 (Ret w1 (.bool (decB (callS u.h u.fs x g))))) := fun x ga gc g w1 hx h1 h2 => canR u ha hc fa fc x ga gc g w1 h1 h2 hb hl hx
  have hfl := hb.l
  clear h hf hb
  unfold unV at *
  go_enter Tryz.func15, Tryz.ntmps15
  go_upto_region 1 with (fail)
  generalize w.alloc _ = W at *
  obtain ⟨z0, z1, z2⟩ := S0.out.cells
  by_cases g1 : f < 0
  case pos =>
    have HN : Hid (∀ x, ¬ trgS u f i x) := trgS_out (fun j k hj hk e => by have := e.1; omega)
    have t1 := decide_eq_true g1
    clear g1
    go_wp2
    go_ret
    exact ⟨S0.out.hb, [], none, 0, rfl, .nil, fun x => ⟨fun h => (by cases h), fun k => absurd k (HN.out x)⟩, World.ownsRow_nil _ _ _ _⟩
  have t1 := decide_eq_false g1
  by_cases g2 : (u.fs.length : Int) ≤ f
  case pos =>
    have HN : Hid (∀ x, ¬ trgS u f i x) := trgS_out (fun j k hj hk e => by have := e.1; omega)
    have t2 := decide_eq_true g2
    clear g1 g2
    go_wp2
    go_ret
    exact ⟨S0.out.hb, [], none, 0, rfl, .nil, fun x => ⟨fun h => (by cases h), fun k => absurd k (HN.out x)⟩, World.ownsRow_nil _ _ _ _⟩
  have t2 := decide_eq_false g2
  obtain ⟨j, rfl⟩ : ∃ j : Nat, f = j := ⟨f.toNat, by omega⟩
  have hj : j < u.fs.length := by omega
  by_cases g3 : i < 0
  case pos =>
    have HN : Hid (∀ x, ¬ trgS u (j : Int) i x) := trgS_out (fun j k hj hk e => by have := e.2; omega)
    have t3 := decide_eq_true g3
    clear g1 g2 g3
    go_wp2
    go_ret
    exact ⟨S0.out.hb, [], none, 0, rfl, .nil, fun x => ⟨fun h => (by cases h), fun k => absurd k (HN.out x)⟩, World.ownsRow_nil _ _ _ _⟩
  have t3 := decide_eq_false g3
  obtain ⟨b, off, va, vc, ca, cc, he, -, -, -, -, -, -, m6, -, hcode⟩ := S0.out.f j hj
  subst he
  by_cases g4 : (u.fs[j].code.length : Int) ≤ i
  case pos =>
    have HN : Hid (∀ x, ¬ trgS u (j : Int) i x) := trgS_out (fun j' k hj' hk e => by
      have e1 : j = j' := by have := e.1; omega
      subst e1
      have := e.2
      omega)
    have t4 := decide_eq_true g4
    clear g1 g2 g3 g4 hcode
    generalize u.fs[j].code.length = cl at *
    go_wp2
    go_ret
    exact ⟨S0.out.hb, [], none, 0, rfl, .nil, fun x => ⟨fun h => (by cases h), fun k => absurd k (HN.out x)⟩, World.ownsRow_nil _ _ _ _⟩
  have t4 := decide_eq_false g4
  obtain ⟨k, rfl⟩ : ∃ k : Nat, i = k := ⟨i.toNat, by omega⟩
  have hk : k < u.fs[j].code.length := by omega
  clear g1 g2 g3 g4
  have HTA := Lib.hid (trgS_at hj hk)
  obtain ⟨b2, off2, ga, gc, he, m0, m1, m2, m3, m4, m5, m6b, m7, m8, m9, -⟩ := hcode k hk
  subst he
  generalize u.fs[j].code[k] = x at *
  generalize u.fs[j].code.length = cl at *
  have HIC : Hid (∀ w1, Calls Tryz.prog 52 #[.agg #[.int .i64 x.op, .int .i64 x.dst, .int .i64 x.a, .int .i64 x.b, .int .i64 x.n, .string x.cls, .string x.name, .slice ga x.args.length gc, .int .i64 x.goto, .int .i64 x.catch_]] w1 (Ret w1 (.bool (x.op == 9 || x.op == 10)))) := fun w1 => isCallR x ga gc w1
  by_cases hx : x.op = 9 ∨ x.op = 10
  case neg =>
    have HN : Hid (∀ z, ¬ trgS u (j : Int) (k : Int) z) := fun z hz => by
      rcases ((HTA.out z).1 hz).2 with ⟨e, _⟩ | ⟨e, _⟩
      · exact hx (.inr e)
      · exact hx (.inl e)
    have e1 : (x.op == 9 || x.op == 10) = false := by
      simp only [Bool.or_eq_false_iff, beq_eq_false_iff_ne]
      exact ⟨fun e => hx (.inl e), fun e => hx (.inr e)⟩
    rw [e1] at HIC
    clear HTA hx e1
    go_wp2_with (go_at_call 52; refine (HIC.out _).mono ?_; rintro e w3 ⟨rfl, hb3⟩)
    go_ret
    exact ⟨S0.out.hb.trans (hb3.mono S0.out.hb.size), [], none, 0, rfl, .nil, fun x => ⟨fun h => (by cases h), fun k => absurd k (HN.out x)⟩, World.ownsRow_nil _ _ _ _⟩
  case pos =>
    have e1 : (x.op == 9 || x.op == 10) = true := by
      simp only [Bool.or_eq_true, beq_iff_eq]
      exact hx
    rw [e1] at HIC
    have HX := Lib.hid hx
    clear hx e1
    have d1 : decide (u.fs.length ≤ j) = false := decide_eq_false (by omega)
    have d2 : decide (cl ≤ k) = false := decide_eq_false (by omega)
    go_upto_region 4 with (go_at_call 52; refine (HIC.out _).mono ?_; rintro e w3 ⟨rfl, hb3⟩)
    have S1 := Lib.hid (S0.out.below hb3)
    replace m0 := cell_below hb3 m0
    replace m1 := cell_below hb3 m1
    replace m2 := cell_below hb3 m2
    replace m3 := cell_below hb3 m3
    replace m4 := cell_below hb3 m4
    replace m5 := cell_below hb3 m5
    replace m6b := cell_below hb3 m6b
    replace m7 := cell_below hb3 m7
    replace m8 := cell_below hb3 m8
    replace m9 := cell_below hb3 m9
    replace m6 := cell_below hb3 m6
    have MC := Lib.hid (And.intro m0 (And.intro m1 (And.intro m2 (And.intro m3 (And.intro m4 (And.intro m5 (And.intro m6b (And.intro m7 (And.intro m8 (And.intro m9 m6))))))))))
    clear hb3 S0 z0 z1 z2 t1 t2 t3 t4 HIC m0 m1 m2 m3 m4 m5 m6 m6b m7 m8 m9
    generalize w3 = W3 at *
    have HCX := Lib.hid (fun g w1 => HCA.out x ga gc g w1 HX.out)
    unfold inV at HCX
    generalize hP : callS u.h u.fs x = P at *
    have HB3 := Lib.hid S1.out.hb
    go_wp2
    go_loopw [7, 8] (fun v i wr => ∃ (q : Nat) (out : List Int) (oa : Option Addr) (oc : Nat), q ≤ u.fs.length ∧ out.length ≤ q ∧ v = .slice oa out.length oc ∧ i = .int .i64 q ∧ Hid (out.Pairwise (· < ·)) ∧ Hid (∀ z, z ∈ out ↔ 0 ≤ z ∧ z < (q : Int) ∧ P z) ∧ Hid (wr.ownsRow W3.heap.size 3 1 (.slice oa out.length oc) out.length (out.map intV)) ∧ Hid (Below W3.heap.size W3 wr)) (fun _ i _ => u.fs.length - (intOf i).toNat)
    case atStart => exact ⟨0, [], none, 0, Nat.zero_le _, Nat.zero_le _, rfl, rfl, .nil, (fun z => ⟨fun h => (by cases h), fun h => absurd h.2.1 (by have := h.1; omega)⟩), World.ownsRow_nil _ _ _ _, Below.refl _ _⟩
    case round =>
      obtain ⟨q, out, oa, oc, hq, hol, rfl, rfl, HPW, HI, OW, HB⟩ := hrel
      obtain ⟨z0, z1, z2⟩ := (S1.out.below HB.out).cells
      by_cases hlt : q < u.fs.length
      case neg =>
        have HS : Hid (∀ z, z ∈ out ↔ trgS u (j : Int) (k : Int) z) := fun z => by
          rw [HI.out, HTA.out]
          constructor
          · rintro ⟨h0, _, hp⟩; exact ⟨h0, hp⟩
          · rintro ⟨h0, hp⟩
            refine ⟨h0, ?_, hp⟩
            rw [← hP] at hp
            have := callS_lt hp
            omega
        go_wp2
        go_ret
        exact ⟨HB3.out.trans (HB.out.mono HB3.out.size), out, oa, oc, rfl, HPW.out, HS.out, owns_mono OW.out HB3.out.size⟩
      obtain ⟨m0, m1, m2, m3, m4, m5, m6b, m7, m8, m9, m6⟩ := MC.out
      replace m0 := cell_below HB.out m0
      replace m1 := cell_below HB.out m1
      replace m2 := cell_below HB.out m2
      replace m3 := cell_below HB.out m3
      replace m4 := cell_below HB.out m4
      replace m5 := cell_below HB.out m5
      replace m6b := cell_below HB.out m6b
      replace m7 := cell_below HB.out m7
      replace m8 := cell_below HB.out m8
      replace m9 := cell_below HB.out m9
      replace m6 := cell_below HB.out m6
      have hne : Nonempty (WB wr) := ⟨⟨wr, Below.refl _ _⟩⟩
      have k0 : ∀ o : WB wr, o.u.cell? ⟨w.heap.size, 0, none⟩ = some (.slice ha u.h.length hc) := fun o => cell_below o.h z0
      have k1 : ∀ o : WB wr, o.u.cell? ⟨w.heap.size, 1, none⟩ = some (.slice (some ⟨b, off, none⟩) u.fs.length fc) := fun o => cell_below o.h z1
      have k2 : ∀ o : WB wr, o.u.cell? ⟨w.heap.size, 2, none⟩ = some (.int .i64 u.main) := fun o => cell_below o.h z2
      have k3 : ∀ o : WB wr, o.u.cell? ⟨b, off + j * 7 + 6, none⟩ = some (.slice (some ⟨b2, off2, none⟩) cl cc) := fun o => cell_below o.h m6
      have n0 : ∀ o : WB wr, o.u.cell? ⟨b2, off2 + k * 10, none⟩ = some (.int .i64 x.op) := fun o => cell_below o.h m0
      have n1 : ∀ o : WB wr, o.u.cell? ⟨b2, off2 + k * 10 + 1, none⟩ = some (.int .i64 x.dst) := fun o => cell_below o.h m1
      have n2 : ∀ o : WB wr, o.u.cell? ⟨b2, off2 + k * 10 + 2, none⟩ = some (.int .i64 x.a) := fun o => cell_below o.h m2
      have n3 : ∀ o : WB wr, o.u.cell? ⟨b2, off2 + k * 10 + 3, none⟩ = some (.int .i64 x.b) := fun o => cell_below o.h m3
      have n4 : ∀ o : WB wr, o.u.cell? ⟨b2, off2 + k * 10 + 4, none⟩ = some (.int .i64 x.n) := fun o => cell_below o.h m4
      have n5 : ∀ o : WB wr, o.u.cell? ⟨b2, off2 + k * 10 + 5, none⟩ = some (.string x.cls) := fun o => cell_below o.h m5
      have n6 : ∀ o : WB wr, o.u.cell? ⟨b2, off2 + k * 10 + 6, none⟩ = some (.string x.name) := fun o => cell_below o.h m6b
      have n7 : ∀ o : WB wr, o.u.cell? ⟨b2, off2 + k * 10 + 7, none⟩ = some (.slice ga x.args.length gc) := fun o => cell_below o.h m7
      have n8 : ∀ o : WB wr, o.u.cell? ⟨b2, off2 + k * 10 + 8, none⟩ = some (.int .i64 x.goto) := fun o => cell_below o.h m8
      have n9 : ∀ o : WB wr, o.u.cell? ⟨b2, off2 + k * 10 + 9, none⟩ = some (.int .i64 x.catch_) := fun o => cell_below o.h m9
      have HCQ := Lib.hid (HCX.out (q : Int))
      have SR := Lib.hid (S1.out.below HB.out)
      clear m0 m1 m2 m3 m4 m5 m6 m6b m7 m8 m9 z0 z1 z2
      have HQT : Hid (P (q : Int) → ∀ z, z ∈ out ++ [(q : Int)] ↔ 0 ≤ z ∧ z < ((q + 1 : Nat) : Int) ∧ P z) := fun hp z => by
        rw [List.mem_append, List.mem_singleton, HI.out]
        constructor
        · rintro (⟨h0, h1, h2⟩ | rfl)
          · exact ⟨h0, by omega, h2⟩
          · exact ⟨by omega, by omega, hp⟩
        · rintro ⟨h0, h1, h2⟩
          by_cases e : z < (q : Int)
          · exact .inl ⟨h0, e, h2⟩
          · exact .inr (by omega)
      have HQF : Hid (¬ P (q : Int) → ∀ z, z ∈ out ↔ 0 ≤ z ∧ z < ((q + 1 : Nat) : Int) ∧ P z) := fun hp z => by
        rw [HI.out]
        constructor
        · rintro ⟨h0, h1, h2⟩; exact ⟨h0, by omega, h2⟩
        · rintro ⟨h0, h1, h2⟩
          refine ⟨h0, ?_, h2⟩
          by_cases e : z = (q : Int)
          · rw [e] at h2; exact absurd h2 hp
          · omega
      have HPN : Hid ((out ++ [(q : Int)]).Pairwise (· < ·)) := by
        show List.Pairwise _ _
        rw [List.pairwise_append]
        refine ⟨HPW.out, by simp, fun a ha b hb => ?_⟩
        rw [List.mem_singleton.1 hb]
        exact ((HI.out a).1 ha).2.1
      have HDB : Hid (decB (P (q : Int)) = true → P (q : Int)) := decB_iff.1
      have HDN : Hid (decB (P (q : Int)) = false → ¬ P (q : Int)) := fun e hp => by rw [decB_t hp] at e; cases e
      clear HI
      generalize decB (P (q : Int)) = bb at *
      obtain ⟨z0, z1, z2⟩ := SR.out.cells
      go_upto_region 7 with (fail)
      clear z0 z1 z2
      refine wp_region_WB wr (by kernel_rfl) ?_
      repeat (go_big_quiet_step ((rename_i o; exact (HCQ.out _ (SR.out.below o.h).h (SR.out.below o.h).f).mono (fun _ _ h => Ret.inB h))))
      refine wpQuiet_nil ?_
      intro _ hw'
      obtain ⟨o, rfl⟩ := hw'
      have HB2 := Lib.hid (HB.out.trans (o.h.mono HB.out.size))
      have OW2 := Lib.hid (owns_below OW.out o.h)
      clear k0 k1 k2 k3 n0 n1 n2 n3 n4 n5 n6 n7 n8 n9 HCQ SR HB OW hne
      generalize o.u = W4 at *
      cases bb
      case false =>
        have HN := Lib.hid (HQF.out (HDN.out rfl))
        clear HQT HQF HDB HDN HPN
        go_wp2
        go_roundw
        case rel => exact ⟨q + 1, out, oa, oc, by omega, by omega, rfl, by go_num, HPW.out, HN.out, OW2.out, HB2.out⟩
        case measure => simp [intOf]; omega
      case true =>
        have HN := Lib.hid (HQT.out (HDB.out rfl))
        clear HQT HQF HDB HDN HPW
        have O1 := Lib.hid (owns_below OW2.out (one_below W4 (.cells #[.int .i64 q] 3)))
        have hb1 : Below W3.heap.size W3 (W4.alloc (.cells #[.int .i64 q] 3)) := HB2.out.trans ((one_below ..).mono HB2.out.size)
        have hbs := hb1.size
        have hoc : out.length ≤ 1000000 := by omega
        go_wp2_with (at_builtin; refine app_ints rfl _ _ rfl W3.heap.size _ out rfl O1.out _ 1 [(q : Int)] rfl (ints_new _ _) hoc (by simp) hbs ?_; intro v7 W7 own7 hg7; obtain ⟨-, oa7, oc7, rfl, -, -⟩ := owns_ints own7)
        have HB7 := Lib.hid (hb1.grown hg7 hbs (fun q hq => (O1.out.lt q hq).1))
        have OW7 := Lib.hid own7
        clear hb1 hbs hg7 own7 O1
        go_roundw
        case rel => exact ⟨q + 1, out ++ [(q : Int)], oa7, oc7, by omega, by simp; omega, (by first | rfl | simp), by go_num, HPN.out, HN.out, OW7.out, HB7.out⟩
        case measure => simp [intOf]; omega
end Go.Proofs.YtkbmnfijeknenaaGreatDoor
namespace Go.Proofs.YtkbmnfijeknenaaGreatDoor
open Go.RowKit Go.Unit0 Go.AM

def CallsPost (L : List Cal) (w : World) (e : Ending) (w' : World) : Prop :=
  Below w.heap.size w w' ∧ ∃ a c, e = .returned (.slice a L.length c) ∧ w'.ownsRow w.heap.size 51 3 (.slice a L.length c) L.length (flatC L)
structure CE (u : Unt) (ha : Option Addr) (hc : Nat) (fa : Option Addr) (fc : Nat) (out : List Cal) (oa : Option Addr) (oc : Nat) (w wr : World) : Prop where
  ub : UB u ha hc fa fc w wr
  ow : wr.ownsRow (w.heap.size + 1) 51 3 (.slice oa out.length oc) out.length (flatC out)
section
variable {u : Unt} {ha : Option Addr} {hc : Nat} {fa : Option Addr} {fc : Nat} {out : List Cal} {oa : Option Addr} {oc : Nat} {w wr w' : World}
theorem CE.below (k : CE u ha hc fa fc out oa oc w wr) (hb : Below wr.heap.size wr w') : CE u ha hc fa fc out oa oc w w' := ⟨k.ub.below hb, owns_below k.ow hb⟩
theorem CE.grow {out' : List Cal} {oa' : Option Addr} {oc' : Nat} (h : ClssAt w ha u.h) (f : FncsAt w fa u.fs) (k : CE u ha hc fa fc out oa oc w wr) (own : w'.ownsRow (w.heap.size + 1) 51 3 (.slice oa' out'.length oc') out'.length (flatC out')) (hg : wr.grownBy w' (Value.slice oa out.length oc).ownBlock) : CE u ha hc fa fc out' oa' oc' w w' :=
  ⟨k.ub.grow h f hg (fun q hq => by have := (k.ow.lt q hq).1; omega), own⟩
end
end Go.Proofs.YtkbmnfijeknenaaGreatDoor
namespace Go.Proofs.YtkbmnfijeknenaaGreatDoor
open Go.RowKit Go.Unit0 Go.AM

theorem trg_take {u : Unt} {f i k : Nat} {L : List Int} (hL : L = trgL u f i) (hk : L.length ≤ k) : ((L.take k).map (fun g => (⟨(f : Int), (i : Int), g⟩ : Cal))) = edgI u f i := by
  rw [List.take_of_length_le hk, hL]; rfl
set_option maxRecDepth 100000 in
set_option maxHeartbeats 8000000 in
theorem refCalls (u : Unt) (ha : Option Addr) (hc : Nat) (fa : Option Addr) (fc : Nat) (w : World) (h : ClssAt w ha u.h) (hf : FncsAt w fa u.fs) (hb : FitOk u 150) :
    Calls Tryz.prog 18 #[unV u ha hc fa fc] w (CallsPost (edgU u u.fs.length) w) := by
  have S0 : Hid (CE u ha hc fa fc [] none 0 w (w.alloc (unC u ha hc fa fc))) := ⟨UB.start h hf, World.ownsRow_nil _ _ _ _⟩
  have HM : Hid (ClssAt w ha u.h ∧ FncsAt w fa u.fs) := ⟨h, hf⟩
  have HTG : Hid (∀ (f i : Int) (w1 : World), ClssAt w1 ha u.h → FncsAt w1 fa u.fs → Calls Tryz.prog 15 #[unV u ha hc fa fc, .int .i64 f, .int .i64 i] w1 (SetPost (trgS u f i) w1)) := fun f i w1 h1 h2 => refTargets u ha hc fa fc f i w1 h1 h2 (fitOk_bnd hb (by omega)) (by have := hb.nc; omega)
  have hn := hb.nf
  have HCL : Hid (∀ x ∈ u.fs, x.code.length ≤ 150) := fun x hx => (hb.f x hx).c
  have HUS : Hid (∀ m, m < u.fs.length → ∀ (hm : m < u.fs.length), edgU u (m + 1) = edgU u m ++ edgF u m u.fs[m].code.length) := fun m _ hm => edgU_succ hm
  have HE0 : Hid ([] = edgU u 0) := by show _ = _; simp [edgU]
  clear h hf hb
  unfold unV at *
  go_enter Tryz.func18, Tryz.ntmps18
  go_upto_region 1 with (fail)
  generalize w.alloc _ = W at *
  go_wp2
  go_loopw [3, 4] (fun v i wr => ∃ (m : Nat) (out : List Cal) (oa : Option Addr) (oc : Nat), m ≤ u.fs.length ∧ out.length ≤ m * 3000 ∧ v = .slice oa out.length oc ∧ i = .int .i64 m ∧ Hid (out = edgU u m) ∧ Hid (CE u ha hc fa fc out oa oc w wr)) (fun _ i _ => u.fs.length - (intOf i).toNat)
  case atStart => exact ⟨0, [], none, 0, Nat.zero_le _, Nat.zero_le _, rfl, rfl, HE0.out, S0.out⟩
  case round =>
    clear S0 HE0
    obtain ⟨m, out, oa, oc, hm, hol, rfl, rfl, HI, S⟩ := hrel
    obtain ⟨z0, z1, z2⟩ := S.out.ub.cells
    by_cases hlt : m < u.fs.length
    case neg =>
      have HF : Hid (out = edgU u u.fs.length) := by show _ = _; rw [HI.out, show m = u.fs.length by omega]
      go_wp2
      go_ret
      have hbs := S.out.ub.hb
      exact ⟨hbs, oa, oc, by rw [← HF.out] <;> rfl, by rw [← HF.out]; exact owns_mono S.out.ow (Nat.le_succ _)⟩
    have HUM := Lib.hid (HUS.out m hlt hlt)
    have hcl := HCL.out _ (List.getElem_mem hlt)
    generalize hcn : u.fs[m].code.length = cl at *
    have HCN := Lib.hid hcn
    clear hcn
    go_wp2
    clear z0 z1 z2
    obtain ⟨wo, rfl⟩ : ∃ wo, wo = wr := ⟨_, rfl⟩
    go_loopw [3, 5] (fun v i wr => ∃ (q : Nat) (out : List Cal) (oa : Option Addr) (oc : Nat), q ≤ cl ∧ out.length ≤ m * 3000 + q * 20 ∧ v = .slice oa out.length oc ∧ i = .int .i64 q ∧ Hid (out = edgU u m ++ edgF u m q) ∧ Hid (CE u ha hc fa fc out oa oc w wr)) (fun _ i _ => cl - (intOf i).toNat)
    case atStart => exact ⟨0, out, oa, oc, Nat.zero_le _, by omega, rfl, rfl, (by show _ = _; rw [HI.out]; simp [edgF]), S.out⟩
    case round =>
      clear S HI
      obtain ⟨q, out, oa, oc, hq, hol, rfl, rfl, HI, S⟩ := hrel
      obtain ⟨z0, z1, z2⟩ := S.out.ub.cells
      obtain ⟨b, off, va, vc, ca, cc, he, -, -, -, -, -, -, m6, -, -⟩ := S.out.ub.f m hlt
      subst he
      rw [HCN.out] at m6
      by_cases hql : q < cl
      case neg =>
        have HN : Hid (out = edgU u (m + 1)) := by show _ = _; rw [HUM.out, HI.out, show q = cl by omega]
        go_wp2
        go_roundw
        case rel => exact ⟨m + 1, out, oa, oc, by omega, by omega, rfl, by go_num, HN.out, S.out⟩
        case measure => simp [intOf]; omega
      go_wp2_with fail
      refine (HTG.out (m : Int) (q : Int) _ S.out.ub.h S.out.ub.f).mono ?_
      rintro e w3 ⟨hb3, L, la, lc, rfl, hp, hmem, ow3⟩
      have HL : Hid (L = trgL u m q) := trgL_unique hp hmem
      have hll : L.length ≤ 20 := by
        have h1 := trgL_len u m q
        rw [← HL.out] at h1
        omega
      have S3 := Lib.hid (S.out.below hb3)
      have IO := Lib.hid (owns_mono ow3 (Nat.zero_le _))
      clear hb3 hp hmem ow3 S z0 z1 z2 m6
      generalize w3 = W3 at *
      go_wp2
      obtain ⟨wo2, rfl⟩ : ∃ wo2, wo2 = W3 := ⟨_, rfl⟩
      go_loopw [3, 7] (fun v i wr => ∃ (k : Nat) (out2 : List Cal) (oa : Option Addr) (oc : Nat), k ≤ L.length ∧ out2.length ≤ m * 3000 + q * 20 + k ∧ v = .slice oa out2.length oc ∧ i = .int .i64 k ∧ Hid (out2 = out ++ (L.take k).map (fun g => (⟨(m : Int), (q : Int), g⟩ : Cal))) ∧ Hid (CE u ha hc (some ⟨b, off, none⟩) fc out2 oa oc w wr) ∧ Hid (wr.ownsRow 0 3 1 (.slice la L.length lc) L.length (L.map intV))) (fun _ i _ => L.length - (intOf i).toNat)
      case atStart => exact ⟨0, out, oa, oc, Nat.zero_le _, by omega, rfl, rfl, (by show _ = _; simp), S3.out, IO.out⟩
      case round =>
        clear S3 IO
        obtain ⟨k, out2, oa2, oc2, hk, hol2, rfl, rfl, HJ, S, IO⟩ := hrel
        by_cases hkl : k < L.length
        case neg =>
          have HN : Hid (out2 = edgU u m ++ edgF u m (q + 1)) := by
            show _ = _
            rw [HJ.out, HI.out, trg_take HL.out (by omega), edgF_succ, List.append_assoc]
          have hb2 : out2.length ≤ m * 3000 + (q + 1) * 20 := by omega
          clear HJ
          go_wp2
          go_roundw
          case rel => exact ⟨q + 1, out2, oa2, oc2, by omega, hb2, rfl, by go_num, HN.out, S.out⟩
          case measure => simp [intOf]; omega
        obtain ⟨b2, o2, he, c0⟩ := (owns_ints' IO.out).2 k hkl
        subst he
        have HJN : Hid (out2 ++ [⟨(m : Int), (q : Int), L[k]⟩] = out ++ (L.take (k + 1)).map (fun g => (⟨(m : Int), (q : Int), g⟩ : Cal))) := by
          show _ = _
          rw [HJ.out, List.take_succ_eq_append_getElem hkl, List.map_append, List.append_assoc]
          rfl
        clear HJ
        generalize L[k] = z at *
        have S1 := Lib.hid (S.out.below (one_below wr (.cells #[.int .i64 m, .int .i64 q, .int .i64 z] 51)))
        have I1 := Lib.hid (owns_below IO.out (one_below wr (.cells #[.int .i64 m, .int .i64 q, .int .i64 z] 51)))
        have B1 : Hid (Blk (wr.alloc (.cells #[.int .i64 m, .int .i64 q, .int .i64 z] 51)) wr.heap.size #[.int .i64 m, .int .i64 q, .int .i64 z] 51) := blk_new ..
        have hbs : w.heap.size + 1 ≤ (wr.alloc (.cells #[.int .i64 m, .int .i64 q, .int .i64 z] 51)).heap.size := Nat.succ_le_of_lt S1.out.ub.b1.lt
        have hoc : out2.length ≤ 1000000 := by omega
        go_wp2_with (at_builtin; refine appC rfl _ _ rfl (w.heap.size + 1) _ out2 rfl S1.out.ow wr.heap.size ⟨(m : Int), (q : Int), z⟩ rfl B1.out hoc hbs ?_; intro v7 W7 own7 hg7; obtain ⟨-, oa7, oc7, rfl, -, -⟩ := ownsC own7)
        have S7 := Lib.hid (CE.grow HM.out.1 HM.out.2 S1.out own7 hg7)
        have I7 := Lib.hid (owns_kept2 I1.out S1.out.ow (by decide) hg7)
        clear own7 hg7 S1 I1 B1 S IO c0
        have hlen : (out2 ++ [(⟨(m : Int), (q : Int), z⟩ : Cal)]).length = out2.length + 1 := by simp
        go_roundw
        case rel => exact ⟨k + 1, out2 ++ [(⟨(m : Int), (q : Int), z⟩ : Cal)], oa7, oc7, by omega, by omega, (by first | rfl | simp), by go_num, HJN.out, S7.out, I7.out⟩
        case measure => simp [intOf]; omega
end Go.Proofs.YtkbmnfijeknenaaGreatDoor
