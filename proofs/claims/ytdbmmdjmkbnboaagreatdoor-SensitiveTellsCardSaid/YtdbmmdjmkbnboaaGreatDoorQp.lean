/-
  An analysis in contexts as the row hands it, opened.
-/
import Derived.Test.YtdbmmdjmkbnboaaGreatDoorQb
import Derived.Test.YtdbmmdjmkbnboaaGreatDoorLift
namespace Go.Proofs.YtdbmmdjmkbnboaaGreatDoor
open Go.ChangeShapes Go.WideShapes Go.ChangeAt Go.RowKit Go.LawLift Go.Deep Go.Unit0
set_option maxRecDepth 100000

theorem oc_int : Tryz.prog.cellsOf 3 = 1 := by kernel_rfl
theorem oc_s_int : Tryz.prog.cellsOf 38 = 1 := by kernel_rfl
theorem oc_Inst : Tryz.prog.cellsOf 59 = 2 := by kernel_rfl
theorem oc_HeapSite : Tryz.prog.cellsOf 66 = 2 := by kernel_rfl
theorem oc_CtxCall : Tryz.prog.cellsOf 61 = 5 := by kernel_rfl
theorem oc_CtxVar : Tryz.prog.cellsOf 64 = 4 := by kernel_rfl
theorem oc_s_Inst : Tryz.prog.cellsOf 29 = 1 := by kernel_rfl
theorem oc_s_HeapSite : Tryz.prog.cellsOf 62 = 1 := by kernel_rfl
theorem oc_s_CtxCall : Tryz.prog.cellsOf 30 = 1 := by kernel_rfl
theorem oc_s_CtxVar : Tryz.prog.cellsOf 31 = 1 := by kernel_rfl
theorem oc_CtxResult : Tryz.prog.cellsOf 33 = 3 := by kernel_rfl
section
variable {H : Type} {enc : TypeId × Value → H} {w : World} {fuel : Nat} {v : Value} {cs : List Value} {x : DataW H × List MemPlace}
/-- a slice, opened into its elements' cells -/
theorem open_rows {t e sz : Nat} (ht : Tryz.prog.underlying t = some (.slice e)) (hc : Tryz.prog.cellsOf e = sz) (h0 : 0 < sz) (h : DataW.trod enc Tryz.prog w 0 (fun _ => true) true fuel t [v] = some x) :
    ∃ (a : Option Addr) (len cap : Nat), v = .slice a len cap ∧ len ≤ cap ∧ ∀ i, i < len → ∃ b off, a = some ⟨b, off, none⟩ ∧ ∃ cs n y, DataW.trod enc Tryz.prog w 0 (fun _ => true) true n e cs = some y ∧ cs.length = sz ∧ ∀ j, j < sz → w.cell? ⟨b, off + i * sz + j, none⟩ = cs[j]? := by
  rcases open_slice ht h with ⟨hcs, _⟩ | ⟨a, len, cap, m, n, D, Pl', hcs, hb, hle, hmx, hmm, rfl, hi⟩
  · exact ⟨none, 0, 0, by simpa using hcs, Nat.le_refl _, fun i hi => absurd hi (by omega)⟩
  · refine ⟨some a, len, cap, by simpa using hcs, hle, fun i hil => ?_⟩
    have each : ∀ i, i < len → ∃ cs y, DataW.trod enc Tryz.prog w 0 (fun _ => true) true n e cs = some y ∧ cs.length = sz ∧ ∀ j, j < sz → w.cell? (a.add (i * sz + j)) = cs[j]? := by
      intro i hil
      obtain ⟨cs', hc', ht'⟩ := hi i (by rw [hmm]; split <;> omega)
      rw [hc] at hc'
      obtain ⟨_, hcl, hat⟩ := World.cells?_some hc'
      refine ⟨cs', _, ht', hcl, fun j hj => ?_⟩
      have h1 := hat j hj
      rw [Go.Deep.add_add] at h1
      exact h1
    obtain ⟨cs0, _, _, hl0, hat0⟩ := each 0 (by omega)
    have h00 := hat0 0 h0
    have ea : a.add 0 = a := by unfold Addr.add; simp
    rw [Nat.zero_mul, ea, List.getElem?_eq_getElem (by omega)] at h00
    obtain ⟨cs', y, ht', hl', hat'⟩ := each i hil
    refine ⟨a.block, a.off, by rw [← (add_out h00 0).1], cs', n, y, ht', hl', fun j hj => ?_⟩
    rw [← hat' j hj, (add_out h00 (i * sz + j)).2, Nat.add_assoc]
theorem open_ints (h : DataW.trod enc Tryz.prog w 0 (fun _ => true) true fuel 38 [v] = some x) : ∃ a cap l, v = .slice a (List.length l) cap ∧ IntsAt w a l ∧ l.length ≤ cap := by
  obtain ⟨a, len, cap, rfl, hle, hr⟩ := open_rows Tryz.underlying38 oc_int (by omega) h
  obtain ⟨l, hl, hq⟩ := list_of (Q := fun i (s : Int) => ∃ b off, a = some ⟨b, off, none⟩ ∧ w.cell? ⟨b, off + i, none⟩ = some (.int .i64 s)) len fun i hi => by
    obtain ⟨b, off, ha, cs, n, y, ht, hl, hat⟩ := hr i hi
    match cs, hl with
    | [c0], _ =>
      obtain ⟨s, e, _⟩ := DataW.trod_int Tryz.underlying3 ht
      simp only [List.cons.injEq, and_true] at e
      subst e
      exact ⟨s, b, off, ha, by simpa using hat 0 (by omega)⟩
  subst hl
  exact ⟨a, cap, l, rfl, fun k hk => hq k hk, hle⟩
theorem open_ict1 (h : DataW.trod enc Tryz.prog w 0 (fun _ => true) true fuel 59 cs = some x) : ∃ (g : Ict) (a : Option Addr) (c : Nat), cs = [.int .i64 g.fn, .slice a g.ctx.length c] ∧ IntsAt w a g.ctx := by
  obtain ⟨xs, n, _, hx, hcl, hlen, hg⟩ := DataW.trod_struct Tryz.underlying59 h
  match cs, hcl.trans oc_Inst with
  | [q0, q1], _ =>
    match xs, hlen with
    | [y0, y1], _ =>
      have g0 : DataW.trod enc Tryz.prog w 0 (fun _ => true) true n 3 [q0] = some y0 := by have := hg 0 _ rfl; simpa [oc_int, Value.cells] using this
      have g1 : DataW.trod enc Tryz.prog w 0 (fun _ => true) true n 38 [q1] = some y1 := by have := hg 1 _ rfl; simpa [oc_int, oc_s_int, Value.cells] using this
      obtain ⟨v0, e0, _⟩ := DataW.trod_int Tryz.underlying3 g0
      obtain ⟨a1, c1, v1, e1, s1, _⟩ := open_ints g1
      simp only [List.cons.injEq, and_true] at e0
      subst e0 e1
      exact ⟨⟨v0, v1⟩, a1, c1, rfl, s1⟩
theorem open_icts (h : DataW.trod enc Tryz.prog w 0 (fun _ => true) true fuel 29 [v] = some x) : ∃ a cap l, v = .slice a (List.length l) cap ∧ IctsAt w a l := by
  obtain ⟨a, len, cap, rfl, hle, hr⟩ := open_rows Tryz.underlying29 oc_Inst (by omega) h
  obtain ⟨l, hl, hq⟩ := list_of (Q := fun i (g : Ict) => ∃ b off ca cc, a = some ⟨b, off, none⟩ ∧ w.cell? ⟨b, off + i * 2, none⟩ = some (.int .i64 g.fn) ∧ w.cell? ⟨b, off + i * 2 + 1, none⟩ = some (.slice ca g.ctx.length cc) ∧ IntsAt w ca g.ctx) len fun i hi => by
    obtain ⟨b, off, ha, cs, n, y, ht, hl, hat⟩ := hr i hi
    obtain ⟨g, a1, c1, rfl, s1⟩ := open_ict1 ht
    exact ⟨g, b, off, a1, c1, ha, hat 0 (by omega), hat 1 (by omega), s1⟩
  subst hl
  exact ⟨a, cap, l, rfl, fun k hk => hq k hk⟩
theorem open_ihs1 (h : DataW.trod enc Tryz.prog w 0 (fun _ => true) true fuel 66 cs = some x) : ∃ (g : Ict) (a : Option Addr) (c : Nat), cs = [.int .i64 g.fn, .slice a g.ctx.length c] ∧ IntsAt w a g.ctx := by
  obtain ⟨xs, n, _, hx, hcl, hlen, hg⟩ := DataW.trod_struct Tryz.underlying66 h
  match cs, hcl.trans oc_HeapSite with
  | [q0, q1], _ =>
    match xs, hlen with
    | [y0, y1], _ =>
      have g0 : DataW.trod enc Tryz.prog w 0 (fun _ => true) true n 3 [q0] = some y0 := by have := hg 0 _ rfl; simpa [oc_int, Value.cells] using this
      have g1 : DataW.trod enc Tryz.prog w 0 (fun _ => true) true n 38 [q1] = some y1 := by have := hg 1 _ rfl; simpa [oc_int, oc_s_int, Value.cells] using this
      obtain ⟨v0, e0, _⟩ := DataW.trod_int Tryz.underlying3 g0
      obtain ⟨a1, c1, v1, e1, s1, _⟩ := open_ints g1
      simp only [List.cons.injEq, and_true] at e0
      subst e0 e1
      exact ⟨⟨v0, v1⟩, a1, c1, rfl, s1⟩
theorem open_ihss (h : DataW.trod enc Tryz.prog w 0 (fun _ => true) true fuel 62 [v] = some x) : ∃ a cap l, v = .slice a (List.length l) cap ∧ IctsAt w a l := by
  obtain ⟨a, len, cap, rfl, hle, hr⟩ := open_rows Tryz.underlying62 oc_HeapSite (by omega) h
  obtain ⟨l, hl, hq⟩ := list_of (Q := fun i (g : Ict) => ∃ b off ca cc, a = some ⟨b, off, none⟩ ∧ w.cell? ⟨b, off + i * 2, none⟩ = some (.int .i64 g.fn) ∧ w.cell? ⟨b, off + i * 2 + 1, none⟩ = some (.slice ca g.ctx.length cc) ∧ IntsAt w ca g.ctx) len fun i hi => by
    obtain ⟨b, off, ha, cs, n, y, ht, hl, hat⟩ := hr i hi
    obtain ⟨g, a1, c1, rfl, s1⟩ := open_ihs1 ht
    exact ⟨g, b, off, a1, c1, ha, hat 0 (by omega), hat 1 (by omega), s1⟩
  subst hl
  exact ⟨a, cap, l, rfl, fun k hk => hq k hk⟩
theorem open_icl1 (h : DataW.trod enc Tryz.prog w 0 (fun _ => true) true fuel 61 cs = some x) : ∃ (g : Icl) (a : Option Addr) (c : Nat) (b : Option Addr) (d : Nat), cs = [.int .i64 g.fr.fn, .slice a g.fr.ctx.length c, .int .i64 g.at_, .int .i64 g.tt.fn, .slice b g.tt.ctx.length d] := by
  obtain ⟨xs, n, _, hx, hcl, hlen, hg⟩ := DataW.trod_struct Tryz.underlying61 h
  match cs, hcl.trans oc_CtxCall with
  | [q0, q1, q2, q3, q4], _ =>
    match xs, hlen with
    | [y0, y1, y2], _ =>
      have g0 : DataW.trod enc Tryz.prog w 0 (fun _ => true) true n 59 [q0, q1] = some y0 := by have := hg 0 _ rfl; simpa [oc_int, oc_Inst, Value.cells] using this
      have g1 : DataW.trod enc Tryz.prog w 0 (fun _ => true) true n 3 [q2] = some y1 := by have := hg 1 _ rfl; simpa [oc_int, oc_Inst, Value.cells] using this
      have g2 : DataW.trod enc Tryz.prog w 0 (fun _ => true) true n 59 [q3, q4] = some y2 := by have := hg 2 _ rfl; simpa [oc_int, oc_Inst, Value.cells] using this
      obtain ⟨v0, a0, c0, e0, _⟩ := open_ict1 g0
      obtain ⟨v1, e1, _⟩ := DataW.trod_int Tryz.underlying3 g1
      obtain ⟨v2, a2, c2, e2, _⟩ := open_ict1 g2
      simp only [List.cons.injEq, and_true] at e0 e1 e2
      obtain ⟨rfl, rfl⟩ := e0
      obtain ⟨rfl, rfl⟩ := e2
      subst e1
      exact ⟨⟨v0, v1, v2⟩, a0, c0, a2, c2, rfl⟩
theorem open_icls (h : DataW.trod enc Tryz.prog w 0 (fun _ => true) true fuel 30 [v] = some x) : ∃ a cap l, v = .slice a (List.length l) cap ∧ IclsAt w a l := by
  obtain ⟨a, len, cap, rfl, hle, hr⟩ := open_rows Tryz.underlying30 oc_CtxCall (by omega) h
  obtain ⟨l, hl, hq⟩ := list_of (Q := fun i (g : Icl) => ∃ b off ca cc da dc, a = some ⟨b, off, none⟩ ∧ w.cell? ⟨b, off + i * 5, none⟩ = some (.int .i64 g.fr.fn) ∧ w.cell? ⟨b, off + i * 5 + 1, none⟩ = some (.slice ca g.fr.ctx.length cc) ∧ w.cell? ⟨b, off + i * 5 + 2, none⟩ = some (.int .i64 g.at_) ∧ w.cell? ⟨b, off + i * 5 + 3, none⟩ = some (.int .i64 g.tt.fn) ∧ w.cell? ⟨b, off + i * 5 + 4, none⟩ = some (.slice da g.tt.ctx.length dc)) len fun i hi => by
    obtain ⟨b, off, ha, cs, n, y, ht, hl, hat⟩ := hr i hi
    obtain ⟨g, a1, c1, a2, c2, rfl⟩ := open_icl1 ht
    exact ⟨g, b, off, a1, c1, a2, c2, ha, hat 0 (by omega), hat 1 (by omega), hat 2 (by omega), hat 3 (by omega), hat 4 (by omega)⟩
  subst hl
  exact ⟨a, cap, l, rfl, fun k hk => hq k hk⟩
theorem open_ivr1 (h : DataW.trod enc Tryz.prog w 0 (fun _ => true) true fuel 64 cs = some x) : ∃ (g : Ivr) (a : Option Addr) (c : Nat) (b : Option Addr) (d : Nat), cs = [.int .i64 g.inn.fn, .slice a g.inn.ctx.length c, .int .i64 g.var, .slice b g.refs.length d] ∧ IctsAt w b g.refs := by
  obtain ⟨xs, n, _, hx, hcl, hlen, hg⟩ := DataW.trod_struct Tryz.underlying64 h
  match cs, hcl.trans oc_CtxVar with
  | [q0, q1, q2, q3], _ =>
    match xs, hlen with
    | [y0, y1, y2], _ =>
      have g0 : DataW.trod enc Tryz.prog w 0 (fun _ => true) true n 59 [q0, q1] = some y0 := by have := hg 0 _ rfl; simpa [oc_int, oc_Inst, oc_s_HeapSite, Value.cells] using this
      have g1 : DataW.trod enc Tryz.prog w 0 (fun _ => true) true n 3 [q2] = some y1 := by have := hg 1 _ rfl; simpa [oc_int, oc_Inst, oc_s_HeapSite, Value.cells] using this
      have g2 : DataW.trod enc Tryz.prog w 0 (fun _ => true) true n 62 [q3] = some y2 := by have := hg 2 _ rfl; simpa [oc_int, oc_Inst, oc_s_HeapSite, Value.cells] using this
      obtain ⟨v0, a0, c0, e0, _⟩ := open_ict1 g0
      obtain ⟨v1, e1, _⟩ := DataW.trod_int Tryz.underlying3 g1
      obtain ⟨a2, c2, v2, e2, s2⟩ := open_ihss g2
      simp only [List.cons.injEq, and_true] at e0 e1
      obtain ⟨rfl, rfl⟩ := e0
      subst e1 e2
      exact ⟨⟨v0, v1, v2⟩, a0, c0, a2, c2, rfl, s2⟩
theorem open_ivrs (h : DataW.trod enc Tryz.prog w 0 (fun _ => true) true fuel 31 [v] = some x) : ∃ a cap l, v = .slice a (List.length l) cap ∧ IvrsAt w a l := by
  obtain ⟨a, len, cap, rfl, hle, hr⟩ := open_rows Tryz.underlying31 oc_CtxVar (by omega) h
  obtain ⟨l, hl, hq⟩ := list_of (Q := fun i (g : Ivr) => ∃ b off ca cc ra rc, a = some ⟨b, off, none⟩ ∧ w.cell? ⟨b, off + i * 4, none⟩ = some (.int .i64 g.inn.fn) ∧ w.cell? ⟨b, off + i * 4 + 1, none⟩ = some (.slice ca g.inn.ctx.length cc) ∧ w.cell? ⟨b, off + i * 4 + 2, none⟩ = some (.int .i64 g.var) ∧ w.cell? ⟨b, off + i * 4 + 3, none⟩ = some (.slice ra g.refs.length rc) ∧ IctsAt w ra g.refs) len fun i hi => by
    obtain ⟨b, off, ha, cs, n, y, ht, hl, hat⟩ := hr i hi
    obtain ⟨g, a1, c1, a2, c2, rfl, s2⟩ := open_ivr1 ht
    exact ⟨g, b, off, a1, c1, a2, c2, ha, hat 0 (by omega), hat 1 (by omega), hat 2 (by omega), hat 3 (by omega), s2⟩
  subst hl
  exact ⟨a, cap, l, rfl, fun k hk => hq k hk⟩
end
/-- an analysis, opened -/
theorem open_ctr {H : Type} {enc : TypeId × Value → H} {w : World} {b0 : Nat} {v : Value} {d : DataW H} {ps : List MemPlace} (hv : Value.okWide Tryz.prog w .any b0 33 v) (h : DataW.Trod enc Tryz.prog w 0 (fun _ => true) true 33 v d ps) :
    ∃ r p, v = ctV r p ∧ CtrAt w p r := by
  obtain ⟨cs, rfl, hsz⟩ := okWide_struct Tryz.underlying33 hv
  obtain ⟨l⟩ := cs
  match l, hsz.trans oc_CtxResult with
  | [c0, c1, c2], _ =>
    obtain ⟨fuel, hf⟩ := h
    obtain ⟨xs, n, _, hx, _, hlen, hg⟩ := DataW.trod_struct Tryz.underlying33 hf
    match xs, hlen with
    | [y0, y1, y2], _ =>
      have g0 : DataW.trod enc Tryz.prog w 0 (fun _ => true) true n 29 [c0] = some y0 := by have := hg 0 _ rfl; simpa [oc_s_Inst, oc_s_CtxCall, oc_s_CtxVar, Value.cells] using this
      have g1 : DataW.trod enc Tryz.prog w 0 (fun _ => true) true n 30 [c1] = some y1 := by have := hg 1 _ rfl; simpa [oc_s_Inst, oc_s_CtxCall, oc_s_CtxVar, Value.cells] using this
      have g2 : DataW.trod enc Tryz.prog w 0 (fun _ => true) true n 31 [c2] = some y2 := by have := hg 2 _ rfl; simpa [oc_s_Inst, oc_s_CtxCall, oc_s_CtxVar, Value.cells] using this
      obtain ⟨ia, ic, il, rfl, h1⟩ := open_icts g0
      obtain ⟨ca, cc, cl, rfl, h2⟩ := open_icls g1
      obtain ⟨va, vc, vl, rfl, h3⟩ := open_ivrs g2
      exact ⟨⟨il, cl, vl⟩, ⟨ia, ic, ca, cc, va, vc⟩, rfl, h1, h2, h3⟩
end Go.Proofs.YtdbmmdjmkbnboaaGreatDoor
