/-
  What the claims of this seat share: the listed variables, how suppressions and findings are opened, a world for the witness.
-/
import Derived.Test.YtpgmjfnjdgdmcaaDoorCards
import Derived.Test.YtpgmjfnjdgdmcaaDoorTie
import Derived.Test.YtpgmjfnjdgdmcaaDoorP15
import Derived.Test.YtpgmjfnjdgdmcaaDoorPls
import Derived.Test.YtpgmjfnjdgdmcaaDoorLift
import Derived.Stop.LaidErr
namespace Go.Proofs.YtpgmjfnjdgdmcaaDoor
open Go.ChangeShapes Go.WideShapes Go.ChangeAt Go.RowKit Go.LawLift
set_option maxRecDepth 100000

theorem own : ownKnob Tryd.prog.godebug = none := by kernel_rfl
theorem laidOut : laidOutB Tryd.prog = true := by kernel_rfl
theorem gKw : Tryd.prog.globalNamed "dataflow/lex.keywords" = some 1 := by kernel_rfl
theorem gKwType : (Tryd.prog.globals[1]?).map (·.type) = some 99 := by kernel_rfl
theorem gEf : Tryd.prog.globalNamed "dataflow/suppress.errForm" = some 0 := by kernel_rfl
theorem gEfType : (Tryd.prog.globals[0]?).map (·.type) = some 63 := by kernel_rfl
theorem cells99 : Tryd.prog.cellsOf 99 = 17 := by kernel_rfl
theorem cells9 : Tryd.prog.cellsOf 9 = 1 := by kernel_rfl
theorem cells3 : Tryd.prog.cellsOf 3 = 1 := by kernel_rfl
theorem cells23 : Tryd.prog.cellsOf 23 = 5 := by kernel_rfl
theorem cells25 : Tryd.prog.cellsOf 25 = 3 := by kernel_rfl
theorem cells26 : Tryd.prog.cellsOf 26 = 1 := by kernel_rfl
theorem cells28 : Tryd.prog.cellsOf 28 = 6 := by kernel_rfl
theorem cells157 : Tryd.prog.cellsOf 157 = 1 := by kernel_rfl
theorem star : "*" ++ "errors.errorString" = "*errors.errorString" := by decide
theorem row134 (u : TypeId) (h : Tryd.prog.typeName? 3 u = some "*errors.errorString") : u = 134 :=
  typeName_ptr_named (nm := "errors.errorString") (by rw [star]; kernel_rfl) (by kernel_rfl) (by decide) u (by rw [star]; exact h)
theorem kw_data : (Rows.laid_dataflow_lex_keywords : DataW Unit) = .agg (kws.map fun s => .lit (.string s.data.toList)) := by kernel_rfl
theorem laid_tail {P : Program} {n : String} {d : DataW Unit} {r : List (String × DataW Unit)} {W : World} (h : laidMet P ((n, d) :: r) W) : laidMet P r W := by
  obtain ⟨ps, ⟨g, t, cs, fuel, p, q, _, _, _, _, hr, rfl⟩, hnd, hrows⟩ := h
  exact ⟨q, hr, (List.nodup_append.1 hnd).2.1, fun b off hm => hrows b off (by simp [hm])⟩
/-- what the rows' list gives -/
theorem kw_of {W : World} {n : String} {d : DataW Unit} {rest : List (String × DataW Unit)} (h0 : laidMet Tryd.prog ((n, d) :: ("dataflow/lex.keywords", Rows.laid_dataflow_lex_keywords) :: rest) W) : KW W := by
  obtain ⟨ps, ⟨g', t', cs, fuel, p, q, hg', ht', hvar, hd, _, _⟩, _⟩ := laid_tail h0
  obtain rfl := Option.some.inj (gKw.symm.trans hg')
  obtain rfl := Option.some.inj (gKwType.symm.trans ht')
  rw [kw_data] at hd
  have hcs := cells_of_strs Tryd.underlying99 Tryd.underlying9 cells9 cells99 hd
  simp only [World.var?, gKw, Option.bind_some] at hvar
  split at hvar
  · rename_i c t fr hh
    refine ⟨t, fr, ?_⟩
    rw [hh]
    have : c = kwArr := by
      have e : c = cs := by simpa using hvar
      subst e
      unfold kwArr
      rw [← hcs]
    rw [this]
  · cases hvar
theorem ef_of {W : World} {n n' : String} {d d' : DataW Unit} {rest : List (String × DataW Unit)} (h0 : laidMet Tryd.prog ((n, d) :: (n', d') :: ("dataflow/suppress.errForm", Rows.laid_dataflow_suppress_errForm) :: rest) W) : ∃ ad, W.cell? ⟨0, 0, none⟩ = some (.iface 134 (.pointer (some ad))) := by
  obtain ⟨a, s, hv, _, _, _⟩ := Go.laid_sentinel (laid_tail (laid_tail h0)) gEf gEfType Tryd.underlying63 row134 Tryd.underlying134 Tryd.underlying157 rfl rfl Tryd.underlying9 cells157 cells9
  exact ⟨a, by simpa using World.var?_cell gEf hv 0⟩
theorem mc_of {W : World} (h : W.ShapedOpen Tryd.prog) : ∃ m, W.cell? ⟨2, 0, none⟩ = some (.int .i64 m) := Go.Proofs.cell_of_shapedOpen_int (zero := #[.int .i64 0]) (t := 3) h (of_decide_eq_true (by kernel_rfl)) (by kernel_rfl) rfl (by kernel_rfl) (by kernel_rfl) Tryd.underlying3

/-- a suppression, opened -/
theorem open_nt {H : Type} {enc : TypeId × Value → H} {w : World} {b0 : Nat} {v : Value} {d : DataW H} {ps : List MemPlace} (hv : Value.okWide Tryd.prog w .any b0 23 v) (h : DataW.Trod enc Tryd.prog w 0 (fun _ => true) true 23 v d ps) :
    ∃ n, v = NtV n ∧ n.cls.size ≤ maxLen ∧ n.meth.size ≤ maxLen ∧ n.what.size ≤ maxLen ∧ n.reason.size ≤ maxLen := by
  obtain ⟨v0, v1, v2, v3, v4, y0, y1, y2, y3, y4, n, rfl, _, t0, t1, t2, t3, t4⟩ := open_agg5 Tryd.underlying23 (by kernel_rfl) cells23 hv h
  obtain ⟨x0, e0, _⟩ := DataW.trod_int Tryd.underlying3 t0
  obtain ⟨x1, e1, _, s1⟩ := DataW.trod_string Tryd.underlying9 t1
  obtain ⟨x2, e2, _, s2⟩ := DataW.trod_string Tryd.underlying9 t2
  obtain ⟨x3, e3, _, s3⟩ := DataW.trod_string Tryd.underlying9 t3
  obtain ⟨x4, e4, _, s4⟩ := DataW.trod_string Tryd.underlying9 t4
  simp only [List.cons.injEq, and_true] at e0 e1 e2 e3 e4
  subst e0 e1 e2 e3 e4
  exact ⟨⟨x0, x1, x2, x3, x4⟩, rfl, s1, s2, s3, s4⟩
/-- a slice of places, opened -/
theorem open_pls {H : Type} {enc : TypeId × Value → H} {w : World} {fuel : Nat} {v : Value} {x : DataW H × List MemPlace} (h : DataW.trod enc Tryd.prog w 0 (fun _ => true) true fuel 26 [v] = some x) :
    ∃ a cap l, v = .slice a (List.length l) cap ∧ PlsAt w a l ∧ l.length ≤ cap ∧ cap ≤ maxLen := by
  rcases open_rows Tryd.underlying26 Tryd.underlying25 (by kernel_rfl) (by rw [cells25]; rfl) h with hcs | ⟨a, len, cap, hcs, hl, hm, hc⟩
  · exact ⟨none, 0, [], by simpa using hcs, fun k hk => absurd hk (by simp), Nat.le_refl _, Nat.zero_le _⟩
  · have each : ∀ i, i < len → ∃ p : Pl, w.cell? (a.add (i * 3)) = some (.string p.cls) ∧ w.cell? (a.add (i * 3 + 1)) = some (.string p.meth) ∧ w.cell? (a.add (i * 3 + 2)) = some (.int .i64 p.instr) := by
      intro i hi
      obtain ⟨n, hf⟩ := hc i hi
      obtain ⟨v0, y0, c0, t0⟩ := hf 0 _ rfl
      obtain ⟨v1, y1, c1, t1⟩ := hf 1 _ rfl
      obtain ⟨v2, y2, c2, t2⟩ := hf 2 _ rfl
      obtain ⟨x0, e0, _⟩ := DataW.trod_string Tryd.underlying9 t0
      obtain ⟨x1, e1, _⟩ := DataW.trod_string Tryd.underlying9 t1
      obtain ⟨x2, e2, _⟩ := DataW.trod_int Tryd.underlying3 t2
      simp only [List.cons.injEq, and_true] at e0 e1 e2
      subst e0 e1 e2
      exact ⟨⟨x0, x1, x2⟩, c0, c1, c2⟩
    obtain ⟨l, hll, hq⟩ := list_of len each
    refine ⟨some a, cap, l, by rw [hll]; simpa using hcs, fun k hk => ?_, by omega, hm⟩
    have h0 := (hq 0 (by omega)).1
    have ea : a.add (0 * 3) = a := by unfold Addr.add; simp
    rw [ea] at h0
    obtain ⟨h1, h2, h3⟩ := hq k hk
    refine ⟨a.block, a.off, by rw [← (add_out h0 0).1], ?_, ?_, ?_⟩
    · rw [← h1, (add_out h0 (k * 3)).2]
    · rw [← h2, (add_out h0 (k * 3 + 1)).2, Nat.add_assoc]
    · rw [← h3, (add_out h0 (k * 3 + 2)).2, Nat.add_assoc]
/-- a finding's cells, opened -/
theorem open_fd6 {H : Type} {enc : TypeId × Value → H} {w : World} {fuel : Nat} {c0 c1 c2 c3 c4 c5 : Value} {x : DataW H × List MemPlace} (h : DataW.trod enc Tryd.prog w 0 (fun _ => true) true fuel 28 [c0, c1, c2, c3, c4, c5] = some x) :
    ∃ f a c, .agg #[c0, c1, c2, c3, c4, c5] = FdV f a c ∧ PlsAt w a f.path ∧ f.path.length ≤ c ∧ c ≤ maxLen ∧ f.what.size ≤ maxLen ∧ f.pl.cls.size ≤ maxLen ∧ f.pl.meth.size ≤ maxLen := by
  obtain ⟨xs, n, _, hx, _, hlen, hg⟩ := DataW.trod_struct Tryd.underlying28 h
  match xs, hlen with
  | [y0, y1, y2, y3], _ =>
    have g0 : DataW.trod enc Tryd.prog w 0 (fun _ => true) true n 3 [c0] = some y0 := by have := hg 0 _ rfl; simpa [cells3] using this
    have g1 : DataW.trod enc Tryd.prog w 0 (fun _ => true) true n 25 [c1, c2, c3] = some y1 := by have := hg 1 _ rfl; simpa [cells25] using this
    have g2 : DataW.trod enc Tryd.prog w 0 (fun _ => true) true n 9 [c4] = some y2 := by have := hg 2 _ rfl; simpa [cells9] using this
    have g3 : DataW.trod enc Tryd.prog w 0 (fun _ => true) true n 26 [c5] = some y3 := by have := hg 3 _ rfl; simpa [cells26] using this
    obtain ⟨x0, e0, _⟩ := DataW.trod_int Tryd.underlying3 g0
    obtain ⟨x4, e4, _, s4⟩ := DataW.trod_string Tryd.underlying9 g2
    obtain ⟨a, cap, l, e5, hp, hl, hm⟩ := open_pls g3
    obtain ⟨zs, n', _, hz, _, hzl, hgz⟩ := DataW.trod_struct Tryd.underlying25 g1
    match zs, hzl with
    | [z0, z1, z2], _ =>
      have k0 : DataW.trod enc Tryd.prog w 0 (fun _ => true) true n' 9 [c1] = some z0 := by have := hgz 0 _ rfl; simpa [cells9] using this
      have k1 : DataW.trod enc Tryd.prog w 0 (fun _ => true) true n' 9 [c2] = some z1 := by have := hgz 1 _ rfl; simpa [cells9] using this
      have k2 : DataW.trod enc Tryd.prog w 0 (fun _ => true) true n' 3 [c3] = some z2 := by have := hgz 2 _ rfl; simpa [cells3] using this
      obtain ⟨x1, e1, _, s1⟩ := DataW.trod_string Tryd.underlying9 k0
      obtain ⟨x2, e2, _, s2⟩ := DataW.trod_string Tryd.underlying9 k1
      obtain ⟨x3, e3, _⟩ := DataW.trod_int Tryd.underlying3 k2
      simp only [List.cons.injEq, and_true] at e0 e1 e2 e3 e4
      subst e0 e1 e2 e3 e4 e5
      exact ⟨⟨x0, ⟨x1, x2, x3⟩, x4, l⟩, a, cap, rfl, hp, hl, hm, s4, s1, s2⟩
theorem open_fd {H : Type} {enc : TypeId × Value → H} {w : World} {b0 : Nat} {v : Value} {d : DataW H} {ps : List MemPlace} (hv : Value.okWide Tryd.prog w .any b0 28 v) (h : DataW.Trod enc Tryd.prog w 0 (fun _ => true) true 28 v d ps) :
    ∃ f a c, v = FdV f a c ∧ PlsAt w a f.path ∧ f.path.length ≤ c ∧ c ≤ maxLen ∧ f.what.size ≤ maxLen ∧ f.pl.cls.size ≤ maxLen ∧ f.pl.meth.size ≤ maxLen := by
  obtain ⟨cs, rfl, hsz⟩ := okWide_struct Tryd.underlying28 hv
  obtain ⟨l⟩ := cs
  match l, hsz.trans cells28 with
  | [c0, c1, c2, c3, c4, c5], _ =>
    obtain ⟨fuel, hf⟩ := h
    exact open_fd6 hf

def firstArr : Array Value := (Go.Pinned.utf8FirstZ.map fun (n : Nat) => Value.int .u8 (n : Int)).toArray
def accArr : Array Value := (([128, 191, 160, 191, 128, 159, 144, 191, 128, 143, 0, 0, 0, 0, 0, 0, 0, 0, 0, 0, 0, 0, 0, 0, 0, 0, 0, 0, 0, 0, 0, 0] : List Int).map (Value.int .u8)).toArray
def relay (cs : Array Value) : Obj → Obj
  | .cells _ t frozen => .cells cs t frozen
  | o => o
def formS : ByteArray := ⟨#[115, 117, 112, 112, 114, 101, 115, 115, 58, 32, 102, 111, 114, 109]⟩
noncomputable def low : Nat := (World.holding Tryd.prog default ⟨#[], #[], []⟩).heap.size
/-- A world for the witness: the listed variables as their initialisers lay them. -/
noncomputable def laidWorld (os : Os) : World :=
  { World.holding Tryd.prog os ⟨#[.cells #[.string formS] 157], #[], []⟩ with heap := ((((World.holding Tryd.prog os ⟨#[.cells #[.string formS] 157], #[], []⟩).heap.modify 0 (relay #[.iface 134 (.pointer (some ⟨low, 0, none⟩))])).modify 1 (relay kwArr)).modify 3 (relay firstArr)).modify 4 (relay accArr) }
end Go.Proofs.YtpgmjfnjdgdmcaaDoor
