/-
  The law ProtocolSteps holds: for every protocol, state and methods it returns true, and its arguments read afterwards as before. No condition beyond the row's own (the variable lex.keywords is as the program's text lays it).
-/
import Derived.Test.YtlkafolgbkobpaaDoorCards
import Derived.Test.YtlkafolgbkobpaaDoorTie
import Derived.Test.YtlkafolgbkobpaaDoorA13
import Derived.Test.YtlkafolgbkobpaaDoorLift
namespace Go.Proofs.YtlkafolgbkobpaaDoor
open Go.ChangeShapes Go.WideShapes Go.ChangeAt Go.RowKit Go.LawLift

theorem own : ownKnob Tryd.prog.godebug = none := by kernel_rfl
theorem laidOut : laidOutB Tryd.prog = true := by kernel_rfl
theorem gKw : Tryd.prog.globalNamed "dataflow/lex.keywords" = some 0 := by kernel_rfl
theorem gKwType : (Tryd.prog.globals[0]?).map (·.type) = some 82 := by kernel_rfl
theorem cells82 : Tryd.prog.cellsOf 82 = 17 := by kernel_rfl
theorem cells9 : Tryd.prog.cellsOf 9 = 1 := by kernel_rfl
theorem cells25 : Tryd.prog.cellsOf 25 = 5 := by kernel_rfl
theorem cells46 : Tryd.prog.cellsOf 46 = 3 := by kernel_rfl
theorem kw_data : (Rows.laid_dataflow_lex_keywords : DataW Unit) = .agg (kws.map fun s => .lit (.string s.data.toList)) := by kernel_rfl
/-- what the row's list gives -/
theorem kw_of {W : World} {rest : List (String × DataW Unit)} (h : laidMet Tryd.prog (("dataflow/lex.keywords", Rows.laid_dataflow_lex_keywords) :: rest) W) : KW W := by
  obtain ⟨ps, ⟨g', t', cs, fuel, p, q, hg', ht', hvar, hd, _, _⟩, _⟩ := h
  obtain rfl := Option.some.inj (gKw.symm.trans hg')
  obtain rfl := Option.some.inj (gKwType.symm.trans ht')
  rw [kw_data] at hd
  have hcs := cells_of_strs Tryd.underlying82 Tryd.underlying9 cells9 cells82 hd
  simp only [World.var?, gKw, Option.bind_some] at hvar
  split at hvar
  · rename_i c t fr hh
    refine ⟨t, fr, ?_⟩
    rw [hh]
    have : c = kwArr := by
      have e : c = cs := by simpa using hvar
      subst e
      unfold kwArr
      rw [← hcs]
    rw [this]
  · cases hvar

theorem strsAt_of {w : World} {a : Addr} {len : Nat} {ss : List ByteArray} (hl : len ≤ ss.length) (h : ∀ i, i < ss.length → w.cell? (a.add i) = some (.string (ss.getD i ByteArray.empty))) : StrsAt w (some a) (ss.take len) := by
  intro k hk
  have hk' : k < ss.length := by simp at hk; omega
  have h0 := h 0 (by omega)
  have e0 : a.add 0 = a := by unfold Addr.add; simp
  rw [e0] at h0
  have hk2 := h k hk'
  obtain ⟨e1, e2⟩ := add_out h0 k
  refine ⟨a.block, a.off, by rw [← e1], ?_⟩
  rw [e2] at hk2
  rw [hk2]
  simp [hk']
/-- a slice of strings, opened -/
theorem open_strs {H : Type} {enc : TypeId × Value → H} {w : World} {fuel : Nat} {v : Value} {x : DataW H × List MemPlace} (h : DataW.trod enc Tryd.prog w 0 (fun _ => true) true fuel 22 [v] = some x) :
    ∃ a cap l, v = .slice a (List.length l) cap ∧ StrsAt w a l ∧ l.length ≤ cap := by
  rcases open_strings Tryd.underlying22 Tryd.underlying9 cells9 h with ⟨hcs, _⟩ | ⟨a, len, cap, ss, hcs, _, hl, _, hsl, _, hc, _⟩
  · exact ⟨none, 0, [], by simpa using hcs, fun k hk => absurd hk (by simp), by simp⟩
  · simp only [if_true] at hsl
    have e : (ss.take len).length = len := by simp; omega
    exact ⟨some a, cap, ss.take len, by rw [e]; simpa using hcs, strsAt_of (by omega) hc, by omega⟩
/-- a slice of moves, opened -/
theorem open_mvs {H : Type} {enc : TypeId × Value → H} {w : World} {fuel : Nat} {v : Value} {x : DataW H × List MemPlace} (h : DataW.trod enc Tryd.prog w 0 (fun _ => true) true fuel 23 [v] = some x) :
    ∃ a cap l, v = .slice a (List.length l) cap ∧ MvsAt w a l := by
  rcases open_rows Tryd.underlying23 Tryd.underlying46 (by kernel_rfl) (by rw [cells46]; rfl) h with hcs | ⟨a, len, cap, hcs, hl, hm, hc⟩
  · exact ⟨none, 0, [], by simpa using hcs, fun k hk => absurd hk (by simp)⟩
  · have each : ∀ i, i < len → ∃ m : Mv, w.cell? (a.add (i * 3)) = some (.int .i64 m.frm) ∧ w.cell? (a.add (i * 3 + 1)) = some (.string m.meth) ∧ w.cell? (a.add (i * 3 + 2)) = some (.int .i64 m.to) := by
      intro i hi
      obtain ⟨n, hf⟩ := hc i hi
      obtain ⟨v0, y0, c0, t0⟩ := hf 0 _ rfl
      obtain ⟨v1, y1, c1, t1⟩ := hf 1 _ rfl
      obtain ⟨v2, y2, c2, t2⟩ := hf 2 _ rfl
      obtain ⟨x0, e0, _⟩ := DataW.trod_int Tryd.underlying3 t0
      obtain ⟨x1, e1, _⟩ := DataW.trod_string Tryd.underlying9 t1
      obtain ⟨x2, e2, _⟩ := DataW.trod_int Tryd.underlying3 t2
      simp only [List.cons.injEq, and_true] at e0 e1 e2
      subst e0 e1 e2
      exact ⟨⟨x0, x1, x2⟩, c0, c1, c2⟩
    obtain ⟨l, hll, hq⟩ := list_of len each
    refine ⟨some a, cap, l, by rw [hll]; simpa using hcs, fun k hk => ?_⟩
    have h0 := (hq 0 (by omega)).1
    have ea : a.add (0 * 3) = a := by unfold Addr.add; simp
    rw [ea] at h0
    obtain ⟨h1, h2, h3⟩ := hq k hk
    refine ⟨a.block, a.off, by rw [← (add_out h0 0).1], ?_, ?_, ?_⟩
    · rw [← h1, (add_out h0 (k * 3)).2]
    · rw [← h2, (add_out h0 (k * 3 + 1)).2, Nat.add_assoc]
    · rw [← h3, (add_out h0 (k * 3 + 2)).2, Nat.add_assoc]
/-- a protocol, opened -/
theorem open_pr {H : Type} {enc : TypeId × Value → H} {w : World} {b0 : Nat} {v : Value} {d : DataW H} {ps : List MemPlace} (hv : Value.okWide Tryd.prog w .any b0 25 v) (h : DataW.Trod enc Tryd.prog w 0 (fun _ => true) true 25 v d ps) :
    ∃ p a1 c1 a2 c2, v = PrV p a1 c1 a2 c2 ∧ StrsAt w a1 p.sts ∧ MvsAt w a2 p.mvs ∧ p.sts.length ≤ c1 := by
  obtain ⟨v0, v1, v2, v3, v4, y0, y1, y2, y3, y4, n, rfl, _, t0, t1, t2, t3, t4⟩ := open_agg5 Tryd.underlying25 (by kernel_rfl) cells25 hv h
  obtain ⟨x0, e0, _⟩ := DataW.trod_string Tryd.underlying9 t0
  obtain ⟨x2, e2, _⟩ := DataW.trod_int Tryd.underlying3 t2
  obtain ⟨x3, e3, _⟩ := DataW.trod_int Tryd.underlying3 t3
  obtain ⟨a1, c1, l1, e1, hs, hc⟩ := open_strs t1
  obtain ⟨a2, c2, l2, e4, hm⟩ := open_mvs t4
  simp only [List.cons.injEq, and_true] at e0 e2 e3
  subst e0 e2 e3 e1 e4
  exact ⟨⟨x0, l1, x2, x3, l2⟩, a1, c1, a2, c2, rfl, hs, hm, hc⟩

theorem hts3 : ∀ t ∈ Tryd.f3.params.toList, Tryd.prog.readableRec t = true ∧ t < Tryd.prog.types.size := by
  rw [Tryd.params3]
  intro t ht
  simp only [List.mem_cons, List.mem_nil_iff, or_false] at ht
  rcases ht with rfl | rfl | rfl
  · exact ⟨by kernel_rfl, of_decide_eq_true (by kernel_rfl)⟩
  · exact ⟨by kernel_rfl, of_decide_eq_true (by kernel_rfl)⟩
  · exact ⟨by kernel_rfl, of_decide_eq_true (by kernel_rfl)⟩
theorem contract3 (H : Type) (enc : TypeId × Value → H) (W : World) (base : Nat) (args : Array Value) (ds gs : List (DataW H)) (before : List MemPlace)
    (hval : ∀ (j : Nat) t v, Tryd.f3.params[j]? = some t → args[j]? = some v → Value.okWide Tryd.prog W .any base t v)
    (hW : DataW.Whole enc Tryd.prog Tryd.f3.params.toList Rows.protocolStepsSpec.vars false W args.toList ds gs before) (hL : laidMetH Tryd.prog Rows.protocolStepsRow.laid W) :
    Calls Tryd.prog 3 args W fun e W' => ∃ v, e = .returned v ∧ Rows.protocolStepsSpec.post enc Tryd.prog Tryd.f3 false true false false W args v W' := by
  have hW' := hW
  obtain ⟨p, q, hA0, hV, rfl, hfz, hnd⟩ := hW
  have hA : DataW.TrodAll enc Tryd.prog W 0 (fun _ => true) true Tryd.f3.params.toList args.toList ds p := hA0
  rw [Tryd.params3] at hA hval
  obtain ⟨v0, vs0, d0, ds0, p0, q0, hargs, rfl, rfl, h0, r0⟩ := trodAll_cons hA
  obtain ⟨v1, vs1, d1, ds1, p1, q1, rfl, rfl, rfl, h1, r1⟩ := trodAll_cons r0
  obtain ⟨v2, vs2, d2, ds2, p2, q2, rfl, rfl, rfl, h2, r2⟩ := trodAll_cons r1
  obtain ⟨rfl, rfl, rfl⟩ := trodAll_nil r2
  obtain rfl : args = #[v0, v1, v2] := by cases args; simp_all
  obtain ⟨P, a1, c1, a2, c2, hv0, hs, hm, hc⟩ := open_pr (hval 0 25 v0 rfl rfl) h0
  obtain ⟨n, hv1, _, _, _⟩ := open_int Tryd.underlying3 (hval 1 3 v1 rfl rfl) h1
  obtain ⟨a, len, cap, hv2⟩ := okWide_slice Tryd.underlying22 (hval 2 22 v2 rfl rfl)
  obtain ⟨fuel, hf⟩ := h2
  obtain ⟨am, cm, ms, hv2', hms, _⟩ := open_strs (v := v2) (by rw [hv2] at hf ⊢; exact hf)
  have walk := steps3 P a1 c1 a2 c2 n am cm ms W (kw_of hL) hs hm hc hms
  rw [← hv0, ← hv1, ← hv2'] at walk
  refine walk.mono fun e W' ⟨he, hb⟩ => ⟨_, he, ?_⟩
  exact law_post laidOut hts3 rfl Tryd.underlying4 rfl rfl hW' hb

/-- A world for the witness: the keywords as their initialiser lays them. -/
noncomputable def laidWorld (os : Os) : World :=
  { World.holding Tryd.prog os ⟨#[], #[], []⟩ with heap := (World.holding Tryd.prog os ⟨#[], #[], []⟩).heap.modify 0 fun
      | .cells _ t frozen => .cells kwArr t frozen
      | o => o }
theorem laid_met3 (os : Os) : laidMet Tryd.prog Rows.protocolStepsRow.laid ((laidWorld os).forCall (fun _ _ => 0) ⟨#[], #[.agg #[.string .empty, .slice none 0 0, .int .i64 0, .int .i64 0, .slice none 0 0], .int .i64 0, .slice none 0 0], []⟩).memory :=
  laidMet_of_run' 8 (by kernel_rfl) (by kernel_rfl)
theorem reads3 (os : Os) {H : Type} (enc : TypeId × Value → H) : ∃ places, DataW.whole enc Tryd.prog ((laidWorld os).forCall (fun _ _ => 0) ⟨#[], #[.agg #[.string .empty, .slice none 0 0, .int .i64 0, .int .i64 0, .slice none 0 0], .int .i64 0, .slice none 0 0], []⟩).memory Tryd.f3.params.toList Rows.protocolStepsSpec.vars false #[Value.agg #[.string .empty, .slice none 0 0, .int .i64 0, .int .i64 0, .slice none 0 0], .int .i64 0, .slice none 0 0].toList 8 = some ([.agg [.lit (.string []), .nil, .lit (.int .i64 0), .lit (.int .i64 0), .nil], .lit (.int .i64 0), .nil], [], places) :=
  ⟨[], by kernel_rfl⟩
set_option maxRecDepth 100000 in
theorem lifted3 (os : Os) (started : os.Started) (H : Type) (enc : TypeId × Value → H) (F : Stop.Interp) :
    ReturnsInHanded {} Tryd.checked os 3 .any ((OpenSpec.ofChange Rows.protocolStepsSpec).preRow enc Tryd.prog Tryd.f3 Rows.protocolStepsRow.domain false Rows.protocolStepsRow.laid) (((OpenSpec.ofChange Rows.protocolStepsSpec).at F).post enc Tryd.prog Tryd.f3 false true false false) := by
  obtain ⟨places, hx⟩ := reads3 os enc
  refine returnsInHanded_of_row (C := Tryd.checked) (s := OpenSpec.ofChange Rows.protocolStepsSpec) own started (by kernel_rfl) Tryd.func3
    (witness_row_at (enc := enc) (C := Tryd.checked) false (laidWorld os) #[.agg #[.string .empty, .slice none 0 0, .int .i64 0, .int .i64 0, .slice none 0 0], .int .i64 0, .slice none 0 0] rfl (by kernel_rfl) (by kernel_rfl) (by kernel_rfl)
      (OpenSpec.preRow_of_cond 8 hx (by kernel_rfl) (fun k hk => by cases hk) (by kernel_rfl) (laid_met3 os))) ?_
  intro W base args ds gs before hval hW _ _ _ hL _ _
  exact contract3 H enc W base args ds gs before hval hW hL
theorem said3 : Rows.ProtocolStepsSaid :=
  OpenClaim.holds_of_cond 3 Tryd.f3 rfl rfl rfl rfl rfl rfl rfl ⟨rfl, rfl, rfl, rfl, rfl⟩ rfl rfl rfl rfl rfl (by kernel_rfl) Tryd.func3 (by kernel_rfl)
    (of_decide_eq_true (by kernel_rfl)) (by unfold Func.isWrapper; first | (rw [if_pos (by decide +kernel)]; kernel_rfl) | (rw [if_neg (by decide +kernel)]; exact ⟨rfl, rfl⟩))
    (fun os started H enc _ F => by rw [OpenClaim.pre_eq_preRow]; exact lifted3 os started H enc F)
/-- No parameter wants a stand-in; the program's own looks are off. -/
theorem plain3 (f : FuncId) (fn : Func) (hf : Tryd.pinned.checked.prog.funcNamed "dataflow/dataflowlaw39.ProtocolSteps" = some f) (hfn : Tryd.pinned.checked.prog.funcs[f]? = some fn) :
    false = Tryd.pinned.checked.prog.looks [] ∧ ∀ (j : Nat) t, fn.params[j]? = some t → Tryd.pinned.checked.prog.wantsStandIn t = false := by
  obtain rfl : f = 3 := Option.some.inj ((show Tryd.prog.funcNamed "dataflow/dataflowlaw39.ProtocolSteps" = some 3 by kernel_rfl).symm.trans hf) |>.symm
  obtain rfl : fn = Tryd.f3 := (Option.some.inj (Tryd.func3.symm.trans hfn)).symm
  refine ⟨by kernel_rfl, fun j t ht => ?_⟩
  have hm := Array.mem_of_getElem? ht
  rw [Tryd.params3] at hm
  simp only [List.mem_toArray, List.mem_cons, List.mem_nil_iff, or_false] at hm
  rcases hm with rfl | rfl | rfl
  · exact (show Tryd.prog.wantsStandIn 25 = false by kernel_rfl)
  · exact (show Tryd.prog.wantsStandIn 3 = false by kernel_rfl)
  · exact (show Tryd.prog.wantsStandIn 22 = false by kernel_rfl)
/-- THE CARD. -/
theorem card3 : Rows.ProtocolStepsCardSaid :=
  Claim7.holds_tied_plain_at .later [] _ _ _ _ said3 (fun _ h => by cases h) (by kernel_rfl) (fun _ h => by cases h) protocolSteps_row_tie rfl ⟨rfl, rfl⟩ (by kernel_rfl) rfl plain3 (by kernel_rfl)
end Go.Proofs.YtlkafolgbkobpaaDoor
