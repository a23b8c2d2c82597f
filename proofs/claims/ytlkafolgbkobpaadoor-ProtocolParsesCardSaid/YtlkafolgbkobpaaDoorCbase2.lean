/-
  What the claims ProtocolBack and ProtocolParses share: the listed variables, a world for the witness.
-/
import Derived.Test.YtlkafolgbkobpaaDoorCbase
import Derived.Test.YtlkafolgbkobpaaDoorA31
namespace Go.Proofs.YtlkafolgbkobpaaDoor
open Go.ChangeShapes Go.WideShapes Go.ChangeAt Go.RowKit Go.LawLift

/-- what the rows' list gives -/
theorem kw_of2 {W : World} {n : String} {d : DataW Unit} {rest : List (String × DataW Unit)} (h : laidMet Tryd.prog ((n, d) :: ("dataflow/lex.keywords", Rows.laid_dataflow_lex_keywords) :: rest) W) : KW W := by
  obtain ⟨ps, ⟨_, _, _, _, _, _, _, _, _, _, ⟨g', t', cs, fuel, p, q, hg', ht', hvar, hd, _, _⟩, _⟩, _⟩ := h
  obtain rfl := Option.some.inj (gKw.symm.trans hg')
  obtain rfl := Option.some.inj (gKwType.symm.trans ht')
  rw [kw_data] at hd
  have hcs := cells_of_strs Tryd.underlying82 Tryd.underlying9 cells9 cells82 hd
  simp only [World.var?, gKw, Option.bind_some] at hvar
  split at hvar
  · rename_i c t fr hh
    refine ⟨t, fr, ?_⟩
    rw [hh]
    have : c = kwArr := by
      have e : c = cs := by simpa using hvar
      subst e
      unfold kwArr
      rw [← hcs]
    rw [this]
  · cases hvar
theorem mc_of {W : World} (h : W.ShapedOpen Tryd.prog) : ∃ m, W.cell? ⟨1, 0, none⟩ = some (.int .i64 m) := Tryd.laysM145.s1_3 W h
def firstArr : Array Value := (Go.Pinned.utf8FirstZ.map fun (n : Nat) => Value.int .u8 (n : Int)).toArray
def accArr : Array Value := (([128, 191, 160, 191, 128, 159, 144, 191, 128, 143, 0, 0, 0, 0, 0, 0, 0, 0, 0, 0, 0, 0, 0, 0, 0, 0, 0, 0, 0, 0, 0, 0] : List Int).map (Value.int .u8)).toArray
def relay (cs : Array Value) : Obj → Obj
  | .cells _ t frozen => .cells cs t frozen
  | o => o
/-- A world for the witness: the listed variables as their initialisers lay them. -/
noncomputable def laidWorld2 (os : Os) : World :=
  { World.holding Tryd.prog os ⟨#[], #[], []⟩ with heap := (((World.holding Tryd.prog os ⟨#[], #[], []⟩).heap.modify 0 (relay kwArr)).modify 2 (relay firstArr)).modify 3 (relay accArr) }
end Go.Proofs.YtlkafolgbkobpaaDoor
