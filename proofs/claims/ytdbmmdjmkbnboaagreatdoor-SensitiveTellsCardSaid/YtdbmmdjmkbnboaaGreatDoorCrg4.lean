/-
  Closed facts of the row of SensitiveTells, by the kernel.
-/
import Derived.Test.YtdbmmdjmkbnboaaGreatDoorCards
import Derived.Test.YtdbmmdjmkbnboaaGreatDoorCrf4
import Derived.KernelRfl
import Derived.JoinedOf
namespace Go.Proofs.YtdbmmdjmkbnboaaGreatDoor
set_option maxRecDepth 100000
theorem any_any {α : Type} {p : α → Bool} {a : Array α} (h : a.any p = false) (g : Nat) : (a[g]?).any p = false := by
  rw [Array.any_eq_false] at h
  cases e : a[g]? with
  | none => rfl
  | some x =>
    obtain ⟨hg, rfl⟩ := Array.getElem?_eq_some_iff.1 e
    simpa using h g hg
/-- where no function of the program starts a goroutine, no row does -/
theorem goes_none {P : Program} (h : P.funcs.any Func.goes = false) (f : FuncId) : P.goes f = false := by
  unfold Program.goes
  rw [h, Bool.and_false, Bool.or_false, List.any_eq_false]
  intro g _
  rw [any_any h g]
  simp
theorem goesAt_none {P : Program} (h : P.funcs.any Func.goes = false) (s : Start) (hs : s = .entering) (func : String) : P.goesAt s func = false := by
  subst hs
  unfold Program.goesAt Program.goesFrom
  cases P.funcNamed func with
  | none => rfl
  | some f => simp [goes_none h f]
theorem noGo : Tryz.pinned.checked.prog.funcs.any Func.goes = false := by kernel_rfl
theorem goes4 : false = Rows.sensitiveTellsRow.goesBy Tryz.pinned.checked.prog := (goesAt_none noGo _ rfl _).symm
theorem closed4 : joinedFacts Tryz.pinned.checked.prog 4 Tryz.f4 (OpenSpec.ofChange Rows.sensitiveTellsSpec).bare Rows.sensitiveTellsRow = true := by
  unfold joinedFacts
  rw [← inPl4, ← unfo4, ← recu4, ← nams4]
  kernel_rfl
end Go.Proofs.YtdbmmdjmkbnboaaGreatDoor
