/-
  Closed facts of the row of ApathCells, by the kernel.
-/
import Derived.Test.YtffcklfigpmlgaaGreatDoorCards
import Derived.Test.YtffcklfigpmlgaaGreatDoorCnf3
import Derived.KernelRfl
import Derived.JoinedOf
namespace Go.Proofs.YtffcklfigpmlgaaGreatDoor
set_option maxRecDepth 100000
theorem any_any {α:Type} {p:α→Bool} {a:Array α} (h:a.any p=false) (g:Nat):(a[g]?).any p=false:=by
 rw [Array.any_eq_false] at h
 cases e:a[g]? with
 | none=>rfl
 | some x =>
   obtain ⟨hg,rfl⟩:=Array.getElem?_eq_some_iff.1 e
   simpa using h g hg
theorem goes_none {P:Program} (h:P.funcs.any Func.goes=false) (f:FuncId):P.goes f=false:=by
 unfold Program.goes
 rw [h,Bool.and_false,Bool.or_false,List.any_eq_false]
 intro g _
 rw [any_any h g]
 simp
theorem goesAt_none {P:Program} (h:P.funcs.any Func.goes=false) (s:Start) (hs:s = .entering) (func:String):P.goesAt s func=false:=by
 subst hs
 unfold Program.goesAt Program.goesFrom
 cases P.funcNamed func with
 | none=>rfl
 | some f=>simp [goes_none h f]
theorem noGo:Tryz.pinned.checked.prog.funcs.any Func.goes=false:=by kernel_rfl
theorem goes3:false=Rows.apathCellsRow.goesBy Tryz.pinned.checked.prog:=(goesAt_none noGo _ rfl _).symm
theorem closed3:joinedFacts Tryz.pinned.checked.prog 3 Tryz.f3 (OpenSpec.ofChange Rows.apathCellsSpec).bare Rows.apathCellsRow=true:=by
 unfold joinedFacts
 rw [← inPl3,← unfo3,← recu3,← nams3]
 kernel_rfl
end Go.Proofs.YtffcklfigpmlgaaGreatDoor
