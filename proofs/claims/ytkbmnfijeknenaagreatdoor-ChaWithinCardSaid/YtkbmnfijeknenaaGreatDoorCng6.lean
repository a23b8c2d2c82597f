/-
  Closed facts of the row of ChaWithin, by the kernel.
-/
import Derived.Test.YtkbmnfijeknenaaGreatDoorCards
import Derived.Test.YtkbmnfijeknenaaGreatDoorCnf6
import Derived.KernelRfl
import Derived.JoinedOf
namespace Go.Proofs.YtkbmnfijeknenaaGreatDoor
set_option maxRecDepth 100000
theorem goes6:false=Rows.chaWithinRow.goesBy Tryz.pinned.checked.prog:=by kernel_rfl
theorem closed6:joinedFacts Tryz.pinned.checked.prog 6 Tryz.f6 (OpenSpec.ofChange Rows.chaWithinSpec).bare Rows.chaWithinRow=true:=by
 unfold joinedFacts
 rw [← inPl6,← unfo6,← recu6,← nams6]
 kernel_rfl
end Go.Proofs.YtkbmnfijeknenaaGreatDoor
