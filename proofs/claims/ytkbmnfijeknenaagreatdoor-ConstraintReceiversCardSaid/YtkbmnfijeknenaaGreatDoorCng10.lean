/-
  Closed facts of the row of ConstraintReceivers, by the kernel.
-/
import Derived.Test.YtkbmnfijeknenaaGreatDoorCards
import Derived.Test.YtkbmnfijeknenaaGreatDoorCnf10
import Derived.KernelRfl
import Derived.JoinedOf
namespace Go.Proofs.YtkbmnfijeknenaaGreatDoor
set_option maxRecDepth 100000
theorem goes10 : false = Rows.constraintReceiversRow.goesBy Tryz.pinned.checked.prog := by kernel_rfl
theorem closed10 : joinedFacts Tryz.pinned.checked.prog 10 Tryz.f10 (OpenSpec.ofChange Rows.constraintReceiversSpec).bare Rows.constraintReceiversRow = true := by
  unfold joinedFacts
  rw [← inPl10, ← unfo10, ← recu10, ← nams10]
  kernel_rfl
end Go.Proofs.YtkbmnfijeknenaaGreatDoor
