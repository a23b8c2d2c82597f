/-
  Closed facts of the row of ChaReached, by the kernel.
-/
import Derived.Test.YtkbmnfijeknenaaGreatDoorCards
import Derived.Test.YtkbmnfijeknenaaGreatDoorCnf4
import Derived.KernelRfl
import Derived.JoinedOf
namespace Go.Proofs.YtkbmnfijeknenaaGreatDoor
set_option maxRecDepth 100000
theorem goes4 : false = Rows.chaReachedRow.goesBy Tryz.pinned.checked.prog := by kernel_rfl
theorem closed4 : joinedFacts Tryz.pinned.checked.prog 4 Tryz.f4 (OpenSpec.ofChange Rows.chaReachedSpec).bare Rows.chaReachedRow = true := by
  unfold joinedFacts
  rw [← inPl4, ← unfo4, ← recu4, ← nams4]
  kernel_rfl
end Go.Proofs.YtkbmnfijeknenaaGreatDoor
