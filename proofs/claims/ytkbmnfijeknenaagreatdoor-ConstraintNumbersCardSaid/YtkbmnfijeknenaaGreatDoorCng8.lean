/-
  Closed facts of the row of ConstraintNumbers, by the kernel.
-/
import Derived.Test.YtkbmnfijeknenaaGreatDoorCards
import Derived.Test.YtkbmnfijeknenaaGreatDoorCnf8
import Derived.KernelRfl
import Derived.JoinedOf
namespace Go.Proofs.YtkbmnfijeknenaaGreatDoor
set_option maxRecDepth 100000
theorem goes8 : false = Rows.constraintNumbersRow.goesBy Tryz.pinned.checked.prog := by kernel_rfl
theorem closed8 : joinedFacts Tryz.pinned.checked.prog 8 Tryz.f8 (OpenSpec.ofChange Rows.constraintNumbersSpec).bare Rows.constraintNumbersRow = true := by
  unfold joinedFacts
  rw [← inPl8, ← unfo8, ← recu8, ← nams8]
  kernel_rfl
end Go.Proofs.YtkbmnfijeknenaaGreatDoor
