/-
  Closed facts of the row of ChaTargets, by the kernel.
-/
import Derived.Test.YtkbmnfijeknenaaGreatDoorCards
import Derived.Test.YtkbmnfijeknenaaGreatDoorCnf3
import Derived.KernelRfl
import Derived.JoinedOf
namespace Go.Proofs.YtkbmnfijeknenaaGreatDoor
set_option maxRecDepth 100000
theorem goes3 : false = Rows.chaTargetsRow.goesBy Tryz.pinned.checked.prog := by kernel_rfl
theorem closed3 : joinedFacts Tryz.pinned.checked.prog 3 Tryz.f3 (OpenSpec.ofChange Rows.chaTargetsSpec).bare Rows.chaTargetsRow = true := by
  unfold joinedFacts
  rw [← inPl3, ← unfo3, ← recu3, ← nams3]
  kernel_rfl
end Go.Proofs.YtkbmnfijeknenaaGreatDoor
