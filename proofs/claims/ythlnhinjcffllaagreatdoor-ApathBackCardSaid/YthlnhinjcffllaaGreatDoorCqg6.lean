/-
  Closed facts of the row of ApathBack, by the kernel.
-/
import Derived.Test.YthlnhinjcffllaaGreatDoorCards
import Derived.Test.YthlnhinjcffllaaGreatDoorCqf6
import Derived.KernelRfl
import Derived.JoinedOf
namespace Go.Proofs.YthlnhinjcffllaaGreatDoor
set_option maxRecDepth 100000
theorem goes6 : false = Rows.apathBackRow.goesBy Tryz.pinned.checked.prog := by kernel_rfl
theorem closed6 : joinedFacts Tryz.pinned.checked.prog 6 Tryz.f6 (OpenSpec.ofChange Rows.apathBackSpec).bare Rows.apathBackRow = true := by
  unfold joinedFacts
  rw [← inPl6, ← unfo6, ← recu6, ← nams6]
  kernel_rfl
end Go.Proofs.YthlnhinjcffllaaGreatDoor
