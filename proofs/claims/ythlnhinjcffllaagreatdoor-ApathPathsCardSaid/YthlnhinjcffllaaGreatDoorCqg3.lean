/-
  Closed facts of the row of ApathPaths, by the kernel.
-/
import Derived.Test.YthlnhinjcffllaaGreatDoorCards
import Derived.Test.YthlnhinjcffllaaGreatDoorCqf3
import Derived.KernelRfl
import Derived.JoinedOf
namespace Go.Proofs.YthlnhinjcffllaaGreatDoor
set_option maxRecDepth 100000
theorem goes3 : false = Rows.apathPathsRow.goesBy Tryz.pinned.checked.prog := by kernel_rfl
theorem closed3 : joinedFacts Tryz.pinned.checked.prog 3 Tryz.f3 (OpenSpec.ofChange Rows.apathPathsSpec).bare Rows.apathPathsRow = true := by
  unfold joinedFacts
  rw [← inPl3, ← unfo3, ← recu3, ← nams3]
  kernel_rfl
end Go.Proofs.YthlnhinjcffllaaGreatDoor
