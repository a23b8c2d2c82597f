/-
  Closed facts of the row of ApathTexts, by the kernel.
-/
import Derived.Test.YthlnhinjcffllaaGreatDoorCards
import Derived.Test.YthlnhinjcffllaaGreatDoorCqf5
import Derived.KernelRfl
import Derived.JoinedOf
namespace Go.Proofs.YthlnhinjcffllaaGreatDoor
set_option maxRecDepth 100000
theorem goes5 : false = Rows.apathTextsRow.goesBy Tryz.pinned.checked.prog := by kernel_rfl
theorem closed5 : joinedFacts Tryz.pinned.checked.prog 5 Tryz.f5 (OpenSpec.ofChange Rows.apathTextsSpec).bare Rows.apathTextsRow = true := by
  unfold joinedFacts
  rw [← inPl5, ← unfo5, ← recu5, ← nams5]
  kernel_rfl
end Go.Proofs.YthlnhinjcffllaaGreatDoor
