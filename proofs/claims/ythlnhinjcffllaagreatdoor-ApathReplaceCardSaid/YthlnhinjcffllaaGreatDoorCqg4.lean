/-
  Closed facts of the row of ApathReplace, by the kernel.
-/
import Derived.Test.YthlnhinjcffllaaGreatDoorCards
import Derived.Test.YthlnhinjcffllaaGreatDoorCqf4
import Derived.KernelRfl
import Derived.JoinedOf
namespace Go.Proofs.YthlnhinjcffllaaGreatDoor
set_option maxRecDepth 100000
theorem goes4 : false = Rows.apathReplaceRow.goesBy Tryz.pinned.checked.prog := by kernel_rfl
theorem closed4 : joinedFacts Tryz.pinned.checked.prog 4 Tryz.f4 (OpenSpec.ofChange Rows.apathReplaceSpec).bare Rows.apathReplaceRow = true := by
  unfold joinedFacts
  rw [← inPl4, ← unfo4, ← recu4, ← nams4]
  kernel_rfl
end Go.Proofs.YthlnhinjcffllaaGreatDoor
