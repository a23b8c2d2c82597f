/-
  Closed facts of the row of ApathOrder, by the kernel.
-/
import Derived.Test.YthlnhinjcffllaaGreatDoorCards
import Derived.Test.YthlnhinjcffllaaGreatDoorCqf7
import Derived.KernelRfl
import Derived.JoinedOf
namespace Go.Proofs.YthlnhinjcffllaaGreatDoor
set_option maxRecDepth 100000
theorem goes7 : false = Rows.apathOrderRow.goesBy Tryz.pinned.checked.prog := by kernel_rfl
theorem closed7 : joinedFacts Tryz.pinned.checked.prog 7 Tryz.f7 (OpenSpec.ofChange Rows.apathOrderSpec).bare Rows.apathOrderRow = true := by
  unfold joinedFacts
  rw [← inPl7, ← unfo7, ← recu7, ← nams7]
  kernel_rfl
end Go.Proofs.YthlnhinjcffllaaGreatDoor
