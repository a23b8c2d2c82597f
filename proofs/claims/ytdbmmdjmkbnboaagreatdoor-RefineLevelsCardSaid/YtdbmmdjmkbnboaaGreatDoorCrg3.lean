/-
  Closed facts of the row of RefineLevels, by the kernel.
-/
import Derived.Test.YtdbmmdjmkbnboaaGreatDoorCards
import Derived.Test.YtdbmmdjmkbnboaaGreatDoorCrf3
import Derived.KernelRfl
import Derived.JoinedOf
namespace Go.Proofs.YtdbmmdjmkbnboaaGreatDoor
set_option maxRecDepth 100000
theorem goes3 : false = Rows.refineLevelsRow.goesBy Tryz.pinned.checked.prog := by kernel_rfl
theorem closed3 : joinedFacts Tryz.pinned.checked.prog 3 Tryz.f3 (OpenSpec.ofChange Rows.refineLevelsSpec).bare Rows.refineLevelsRow = true := by
  unfold joinedFacts
  rw [← inPl3, ← unfo3, ← recu3, ← nams3]
  kernel_rfl
end Go.Proofs.YtdbmmdjmkbnboaaGreatDoor
