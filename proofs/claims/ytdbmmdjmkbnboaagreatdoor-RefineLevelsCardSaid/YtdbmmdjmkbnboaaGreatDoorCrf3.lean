/-
  Closed facts of the row of RefineLevels, by the kernel.
-/
import Derived.Test.YtdbmmdjmkbnboaaGreatDoorCards
import Derived.KernelRfl
import Derived.JoinedOf
namespace Go.Proofs.YtdbmmdjmkbnboaaGreatDoor
set_option maxRecDepth 100000
theorem inPl3 : Rows.refineLevelsRow.inPlace = Tryz.pinned.checked.prog.inPlace 3 := eq_of_beq (show (Rows.refineLevelsRow.inPlace == Tryz.pinned.checked.prog.inPlace 3) = true by kernel_rfl)
theorem unfo3 : Rows.refineLevelsRow.unfollowed = Tryz.pinned.checked.prog.unfollowed 3 := eq_of_beq (show (Rows.refineLevelsRow.unfollowed == Tryz.pinned.checked.prog.unfollowed 3) = true by kernel_rfl)
theorem recu3 : Rows.refineLevelsRow.recurses = Tryz.pinned.checked.prog.recurses 3 := eq_of_beq (show (Rows.refineLevelsRow.recurses == Tryz.pinned.checked.prog.recurses 3) = true by kernel_rfl)
theorem nams3 : Rows.refineLevelsRow.named = Tryz.pinned.checked.prog.varsNamed 3 := eq_of_beq (show (Rows.refineLevelsRow.named == Tryz.pinned.checked.prog.varsNamed 3) = true by kernel_rfl)
end Go.Proofs.YtdbmmdjmkbnboaaGreatDoor
