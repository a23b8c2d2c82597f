/-
  Closed facts of the row of SensitiveTells, by the kernel.
-/
import Derived.Test.YtdbmmdjmkbnboaaGreatDoorCards
import Derived.KernelRfl
import Derived.JoinedOf
namespace Go.Proofs.YtdbmmdjmkbnboaaGreatDoor
set_option maxRecDepth 100000
theorem inPl4 : Rows.sensitiveTellsRow.inPlace = Tryz.pinned.checked.prog.inPlace 4 := eq_of_beq (show (Rows.sensitiveTellsRow.inPlace == Tryz.pinned.checked.prog.inPlace 4) = true by kernel_rfl)
theorem unfo4 : Rows.sensitiveTellsRow.unfollowed = Tryz.pinned.checked.prog.unfollowed 4 := eq_of_beq (show (Rows.sensitiveTellsRow.unfollowed == Tryz.pinned.checked.prog.unfollowed 4) = true by kernel_rfl)
theorem recu4 : Rows.sensitiveTellsRow.recurses = Tryz.pinned.checked.prog.recurses 4 := eq_of_beq (show (Rows.sensitiveTellsRow.recurses == Tryz.pinned.checked.prog.recurses 4) = true by kernel_rfl)
theorem nams4 : Rows.sensitiveTellsRow.named = Tryz.pinned.checked.prog.varsNamed 4 := eq_of_beq (show (Rows.sensitiveTellsRow.named == Tryz.pinned.checked.prog.varsNamed 4) = true by kernel_rfl)
end Go.Proofs.YtdbmmdjmkbnboaaGreatDoor
