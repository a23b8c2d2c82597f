/-
  Closed facts of the row of ChaReached, by the kernel.
-/
import Derived.Test.YtkbmnfijeknenaaGreatDoorCards
import Derived.KernelRfl
import Derived.JoinedOf
namespace Go.Proofs.YtkbmnfijeknenaaGreatDoor
set_option maxRecDepth 100000
theorem inPl4 : Rows.chaReachedRow.inPlace = Tryz.pinned.checked.prog.inPlace 4 := eq_of_beq (show (Rows.chaReachedRow.inPlace == Tryz.pinned.checked.prog.inPlace 4) = true by kernel_rfl)
theorem unfo4 : Rows.chaReachedRow.unfollowed = Tryz.pinned.checked.prog.unfollowed 4 := eq_of_beq (show (Rows.chaReachedRow.unfollowed == Tryz.pinned.checked.prog.unfollowed 4) = true by kernel_rfl)
theorem recu4 : Rows.chaReachedRow.recurses = Tryz.pinned.checked.prog.recurses 4 := eq_of_beq (show (Rows.chaReachedRow.recurses == Tryz.pinned.checked.prog.recurses 4) = true by kernel_rfl)
theorem nams4 : Rows.chaReachedRow.named = Tryz.pinned.checked.prog.varsNamed 4 := eq_of_beq (show (Rows.chaReachedRow.named == Tryz.pinned.checked.prog.varsNamed 4) = true by kernel_rfl)
end Go.Proofs.YtkbmnfijeknenaaGreatDoor
