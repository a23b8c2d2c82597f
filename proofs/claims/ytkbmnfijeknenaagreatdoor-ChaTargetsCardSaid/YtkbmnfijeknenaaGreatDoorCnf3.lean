/-
  Closed facts of the row of ChaTargets, by the kernel.
-/
import Derived.Test.YtkbmnfijeknenaaGreatDoorCards
import Derived.KernelRfl
import Derived.JoinedOf
namespace Go.Proofs.YtkbmnfijeknenaaGreatDoor
set_option maxRecDepth 100000
theorem inPl3 : Rows.chaTargetsRow.inPlace = Tryz.pinned.checked.prog.inPlace 3 := eq_of_beq (show (Rows.chaTargetsRow.inPlace == Tryz.pinned.checked.prog.inPlace 3) = true by kernel_rfl)
theorem unfo3 : Rows.chaTargetsRow.unfollowed = Tryz.pinned.checked.prog.unfollowed 3 := eq_of_beq (show (Rows.chaTargetsRow.unfollowed == Tryz.pinned.checked.prog.unfollowed 3) = true by kernel_rfl)
theorem recu3 : Rows.chaTargetsRow.recurses = Tryz.pinned.checked.prog.recurses 3 := eq_of_beq (show (Rows.chaTargetsRow.recurses == Tryz.pinned.checked.prog.recurses 3) = true by kernel_rfl)
theorem nams3 : Rows.chaTargetsRow.named = Tryz.pinned.checked.prog.varsNamed 3 := eq_of_beq (show (Rows.chaTargetsRow.named == Tryz.pinned.checked.prog.varsNamed 3) = true by kernel_rfl)
end Go.Proofs.YtkbmnfijeknenaaGreatDoor
