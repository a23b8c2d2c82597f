/-
  Closed facts of the row of ConstraintReceivers, by the kernel.
-/
import Derived.Test.YtkbmnfijeknenaaGreatDoorCards
import Derived.KernelRfl
import Derived.JoinedOf
namespace Go.Proofs.YtkbmnfijeknenaaGreatDoor
set_option maxRecDepth 100000
theorem inPl10 : Rows.constraintReceiversRow.inPlace = Tryz.pinned.checked.prog.inPlace 10 := eq_of_beq (show (Rows.constraintReceiversRow.inPlace == Tryz.pinned.checked.prog.inPlace 10) = true by kernel_rfl)
theorem unfo10 : Rows.constraintReceiversRow.unfollowed = Tryz.pinned.checked.prog.unfollowed 10 := eq_of_beq (show (Rows.constraintReceiversRow.unfollowed == Tryz.pinned.checked.prog.unfollowed 10) = true by kernel_rfl)
theorem recu10 : Rows.constraintReceiversRow.recurses = Tryz.pinned.checked.prog.recurses 10 := eq_of_beq (show (Rows.constraintReceiversRow.recurses == Tryz.pinned.checked.prog.recurses 10) = true by kernel_rfl)
theorem nams10 : Rows.constraintReceiversRow.named = Tryz.pinned.checked.prog.varsNamed 10 := eq_of_beq (show (Rows.constraintReceiversRow.named == Tryz.pinned.checked.prog.varsNamed 10) = true by kernel_rfl)
end Go.Proofs.YtkbmnfijeknenaaGreatDoor
