/-
  Closed facts of the row of ConstraintNumbers, by the kernel.
-/
import Derived.Test.YtkbmnfijeknenaaGreatDoorCards
import Derived.KernelRfl
import Derived.JoinedOf
namespace Go.Proofs.YtkbmnfijeknenaaGreatDoor
set_option maxRecDepth 100000
theorem inPl8 : Rows.constraintNumbersRow.inPlace = Tryz.pinned.checked.prog.inPlace 8 := eq_of_beq (show (Rows.constraintNumbersRow.inPlace == Tryz.pinned.checked.prog.inPlace 8) = true by kernel_rfl)
theorem unfo8 : Rows.constraintNumbersRow.unfollowed = Tryz.pinned.checked.prog.unfollowed 8 := eq_of_beq (show (Rows.constraintNumbersRow.unfollowed == Tryz.pinned.checked.prog.unfollowed 8) = true by kernel_rfl)
theorem recu8 : Rows.constraintNumbersRow.recurses = Tryz.pinned.checked.prog.recurses 8 := eq_of_beq (show (Rows.constraintNumbersRow.recurses == Tryz.pinned.checked.prog.recurses 8) = true by kernel_rfl)
theorem nams8 : Rows.constraintNumbersRow.named = Tryz.pinned.checked.prog.varsNamed 8 := eq_of_beq (show (Rows.constraintNumbersRow.named == Tryz.pinned.checked.prog.varsNamed 8) = true by kernel_rfl)
end Go.Proofs.YtkbmnfijeknenaaGreatDoor
