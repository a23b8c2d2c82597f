/-
  Closed facts of the row of ApathBack, by the kernel.
-/
import Derived.Test.YthlnhinjcffllaaGreatDoorCards
import Derived.KernelRfl
import Derived.JoinedOf
namespace Go.Proofs.YthlnhinjcffllaaGreatDoor
set_option maxRecDepth 100000
theorem inPl6 : Rows.apathBackRow.inPlace = Tryz.pinned.checked.prog.inPlace 6 := eq_of_beq (show (Rows.apathBackRow.inPlace == Tryz.pinned.checked.prog.inPlace 6) = true by kernel_rfl)
theorem unfo6 : Rows.apathBackRow.unfollowed = Tryz.pinned.checked.prog.unfollowed 6 := eq_of_beq (show (Rows.apathBackRow.unfollowed == Tryz.pinned.checked.prog.unfollowed 6) = true by kernel_rfl)
theorem recu6 : Rows.apathBackRow.recurses = Tryz.pinned.checked.prog.recurses 6 := eq_of_beq (show (Rows.apathBackRow.recurses == Tryz.pinned.checked.prog.recurses 6) = true by kernel_rfl)
theorem nams6 : Rows.apathBackRow.named = Tryz.pinned.checked.prog.varsNamed 6 := eq_of_beq (show (Rows.apathBackRow.named == Tryz.pinned.checked.prog.varsNamed 6) = true by kernel_rfl)
end Go.Proofs.YthlnhinjcffllaaGreatDoor
