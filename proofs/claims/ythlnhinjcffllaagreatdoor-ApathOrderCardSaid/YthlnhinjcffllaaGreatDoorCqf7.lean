/-
  Closed facts of the row of ApathOrder, by the kernel.
-/
import Derived.Test.YthlnhinjcffllaaGreatDoorCards
import Derived.KernelRfl
import Derived.JoinedOf
namespace Go.Proofs.YthlnhinjcffllaaGreatDoor
set_option maxRecDepth 100000
theorem inPl7 : Rows.apathOrderRow.inPlace = Tryz.pinned.checked.prog.inPlace 7 := eq_of_beq (show (Rows.apathOrderRow.inPlace == Tryz.pinned.checked.prog.inPlace 7) = true by kernel_rfl)
theorem unfo7 : Rows.apathOrderRow.unfollowed = Tryz.pinned.checked.prog.unfollowed 7 := eq_of_beq (show (Rows.apathOrderRow.unfollowed == Tryz.pinned.checked.prog.unfollowed 7) = true by kernel_rfl)
theorem recu7 : Rows.apathOrderRow.recurses = Tryz.pinned.checked.prog.recurses 7 := eq_of_beq (show (Rows.apathOrderRow.recurses == Tryz.pinned.checked.prog.recurses 7) = true by kernel_rfl)
theorem nams7 : Rows.apathOrderRow.named = Tryz.pinned.checked.prog.varsNamed 7 := eq_of_beq (show (Rows.apathOrderRow.named == Tryz.pinned.checked.prog.varsNamed 7) = true by kernel_rfl)
end Go.Proofs.YthlnhinjcffllaaGreatDoor
