/-
  Closed facts of the row of ApathPaths, by the kernel.
-/
import Derived.Test.YthlnhinjcffllaaGreatDoorCards
import Derived.KernelRfl
import Derived.JoinedOf
namespace Go.Proofs.YthlnhinjcffllaaGreatDoor
set_option maxRecDepth 100000
theorem inPl3 : Rows.apathPathsRow.inPlace = Tryz.pinned.checked.prog.inPlace 3 := eq_of_beq (show (Rows.apathPathsRow.inPlace == Tryz.pinned.checked.prog.inPlace 3) = true by kernel_rfl)
theorem unfo3 : Rows.apathPathsRow.unfollowed = Tryz.pinned.checked.prog.unfollowed 3 := eq_of_beq (show (Rows.apathPathsRow.unfollowed == Tryz.pinned.checked.prog.unfollowed 3) = true by kernel_rfl)
theorem recu3 : Rows.apathPathsRow.recurses = Tryz.pinned.checked.prog.recurses 3 := eq_of_beq (show (Rows.apathPathsRow.recurses == Tryz.pinned.checked.prog.recurses 3) = true by kernel_rfl)
theorem nams3 : Rows.apathPathsRow.named = Tryz.pinned.checked.prog.varsNamed 3 := eq_of_beq (show (Rows.apathPathsRow.named == Tryz.pinned.checked.prog.varsNamed 3) = true by kernel_rfl)
end Go.Proofs.YthlnhinjcffllaaGreatDoor
