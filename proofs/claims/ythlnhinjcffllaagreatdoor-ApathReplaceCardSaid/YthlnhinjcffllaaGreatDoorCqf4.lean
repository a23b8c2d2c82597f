/-
  Closed facts of the row of ApathReplace, by the kernel.
-/
import Derived.Test.YthlnhinjcffllaaGreatDoorCards
import Derived.KernelRfl
import Derived.JoinedOf
namespace Go.Proofs.YthlnhinjcffllaaGreatDoor
set_option maxRecDepth 100000
theorem inPl4 : Rows.apathReplaceRow.inPlace = Tryz.pinned.checked.prog.inPlace 4 := eq_of_beq (show (Rows.apathReplaceRow.inPlace == Tryz.pinned.checked.prog.inPlace 4) = true by kernel_rfl)
theorem unfo4 : Rows.apathReplaceRow.unfollowed = Tryz.pinned.checked.prog.unfollowed 4 := eq_of_beq (show (Rows.apathReplaceRow.unfollowed == Tryz.pinned.checked.prog.unfollowed 4) = true by kernel_rfl)
theorem recu4 : Rows.apathReplaceRow.recurses = Tryz.pinned.checked.prog.recurses 4 := eq_of_beq (show (Rows.apathReplaceRow.recurses == Tryz.pinned.checked.prog.recurses 4) = true by kernel_rfl)
theorem nams4 : Rows.apathReplaceRow.named = Tryz.pinned.checked.prog.varsNamed 4 := eq_of_beq (show (Rows.apathReplaceRow.named == Tryz.pinned.checked.prog.varsNamed 4) = true by kernel_rfl)
end Go.Proofs.YthlnhinjcffllaaGreatDoor
