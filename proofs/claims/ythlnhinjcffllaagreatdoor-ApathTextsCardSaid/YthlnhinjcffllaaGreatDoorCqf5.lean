/-
  Closed facts of the row of ApathTexts, by the kernel.
-/
import Derived.Test.YthlnhinjcffllaaGreatDoorCards
import Derived.KernelRfl
import Derived.JoinedOf
namespace Go.Proofs.YthlnhinjcffllaaGreatDoor
set_option maxRecDepth 100000
theorem inPl5 : Rows.apathTextsRow.inPlace = Tryz.pinned.checked.prog.inPlace 5 := eq_of_beq (show (Rows.apathTextsRow.inPlace == Tryz.pinned.checked.prog.inPlace 5) = true by kernel_rfl)
theorem unfo5 : Rows.apathTextsRow.unfollowed = Tryz.pinned.checked.prog.unfollowed 5 := eq_of_beq (show (Rows.apathTextsRow.unfollowed == Tryz.pinned.checked.prog.unfollowed 5) = true by kernel_rfl)
theorem recu5 : Rows.apathTextsRow.recurses = Tryz.pinned.checked.prog.recurses 5 := eq_of_beq (show (Rows.apathTextsRow.recurses == Tryz.pinned.checked.prog.recurses 5) = true by kernel_rfl)
theorem nams5 : Rows.apathTextsRow.named = Tryz.pinned.checked.prog.varsNamed 5 := eq_of_beq (show (Rows.apathTextsRow.named == Tryz.pinned.checked.prog.varsNamed 5) = true by kernel_rfl)
end Go.Proofs.YthlnhinjcffllaaGreatDoor
