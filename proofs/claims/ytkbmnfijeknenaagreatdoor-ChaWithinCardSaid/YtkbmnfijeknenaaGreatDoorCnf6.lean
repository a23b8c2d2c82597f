/-
  Closed facts of the row of ChaWithin, by the kernel.
-/
import Derived.Test.YtkbmnfijeknenaaGreatDoorCards
import Derived.KernelRfl
import Derived.JoinedOf
namespace Go.Proofs.YtkbmnfijeknenaaGreatDoor
set_option maxRecDepth 100000
theorem inPl6:Rows.chaWithinRow.inPlace=Tryz.pinned.checked.prog.inPlace 6:=eq_of_beq (show (Rows.chaWithinRow.inPlace == Tryz.pinned.checked.prog.inPlace 6)=true by kernel_rfl)
theorem unfo6:Rows.chaWithinRow.unfollowed=Tryz.pinned.checked.prog.unfollowed 6:=eq_of_beq (show (Rows.chaWithinRow.unfollowed == Tryz.pinned.checked.prog.unfollowed 6)=true by kernel_rfl)
theorem recu6:Rows.chaWithinRow.recurses=Tryz.pinned.checked.prog.recurses 6:=eq_of_beq (show (Rows.chaWithinRow.recurses == Tryz.pinned.checked.prog.recurses 6)=true by kernel_rfl)
theorem nams6:Rows.chaWithinRow.named=Tryz.pinned.checked.prog.varsNamed 6:=eq_of_beq (show (Rows.chaWithinRow.named == Tryz.pinned.checked.prog.varsNamed 6)=true by kernel_rfl)
end Go.Proofs.YtkbmnfijeknenaaGreatDoor
