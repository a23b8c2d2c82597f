/-
  Closed facts of the row of ChaRapid, by the kernel.
-/
import Derived.Test.YtkbmnfijeknenaaGreatDoorCards
import Derived.KernelRfl
import Derived.JoinedOf
namespace Go.Proofs.YtkbmnfijeknenaaGreatDoor
set_option maxRecDepth 100000
theorem inPl5:Rows.chaRapidRow.inPlace=Tryz.pinned.checked.prog.inPlace 5:=eq_of_beq (show (Rows.chaRapidRow.inPlace == Tryz.pinned.checked.prog.inPlace 5)=true by kernel_rfl)
theorem unfo5:Rows.chaRapidRow.unfollowed=Tryz.pinned.checked.prog.unfollowed 5:=eq_of_beq (show (Rows.chaRapidRow.unfollowed == Tryz.pinned.checked.prog.unfollowed 5)=true by kernel_rfl)
theorem recu5:Rows.chaRapidRow.recurses=Tryz.pinned.checked.prog.recurses 5:=eq_of_beq (show (Rows.chaRapidRow.recurses == Tryz.pinned.checked.prog.recurses 5)=true by kernel_rfl)
theorem nams5:Rows.chaRapidRow.named=Tryz.pinned.checked.prog.varsNamed 5:=eq_of_beq (show (Rows.chaRapidRow.named == Tryz.pinned.checked.prog.varsNamed 5)=true by kernel_rfl)
end Go.Proofs.YtkbmnfijeknenaaGreatDoor
