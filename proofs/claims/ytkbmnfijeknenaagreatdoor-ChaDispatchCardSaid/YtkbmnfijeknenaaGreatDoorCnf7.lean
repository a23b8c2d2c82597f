/-
  Closed facts of the row of ChaDispatch, by the kernel.
-/
import Derived.Test.YtkbmnfijeknenaaGreatDoorCards
import Derived.KernelRfl
import Derived.JoinedOf
namespace Go.Proofs.YtkbmnfijeknenaaGreatDoor
set_option maxRecDepth 100000
theorem inPl7:Rows.chaDispatchRow.inPlace=Tryz.pinned.checked.prog.inPlace 7:=eq_of_beq (show (Rows.chaDispatchRow.inPlace == Tryz.pinned.checked.prog.inPlace 7)=true by kernel_rfl)
theorem unfo7:Rows.chaDispatchRow.unfollowed=Tryz.pinned.checked.prog.unfollowed 7:=eq_of_beq (show (Rows.chaDispatchRow.unfollowed == Tryz.pinned.checked.prog.unfollowed 7)=true by kernel_rfl)
theorem recu7:Rows.chaDispatchRow.recurses=Tryz.pinned.checked.prog.recurses 7:=eq_of_beq (show (Rows.chaDispatchRow.recurses == Tryz.pinned.checked.prog.recurses 7)=true by kernel_rfl)
theorem nams7:Rows.chaDispatchRow.named=Tryz.pinned.checked.prog.varsNamed 7:=eq_of_beq (show (Rows.chaDispatchRow.named == Tryz.pinned.checked.prog.varsNamed 7)=true by kernel_rfl)
end Go.Proofs.YtkbmnfijeknenaaGreatDoor
