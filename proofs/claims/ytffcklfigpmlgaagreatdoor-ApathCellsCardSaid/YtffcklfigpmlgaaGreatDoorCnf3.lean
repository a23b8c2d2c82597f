/-
  Closed facts of the row of ApathCells, by the kernel.
-/
import Derived.Test.YtffcklfigpmlgaaGreatDoorCards
import Derived.KernelRfl
import Derived.JoinedOf
namespace Go.Proofs.YtffcklfigpmlgaaGreatDoor
set_option maxRecDepth 100000
theorem inPl3:Rows.apathCellsRow.inPlace=Tryz.pinned.checked.prog.inPlace 3:=eq_of_beq (show (Rows.apathCellsRow.inPlace == Tryz.pinned.checked.prog.inPlace 3)=true by kernel_rfl)
theorem unfo3:Rows.apathCellsRow.unfollowed=Tryz.pinned.checked.prog.unfollowed 3:=eq_of_beq (show (Rows.apathCellsRow.unfollowed == Tryz.pinned.checked.prog.unfollowed 3)=true by kernel_rfl)
theorem recu3:Rows.apathCellsRow.recurses=Tryz.pinned.checked.prog.recurses 3:=eq_of_beq (show (Rows.apathCellsRow.recurses == Tryz.pinned.checked.prog.recurses 3)=true by kernel_rfl)
theorem nams3:Rows.apathCellsRow.named=Tryz.pinned.checked.prog.varsNamed 3:=eq_of_beq (show (Rows.apathCellsRow.named == Tryz.pinned.checked.prog.varsNamed 3)=true by kernel_rfl)
end Go.Proofs.YtffcklfigpmlgaaGreatDoor
