/-
  Closed facts of the row of ModrefTells, by the kernel.
-/
import Derived.Test.YthbialnddkboiaaGreatDoorCards
import Derived.KernelRfl
import Derived.JoinedOf
namespace Go.Proofs.YthbialnddkboiaaGreatDoor
set_option maxRecDepth 100000
theorem inPl3:Rows.modrefTellsRow.inPlace=Tryz.pinned.checked.prog.inPlace 3:=eq_of_beq (show (Rows.modrefTellsRow.inPlace == Tryz.pinned.checked.prog.inPlace 3)=true by kernel_rfl)
theorem unfo3:Rows.modrefTellsRow.unfollowed=Tryz.pinned.checked.prog.unfollowed 3:=eq_of_beq (show (Rows.modrefTellsRow.unfollowed == Tryz.pinned.checked.prog.unfollowed 3)=true by kernel_rfl)
theorem recu3:Rows.modrefTellsRow.recurses=Tryz.pinned.checked.prog.recurses 3:=eq_of_beq (show (Rows.modrefTellsRow.recurses == Tryz.pinned.checked.prog.recurses 3)=true by kernel_rfl)
theorem nams3:Rows.modrefTellsRow.named=Tryz.pinned.checked.prog.varsNamed 3:=eq_of_beq (show (Rows.modrefTellsRow.named == Tryz.pinned.checked.prog.varsNamed 3)=true by kernel_rfl)
end Go.Proofs.YthbialnddkboiaaGreatDoor
