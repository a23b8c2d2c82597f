/-
  Closed facts of the row of ConstraintGrows, by the kernel.
-/
import Derived.Test.YtjnbddedmbhiaaaGreatDoorCards
import Derived.KernelRfl
import Derived.JoinedOf
namespace Go.Proofs.YtjnbddedmbhiaaaGreatDoor
set_option maxRecDepth 100000
theorem Yd:Rows.constraintGrowsRow.inPlace=Tryz.pinned.checked.prog.inPlace 3:=eq_of_beq (show(Rows.constraintGrowsRow.inPlace==Tryz.pinned.checked.prog.inPlace 3)=true by kernel_rfl)
theorem Rh:Rows.constraintGrowsRow.unfollowed=Tryz.pinned.checked.prog.unfollowed 3:=eq_of_beq (show(Rows.constraintGrowsRow.unfollowed==Tryz.pinned.checked.prog.unfollowed 3)=true by kernel_rfl)
theorem Uc:Rows.constraintGrowsRow.recurses=Tryz.pinned.checked.prog.recurses 3:=eq_of_beq (show(Rows.constraintGrowsRow.recurses==Tryz.pinned.checked.prog.recurses 3)=true by kernel_rfl)
theorem VW:Rows.constraintGrowsRow.named=Tryz.pinned.checked.prog.varsNamed 3:=eq_of_beq (show(Rows.constraintGrowsRow.named==Tryz.pinned.checked.prog.varsNamed 3)=true by kernel_rfl)
end Go.Proofs.YtjnbddedmbhiaaaGreatDoor
