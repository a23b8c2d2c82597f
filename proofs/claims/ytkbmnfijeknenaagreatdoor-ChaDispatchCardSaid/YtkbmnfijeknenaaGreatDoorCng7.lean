/-
  Closed facts of the row of ChaDispatch, by the kernel.
-/
import Derived.Test.YtkbmnfijeknenaaGreatDoorCards
import Derived.Test.YtkbmnfijeknenaaGreatDoorCnf7
import Derived.KernelRfl
import Derived.JoinedOf
namespace Go.Proofs.YtkbmnfijeknenaaGreatDoor
set_option maxRecDepth 100000
theorem goes7:false=Rows.chaDispatchRow.goesBy Tryz.pinned.checked.prog:=by kernel_rfl
theorem closed7:joinedFacts Tryz.pinned.checked.prog 7 Tryz.f7 (OpenSpec.ofChange Rows.chaDispatchSpec).bare Rows.chaDispatchRow=true:=by
 unfold joinedFacts
 rw [← inPl7,← unfo7,← recu7,← nams7]
 kernel_rfl
end Go.Proofs.YtkbmnfijeknenaaGreatDoor
