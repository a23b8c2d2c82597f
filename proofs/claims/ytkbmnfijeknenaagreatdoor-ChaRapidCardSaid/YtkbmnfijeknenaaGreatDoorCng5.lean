/-
  Closed facts of the row of ChaRapid, by the kernel.
-/
import Derived.Test.YtkbmnfijeknenaaGreatDoorCards
import Derived.Test.YtkbmnfijeknenaaGreatDoorCnf5
import Derived.KernelRfl
import Derived.JoinedOf
namespace Go.Proofs.YtkbmnfijeknenaaGreatDoor
set_option maxRecDepth 100000
theorem goes5:false=Rows.chaRapidRow.goesBy Tryz.pinned.checked.prog:=by kernel_rfl
theorem closed5:joinedFacts Tryz.pinned.checked.prog 5 Tryz.f5 (OpenSpec.ofChange Rows.chaRapidSpec).bare Rows.chaRapidRow=true:=by
 unfold joinedFacts
 rw [← inPl5,← unfo5,← recu5,← nams5]
 kernel_rfl
end Go.Proofs.YtkbmnfijeknenaaGreatDoor
