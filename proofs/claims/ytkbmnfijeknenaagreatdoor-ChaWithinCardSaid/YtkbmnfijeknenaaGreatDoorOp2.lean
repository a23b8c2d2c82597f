/-
  Call edges as the row hands them, opened.
-/
import Derived.Test.YtkbmnfijeknenaaGreatDoorOp
import Derived.Test.YtkbmnfijeknenaaGreatDoorGA
namespace Go.Proofs.YtkbmnfijeknenaaGreatDoor
open Go.ChangeShapes Go.WideShapes Go.ChangeAt Go.RowKit Go.LawLift Go.Deep Go.Unit0
set_option maxRecDepth 100000

section
variable {H:Type} {enc:TypeId × Value→H} {w:World} {fuel:Nat} {v:Value} {cs:List Value} {x:DataW H × List MemPlace}
end
end Go.Proofs.YtkbmnfijeknenaaGreatDoor
