/-
  The closed example of dataflowlaw20: the variables that are read.
-/
import Derived.Test.YtkbmnfijeknenaaGreatDoorLive0
namespace Go.Proofs.YtkbmnfijeknenaaGreatDoor
open Go Go.AM
set_option maxRecDepth 100000
noncomputable def lowM:LSt:=[(1,.c 0 15 rowMarks),(2,.c 0 17 rowKeywords)]
end Go.Proofs.YtkbmnfijeknenaaGreatDoor
