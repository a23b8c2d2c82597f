/-
  What the claim of ChaReached leans on.
-/
import Derived.Test.YtkbmnfijeknenaaGreatDoorCb20
import Derived.Test.YtkbmnfijeknenaaGreatDoorG12

