/-
  What the claim of ChaWithin leans on.
-/
import Derived.Test.YtkbmnfijeknenaaGreatDoorCb20
import Derived.Test.YtkbmnfijeknenaaGreatDoorPW

