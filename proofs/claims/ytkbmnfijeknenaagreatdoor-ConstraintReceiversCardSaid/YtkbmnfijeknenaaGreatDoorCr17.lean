/-
  What the claim of ConstraintReceivers leans on.
-/
import Derived.Test.YtkbmnfijeknenaaGreatDoorCb17
import Derived.Test.YtkbmnfijeknenaaGreatDoorR8

