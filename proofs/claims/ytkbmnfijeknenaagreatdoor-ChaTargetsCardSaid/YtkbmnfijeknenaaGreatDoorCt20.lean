/-
  What the claim of ChaTargets leans on.
-/
import Derived.Test.YtkbmnfijeknenaaGreatDoorCb20
import Derived.Test.YtkbmnfijeknenaaGreatDoorHD

