/-
  What the claim of ChaRapid leans on.
-/
import Derived.Test.YtkbmnfijeknenaaGreatDoorCb20
import Derived.Test.YtkbmnfijeknenaaGreatDoorPG

