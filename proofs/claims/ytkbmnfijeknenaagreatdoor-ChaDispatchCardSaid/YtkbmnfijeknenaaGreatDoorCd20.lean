/-
  What the claim of ChaDispatch leans on.
-/
import Derived.Test.YtkbmnfijeknenaaGreatDoorCb20
import Derived.Test.YtkbmnfijeknenaaGreatDoorPz

