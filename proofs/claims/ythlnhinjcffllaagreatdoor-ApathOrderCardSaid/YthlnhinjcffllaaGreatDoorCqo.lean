/-
  What the claim of ApathOrder needs beyond the other ones.
-/
import Derived.Test.YthlnhinjcffllaaGreatDoorCq
import Derived.Test.YthlnhinjcffllaaGreatDoorQ30

