/-
  One recorded call or another.
  The evaluator's helpers, with the closed example's check recorded.
-/
import Derived.Test.YthbialnddkboiaaGreatDoorAmD
import Derived.Test.YthbialnddkboiaaGreatDoorLive0
import Derived.Test.YthbialnddkboiaaGreatDoorChk26
namespace Go.Proofs.YthbialnddkboiaaGreatDoor
open Go Go.AM
noncomputable def orP (a b:CallF1):CallF1:=fun xs st=>match a xs st with
 | some r=>some r
 | none=>b xs st
theorem orP_ok {P:Program} {B:Bds} {f:Nat} {a b:CallF1} (ha:CallOk1 P B f a) (hb:CallOk1 P B f b):CallOk1 P B f (orP a b):=by
 intro xs st outs E w args h
 unfold orP at h
 split at h
 ·rename_i r e
  cases h
  exact ha xs st _ E w args e
 ·exact hb xs st outs E w args h
end Go.Proofs.YthbialnddkboiaaGreatDoor
namespace Go.Proofs.YthbialnddkboiaaGreatDoor
open Go Go.AM
noncomputable def envK:AM.Env:=⟨fun f=>cond (Nat.beq f 41) (some cK26.primR) (env.prim f),env.noop⟩
end Go.Proofs.YthbialnddkboiaaGreatDoor
