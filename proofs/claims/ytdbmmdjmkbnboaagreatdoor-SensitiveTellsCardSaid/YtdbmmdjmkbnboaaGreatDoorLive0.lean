/-
  The closed examples of the laws, run by the evaluator: what is handed to it, the variables that are read.
-/
import Derived.Test.YtdbmmdjmkbnboaaGreatDoorProg
import Derived.Test.YtdbmmdjmkbnboaaGreatDoorAmD
import Derived.KernelRfl
namespace Go.Proofs.YtdbmmdjmkbnboaaGreatDoor
open Go Go.AM
set_option maxRecDepth 100000
def rowKeywords : AV := .cn (.s [99, 108, 97, 115, 115]) (.cn (.s [101, 120, 116, 101, 110, 100, 115]) (.cn (.s [118, 97, 114]) (.cn (.s [100, 101, 102]) (.cn (.s [115, 116, 97, 116, 105, 99]) (.cn (.s [105, 102]) (.cn (.s [101, 108, 115, 101]) (.cn (.s [119, 104, 105, 108, 101]) (.cn (.s [116, 114, 121]) (.cn (.s [99, 97, 116, 99, 104]) (.cn (.s [116, 104, 114, 111, 119]) (.cn (.s [114, 101, 116, 117, 114, 110]) (.cn (.s [110, 101, 119]) (.cn (.s [110, 117, 108, 108]) (.cn (.s [116, 104, 105, 115]) (.cn (.s [105, 110, 112, 117, 116]) (.cn (.s [105, 110, 116]) (AV.nl)))))))))))))))))
def rowMarks : AV := .cn (.s [58, 58]) (.cn (.s [61, 61]) (.cn (.s [58]) (.cn (.s [123]) (.cn (.s [125]) (.cn (.s [40]) (.cn (.s [41]) (.cn (.s [59]) (.cn (.s [44]) (.cn (.s [46]) (.cn (.s [61]) (.cn (.s [60]) (.cn (.s [43]) (.cn (.s [45]) (.cn (.s [42]) (AV.nl)))))))))))))))
def rowForms : AV := .cn (.s []) (.cn (.s [100, 110]) (.cn (.s [100]) (.cn (.s [100, 97]) (.cn (.s [100, 97, 111, 98]) (.cn (.s [100]) (.cn (.s [100, 99]) (.cn (.s [100, 97, 109]) (.cn (.s [97, 109, 98]) (.cn (.s [100, 97, 99, 109, 42]) (.cn (.s [100, 99, 109, 42]) (.cn (.s [97, 103]) (.cn (.s [103]) (.cn (.s [97]) (.cn (.s [97]) (.cn (.s [100, 99]) (.cn (.s [100, 97, 110]) (AV.nl)))))))))))))))))
/-- the variables that are read -/
noncomputable def lowL : LSt := [(0, .c 0 15 rowMarks), (1, .c 0 17 rowKeywords), (2, .c 0 17 rowForms)]
/-- the cells of a slice of integers, two at most, zeros behind -/
noncomputable def pad2 (els : T AV) (o n : Nat) (f : AV → AV → Out) : Out := iff (Nat.beq n 0) (f (.i .i64 0) (.i .i64 0)) (iff (Nat.beq n 1) (el els o (fun a => f a (.i .i64 0))) (must (Nat.beq n 2) (el els o (fun a => el els (Nat.succ o) (fun b => f a b)))))
/-- pack(of, ctx) -/
noncomputable def packPrim (xs : AV) (st : St) : Out := asC xs (fun x l => asC l (fun y m => must (isNl m) (asI x (fun q _n => must (eqk q .i64) (asL y (some [(.a (.cn x (.cn (.i .i64 0) (.cn (.i .i64 0) (.cn (.i .i64 0) .nl)))), st)])
  (fun r o k => obW st r (fun _r2 k2 _e sz len els => must (and (Nat.beq sz 1) (Nat.ble (Nat.add (Nat.add k2 o) k) len)) (seqN (Nat.add k2 o) (fun o => pad2 els o k (fun a b => asI a (fun qa _na => must (eqk qa .i64) (asI b (fun qb _nb => must (eqk qb .i64)
    (some [(.a (.cn x (.cn (.i .i64 (.ofNat k)) (.cn a (.cn b .nl)))), st)]))))))))))))))
noncomputable def env : AM.Env := ⟨fun f => cond (Nat.beq f 307) (some idxPrim) (cond (Nat.beq f 95) (some packPrim) none), fun f => or (Nat.beq f 66) (Nat.beq f 226)⟩
end Go.Proofs.YtdbmmdjmkbnboaaGreatDoor
