/-
  The closed examples of the laws, run by the evaluator: what is handed to it, the variables that are read.
-/
import Derived.Test.YthbialnddkboiaaGreatDoorProg
import Derived.Test.YthbialnddkboiaaGreatDoorAmD
import Derived.KernelRfl
namespace Go.Proofs.YthbialnddkboiaaGreatDoor
open Go Go.AM
set_option maxRecDepth 100000
def rowKeywords:AV:=.cn (.s [99,108,97,115,115]) (.cn (.s [101,120,116,101,110,100,115]) (.cn (.s [118,97,114]) (.cn (.s [100,101,102]) (.cn (.s [115,116,97,116,105,99]) (.cn (.s [105,102]) (.cn (.s [101,108,115,101]) (.cn (.s [119,104,105,108,101]) (.cn (.s [116,114,121]) (.cn (.s [99,97,116,99,104]) (.cn (.s [116,104,114,111,119]) (.cn (.s [114,101,116,117,114,110]) (.cn (.s [110,101,119]) (.cn (.s [110,117,108,108]) (.cn (.s [116,104,105,115]) (.cn (.s [105,110,112,117,116]) (.cn (.s [105,110,116]) (AV.nl)))))))))))))))))
def rowMarks:AV:=.cn (.s [58,58]) (.cn (.s [61,61]) (.cn (.s [58]) (.cn (.s [123]) (.cn (.s [125]) (.cn (.s [40]) (.cn (.s [41]) (.cn (.s [59]) (.cn (.s [44]) (.cn (.s [46]) (.cn (.s [61]) (.cn (.s [60]) (.cn (.s [43]) (.cn (.s [45]) (.cn (.s [42]) (AV.nl)))))))))))))))
def rowForms:AV:=.cn (.s []) (.cn (.s [100,110]) (.cn (.s [100]) (.cn (.s [100,97]) (.cn (.s [100,97,111,98]) (.cn (.s [100]) (.cn (.s [100,99]) (.cn (.s [100,97,109]) (.cn (.s [97,109,98]) (.cn (.s [100,97,99,109,42]) (.cn (.s [100,99,109,42]) (.cn (.s [97,103]) (.cn (.s [103]) (.cn (.s [97]) (.cn (.s [97]) (.cn (.s [100,99]) (.cn (.s [100,97,110]) (AV.nl)))))))))))))))))
noncomputable def lowL:LSt:=[(2,.c 0 17 rowForms),(0,.c 0 15 rowMarks),(1,.c 0 17 rowKeywords)]
noncomputable def env:AM.Env:=⟨fun f=>cond (Nat.beq f 326) (some idxPrim) none,fun f=>or (Nat.beq f 67) (Nat.beq f 233)⟩
end Go.Proofs.YthbialnddkboiaaGreatDoor
