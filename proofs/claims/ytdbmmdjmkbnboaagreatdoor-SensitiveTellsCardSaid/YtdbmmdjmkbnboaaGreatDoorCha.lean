/-
  The closed example is parsed.
-/
import Derived.Test.YtdbmmdjmkbnboaaGreatDoorLive0
import Derived.KernelRfl
namespace Go.Proofs.YtdbmmdjmkbnboaaGreatDoor
open Go Go.AM
set_option maxRecDepth 100000
noncomputable def cA : Chunk := Chunk.mk 15 (ofL [.s [99, 108, 97, 115, 115, 32, 65, 32, 123, 32, 115, 116, 97, 116, 105, 99, 32, 100, 101, 102, 32, 105, 100, 40, 112, 58, 32, 65, 41, 58, 32, 65, 32, 123, 32, 114, 101, 116, 117, 114, 110, 32, 112, 59, 32, 125, 32, 125, 32, 99, 108, 97, 115, 115, 32, 77, 97, 105, 110, 32, 123, 32, 115, 116, 97, 116, 105, 99, 32, 100, 101, 102, 32, 109, 97, 105, 110, 40, 41, 32, 123, 32, 118, 97, 114, 32, 97, 58, 32, 65, 32, 61, 32, 65, 58, 58, 105, 100, 40, 110, 101, 119, 32, 65, 40, 41, 41, 59, 32, 118, 97, 114, 32, 98, 58, 32, 65, 32, 61, 32, 65, 58, 58, 105, 100, 40, 110, 101, 119, 32, 65, 40, 41, 41, 59, 32, 125, 32, 125]]) (lowL ++ []) 9 (.t (ofL [.a (ofL [.l 601 0 2]), .i .i64 0, .i .i64 0])) (lowL ++ [(375, .v 165 2 1 [.a (ofL [.s [112], .s [65]])]),
  (414, .v 264 5 1 [.a (ofL [.i .i64 3, .i .i64 0, .s [], .s [112], .l0])]),
  (417, .v 255 6 1 [.a (ofL [.i .i64 8, .s [], .s [], .l 414 0 1, .l0, .l0])]),
  (420, .v 98 5 1 [.a (ofL [.s [105, 100], .b true, .l 375 0 1, .s [65], .l 417 0 1])]),
  (503, .v 264 5 1 [.a (ofL [.i .i64 7, .i .i64 0, .s [], .s [65], .l0])]),
  (516, .v 264 5 1 [.a (ofL [.i .i64 10, .i .i64 0, .s [65], .s [105, 100], .l 503 0 1])]),
  (577, .v 264 5 1 [.a (ofL [.i .i64 7, .i .i64 0, .s [], .s [65], .l0])]),
  (590, .v 264 5 1 [.a (ofL [.i .i64 10, .i .i64 0, .s [65], .s [105, 100], .l 577 0 1])]),
  (593, .v 255 6 2 [.a (ofL [.i .i64 1, .s [97], .s [65], .l 516 0 1, .l0, .l0]), .a (ofL [.i .i64 1, .s [98], .s [65], .l 590 0 1, .l0, .l0])]),
  (596, .v 98 5 1 [.a (ofL [.s [109, 97, 105, 110], .b true, .l0, .s [], .l 593 0 2])]),
  (601, .v 95 4 2 [.a (ofL [.s [65], .s [], .l0, .l 420 0 1]), .a (ofL [.s [77, 97, 105, 110], .s [], .l0, .l 596 0 1])])]) 632
theorem cA_ok : cA.ok = true := by kernel_rfl
theorem cA_run : chkOut ((recs Tryz.prog env 100000).call cA.f cA.xs (cA.ins.st cA.n)) cA.v cA.outs cA.m = true := by kernel_rfl
end Go.Proofs.YtdbmmdjmkbnboaaGreatDoor
