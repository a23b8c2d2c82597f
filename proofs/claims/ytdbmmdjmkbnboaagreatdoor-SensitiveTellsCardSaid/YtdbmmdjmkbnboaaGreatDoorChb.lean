/-
  The closed example is lowered.
-/
import Derived.Test.YtdbmmdjmkbnboaaGreatDoorLive0
import Derived.KernelRfl
namespace Go.Proofs.YtdbmmdjmkbnboaaGreatDoor
open Go Go.AM
set_option maxRecDepth 100000
noncomputable def cB : Chunk := Chunk.mk 16 (ofL [.a (ofL [.l 601 0 2])]) (lowL ++ [(375, .v 165 2 1 [.a (ofL [.s [112], .s [65]])]),
  (414, .v 264 5 1 [.a (ofL [.i .i64 3, .i .i64 0, .s [], .s [112], .l0])]),
  (417, .v 255 6 1 [.a (ofL [.i .i64 8, .s [], .s [], .l 414 0 1, .l0, .l0])]),
  (420, .v 98 5 1 [.a (ofL [.s [105, 100], .b true, .l 375 0 1, .s [65], .l 417 0 1])]),
  (503, .v 264 5 1 [.a (ofL [.i .i64 7, .i .i64 0, .s [], .s [65], .l0])]),
  (516, .v 264 5 1 [.a (ofL [.i .i64 10, .i .i64 0, .s [65], .s [105, 100], .l 503 0 1])]),
  (577, .v 264 5 1 [.a (ofL [.i .i64 7, .i .i64 0, .s [], .s [65], .l0])]),
  (590, .v 264 5 1 [.a (ofL [.i .i64 10, .i .i64 0, .s [65], .s [105, 100], .l 577 0 1])]),
  (593, .v 255 6 2 [.a (ofL [.i .i64 1, .s [97], .s [65], .l 516 0 1, .l0, .l0]), .a (ofL [.i .i64 1, .s [98], .s [65], .l 590 0 1, .l0, .l0])]),
  (596, .v 98 5 1 [.a (ofL [.s [109, 97, 105, 110], .b true, .l0, .s [], .l 593 0 2])]),
  (601, .v 95 4 2 [.a (ofL [.s [65], .s [], .l0, .l 420 0 1]), .a (ofL [.s [77, 97, 105, 110], .s [], .l0, .l 596 0 1])])]) 633 (.t (ofL [.a (ofL [.l 894 0 2, .l 1057 0 2, .i .i64 1]), .i .i64 0])) (lowL ++ [(882, .v 9 1 1 [.s [65]]),
  (884, .v 168 4 1 [.a (ofL [.s [105, 100], .b true, .l 882 0 1, .s [65]])]),
  (892, .v 168 4 1 [.a (ofL [.s [109, 97, 105, 110], .b true, .l0, .s []])]),
  (894, .v 160 4 2 [.a (ofL [.s [65], .s [], .l0, .l 884 0 1]), .a (ofL [.s [77, 97, 105, 110], .s [], .l0, .l 892 0 1])]),
  (915, .v 165 2 2 [.a (ofL [.s [112], .s [65]]), .a (ofL [.s [36, 48], .s [110, 117, 108, 108]])]),
  (921, .v 104 10 3 [.a (ofL [.i .i64 13, .i .i64 0, .i .i64 0, .i .i64 0, .i .i64 0, .s [], .s [], .l0, .i .i64 0, .i .i64 (-1)]), .a (ofL [.i .i64 2, .i .i64 1, .i .i64 0, .i .i64 0, .i .i64 0, .s [], .s [], .l0, .i .i64 0, .i .i64 (-1)]), .a (ofL [.i .i64 13, .i .i64 0, .i .i64 1, .i .i64 0, .i .i64 0, .s [], .s [], .l0, .i .i64 0, .i .i64 (-1)])]),
  (982, .v 3 1 1 [.i .i64 2]),
  (1032, .v 3 1 1 [.i .i64 4]),
  (1035, .v 165 2 6 [.a (ofL [.s [97], .s [65]]), .a (ofL [.s [98], .s [65]]), .a (ofL [.s [36, 48], .s [65]]), .a (ofL [.s [36, 49], .s [65]]), .a (ofL [.s [36, 50], .s [65]]), .a (ofL [.s [36, 51], .s [65]])]),
  (1046, .v 104 10 7 [.a (ofL [.i .i64 6, .i .i64 2, .i .i64 0, .i .i64 0, .i .i64 0, .s [65], .s [], .l0, .i .i64 0, .i .i64 (-1)]), .a (ofL [.i .i64 10, .i .i64 3, .i .i64 0, .i .i64 0, .i .i64 0, .s [65], .s [105, 100], .l 982 0 1, .i .i64 0, .i .i64 (-1)]), .a (ofL [.i .i64 3, .i .i64 0, .i .i64 3, .i .i64 0, .i .i64 0, .s [], .s [], .l0, .i .i64 0, .i .i64 (-1)]), .a (ofL [.i .i64 6, .i .i64 4, .i .i64 0, .i .i64 0, .i .i64 0, .s [65], .s [], .l0, .i .i64 0, .i .i64 (-1)]), .a (ofL [.i .i64 10, .i .i64 5, .i .i64 0, .i .i64 0, .i .i64 0, .s [65], .s [105, 100], .l 1032 0 1, .i .i64 0, .i .i64 (-1)]), .a (ofL [.i .i64 3, .i .i64 1, .i .i64 5, .i .i64 0, .i .i64 0, .s [], .s [], .l0, .i .i64 0, .i .i64 (-1)]), .a (ofL [.i .i64 13, .i .i64 0, .i .i64 (-1), .i .i64 0, .i .i64 0, .s [], .s [], .l0, .i .i64 0, .i .i64 (-1)])]),
  (1057, .v 101 7 2 [.a (ofL [.s [65], .s [105, 100], .b true, .i .i64 1, .l 915 0 2, .s [65], .l 921 0 3]), .a (ofL [.s [77, 97, 105, 110], .s [109, 97, 105, 110], .b true, .i .i64 0, .l 1035 0 6, .s [], .l 1046 0 7])])]) 1058
theorem cB_ok : cB.ok = true := by kernel_rfl
theorem cB_run : chkOut ((recs Tryz.prog env 100000).call cB.f cB.xs (cB.ins.st cB.n)) cB.v cB.outs cB.m = true := by kernel_rfl
end Go.Proofs.YtdbmmdjmkbnboaaGreatDoor
