/-
  The call graph of the closed example.
-/
import Derived.Test.YthlnhinjcffllaaGreatDoorLive0
namespace Go.Proofs.YthlnhinjcffllaaGreatDoor
open Go Go.AM
set_option maxRecDepth 100000
noncomputable def cC : Chunk := Chunk.mk 39 (ofL [.a (ofL [.l 634 0 2, .l 692 0 1, .i .i64 0])]) (lowL ++ [(623, .v 166 2 2 [.a (ofL [.s [102], .s [65]]), .a (ofL [.s [110], .s [105, 110, 116]])]),
  (632, .v 168 4 1 [.a (ofL [.s [109, 97, 105, 110], .b true, .l0, .s []])]),
  (634, .v 161 4 2 [.a (ofL [.s [65], .s [], .l 623 0 2, .l0]), .a (ofL [.s [77, 97, 105, 110], .s [], .l0, .l 632 0 1])]),
  (674, .v 166 2 3 [.a (ofL [.s [97], .s [65]]), .a (ofL [.s [36, 48], .s [65]]), .a (ofL [.s [36, 49], .s [65]])]),
  (683, .v 106 10 5 [.a (ofL [.i .i64 6, .i .i64 1, .i .i64 0, .i .i64 0, .i .i64 0, .s [65], .s [], .l0, .i .i64 0, .i .i64 (-1)]), .a (ofL [.i .i64 3, .i .i64 0, .i .i64 1, .i .i64 0, .i .i64 0, .s [], .s [], .l0, .i .i64 0, .i .i64 (-1)]), .a (ofL [.i .i64 6, .i .i64 2, .i .i64 0, .i .i64 0, .i .i64 0, .s [65], .s [], .l0, .i .i64 0, .i .i64 (-1)]), .a (ofL [.i .i64 8, .i .i64 0, .i .i64 0, .i .i64 2, .i .i64 0, .s [], .s [102], .l0, .i .i64 0, .i .i64 (-1)]), .a (ofL [.i .i64 13, .i .i64 0, .i .i64 (-1), .i .i64 0, .i .i64 0, .s [], .s [], .l0, .i .i64 0, .i .i64 (-1)])]),
  (692, .v 103 7 1 [.a (ofL [.s [77, 97, 105, 110], .s [109, 97, 105, 110], .b true, .i .i64 0, .l 674 0 3, .s [], .l 683 0 5])])]) 694 (.t (ofL [.a (ofL [.l 896 0 1, .l0, .l 1245 0 5, .l 1244 0 4]), .i .i64 0])) (lowL ++ [(623, .v 166 2 2 [.a (ofL [.s [102], .s [65]]), .a (ofL [.s [110], .s [105, 110, 116]])]),
  (632, .v 168 4 1 [.a (ofL [.s [109, 97, 105, 110], .b true, .l0, .s []])]),
  (634, .v 161 4 2 [.a (ofL [.s [65], .s [], .l 623 0 2, .l0]), .a (ofL [.s [77, 97, 105, 110], .s [], .l0, .l 632 0 1])]),
  (674, .v 166 2 3 [.a (ofL [.s [97], .s [65]]), .a (ofL [.s [36, 48], .s [65]]), .a (ofL [.s [36, 49], .s [65]])]),
  (683, .v 106 10 5 [.a (ofL [.i .i64 6, .i .i64 1, .i .i64 0, .i .i64 0, .i .i64 0, .s [65], .s [], .l0, .i .i64 0, .i .i64 (-1)]), .a (ofL [.i .i64 3, .i .i64 0, .i .i64 1, .i .i64 0, .i .i64 0, .s [], .s [], .l0, .i .i64 0, .i .i64 (-1)]), .a (ofL [.i .i64 6, .i .i64 2, .i .i64 0, .i .i64 0, .i .i64 0, .s [65], .s [], .l0, .i .i64 0, .i .i64 (-1)]), .a (ofL [.i .i64 8, .i .i64 0, .i .i64 0, .i .i64 2, .i .i64 0, .s [], .s [102], .l0, .i .i64 0, .i .i64 (-1)]), .a (ofL [.i .i64 13, .i .i64 0, .i .i64 (-1), .i .i64 0, .i .i64 0, .s [], .s [], .l0, .i .i64 0, .i .i64 (-1)])]),
  (692, .v 103 7 1 [.a (ofL [.s [77, 97, 105, 110], .s [109, 97, 105, 110], .b true, .i .i64 0, .l 674 0 3, .s [], .l 683 0 5])]),
  (896, .v 3 1 1 [.i .i64 0]),
  (1234, .v 64 1 9 [.l 1236 0 1, .l 1238 0 1, .l 1240 0 1, .l0, .l0, .l 1242 0 1, .l0, .l0, .l0]),
  (1236, .v 3 1 1 [.i .i64 0]),
  (1238, .v 3 1 1 [.i .i64 0]),
  (1240, .v 3 1 1 [.i .i64 1]),
  (1242, .v 3 1 1 [.i .i64 1]),
  (1244, .v 64 1 4 [.l 1242 0 1, .l0, .l0, .l0]),
  (1245, .al 1234 0)]) 1249
theorem cC_ok : cC.ok = true := by kernel_rfl
theorem cC_run : chkOut ((recs Tryz.prog env 100000).call cC.f cC.xs (cC.ins.st cC.n)) cC.v cC.outs cC.m = true := by kernel_rfl
end Go.Proofs.YthlnhinjcffllaaGreatDoor
