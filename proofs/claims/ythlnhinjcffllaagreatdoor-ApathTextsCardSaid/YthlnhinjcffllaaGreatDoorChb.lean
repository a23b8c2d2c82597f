/-
  The closed example is lowered.
-/
import Derived.Test.YthlnhinjcffllaaGreatDoorLive0
namespace Go.Proofs.YthlnhinjcffllaaGreatDoor
open Go Go.AM
set_option maxRecDepth 100000
noncomputable def cB : Chunk := Chunk.mk 38 (ofL [.a (ofL [.l 435 0 2])]) (lowL ++ [(298, .v 166 2 2 [.a (ofL [.s [102], .s [65]]), .a (ofL [.s [110], .s [105, 110, 116]])]),
  (366, .v 265 5 1 [.a (ofL [.i .i64 7, .i .i64 0, .s [], .s [65], .l0])]),
  (424, .v 265 5 2 [.a (ofL [.i .i64 3, .i .i64 0, .s [], .s [97], .l0]), .a (ofL [.i .i64 7, .i .i64 0, .s [], .s [65], .l0])]),
  (427, .v 256 6 2 [.a (ofL [.i .i64 1, .s [97], .s [65], .l 366 0 1, .l0, .l0]), .a (ofL [.i .i64 3, .s [102], .s [], .l 424 0 2, .l0, .l0])]),
  (430, .v 100 5 1 [.a (ofL [.s [109, 97, 105, 110], .b true, .l0, .s [], .l 427 0 2])]),
  (435, .v 97 4 2 [.a (ofL [.s [65], .s [], .l 298 0 2, .l0]), .a (ofL [.s [77, 97, 105, 110], .s [], .l0, .l 430 0 1])])]) 458 (.t (ofL [.a (ofL [.l 634 0 2, .l 692 0 1, .i .i64 0]), .i .i64 0])) (lowL ++ [(623, .v 166 2 2 [.a (ofL [.s [102], .s [65]]), .a (ofL [.s [110], .s [105, 110, 116]])]),
  (632, .v 168 4 1 [.a (ofL [.s [109, 97, 105, 110], .b true, .l0, .s []])]),
  (634, .v 161 4 2 [.a (ofL [.s [65], .s [], .l 623 0 2, .l0]), .a (ofL [.s [77, 97, 105, 110], .s [], .l0, .l 632 0 1])]),
  (674, .v 166 2 3 [.a (ofL [.s [97], .s [65]]), .a (ofL [.s [36, 48], .s [65]]), .a (ofL [.s [36, 49], .s [65]])]),
  (683, .v 106 10 5 [.a (ofL [.i .i64 6, .i .i64 1, .i .i64 0, .i .i64 0, .i .i64 0, .s [65], .s [], .l0, .i .i64 0, .i .i64 (-1)]), .a (ofL [.i .i64 3, .i .i64 0, .i .i64 1, .i .i64 0, .i .i64 0, .s [], .s [], .l0, .i .i64 0, .i .i64 (-1)]), .a (ofL [.i .i64 6, .i .i64 2, .i .i64 0, .i .i64 0, .i .i64 0, .s [65], .s [], .l0, .i .i64 0, .i .i64 (-1)]), .a (ofL [.i .i64 8, .i .i64 0, .i .i64 0, .i .i64 2, .i .i64 0, .s [], .s [102], .l0, .i .i64 0, .i .i64 (-1)]), .a (ofL [.i .i64 13, .i .i64 0, .i .i64 (-1), .i .i64 0, .i .i64 0, .s [], .s [], .l0, .i .i64 0, .i .i64 (-1)])]),
  (692, .v 103 7 1 [.a (ofL [.s [77, 97, 105, 110], .s [109, 97, 105, 110], .b true, .i .i64 0, .l 674 0 3, .s [], .l 683 0 5])])]) 693
theorem cB_ok : cB.ok = true := by kernel_rfl
theorem cB_run : chkOut ((recs Tryz.prog env 100000).call cB.f cB.xs (cB.ins.st cB.n)) cB.v cB.outs cB.m = true := by kernel_rfl
end Go.Proofs.YthlnhinjcffllaaGreatDoor
