/-
  The closed example is parsed.
-/
import Derived.Test.YthlnhinjcffllaaGreatDoorLive0
namespace Go.Proofs.YthlnhinjcffllaaGreatDoor
open Go Go.AM
set_option maxRecDepth 100000
noncomputable def cA : Chunk := Chunk.mk 37 (ofL [.s [99, 108, 97, 115, 115, 32, 65, 32, 123, 32, 118, 97, 114, 32, 102, 58, 32, 65, 59, 32, 118, 97, 114, 32, 110, 58, 32, 105, 110, 116, 59, 32, 125, 32, 99, 108, 97, 115, 115, 32, 77, 97, 105, 110, 32, 123, 32, 115, 116, 97, 116, 105, 99, 32, 100, 101, 102, 32, 109, 97, 105, 110, 40, 41, 32, 123, 32, 118, 97, 114, 32, 97, 58, 32, 65, 32, 61, 32, 110, 101, 119, 32, 65, 40, 41, 59, 32, 97, 46, 102, 32, 61, 32, 110, 101, 119, 32, 65, 40, 41, 59, 32, 125, 32, 125]]) (lowL ++ []) 11 (.t (ofL [.a (ofL [.l 435 0 2]), .i .i64 0, .i .i64 0])) (lowL ++ [(298, .v 166 2 2 [.a (ofL [.s [102], .s [65]]), .a (ofL [.s [110], .s [105, 110, 116]])]),
  (366, .v 265 5 1 [.a (ofL [.i .i64 7, .i .i64 0, .s [], .s [65], .l0])]),
  (424, .v 265 5 2 [.a (ofL [.i .i64 3, .i .i64 0, .s [], .s [97], .l0]), .a (ofL [.i .i64 7, .i .i64 0, .s [], .s [65], .l0])]),
  (427, .v 256 6 2 [.a (ofL [.i .i64 1, .s [97], .s [65], .l 366 0 1, .l0, .l0]), .a (ofL [.i .i64 3, .s [102], .s [], .l 424 0 2, .l0, .l0])]),
  (430, .v 100 5 1 [.a (ofL [.s [109, 97, 105, 110], .b true, .l0, .s [], .l 427 0 2])]),
  (435, .v 97 4 2 [.a (ofL [.s [65], .s [], .l 298 0 2, .l0]), .a (ofL [.s [77, 97, 105, 110], .s [], .l0, .l 430 0 1])])]) 457
theorem cA_ok : cA.ok = true := by kernel_rfl
theorem cA_run : chkOut ((recs Tryz.prog env 100000).call cA.f cA.xs (cA.ins.st cA.n)) cA.v cA.outs cA.m = true := by kernel_rfl
end Go.Proofs.YthlnhinjcffllaaGreatDoor
