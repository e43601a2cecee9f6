/- The types of the program, as the walk by verification conditions needs them. -/
import Derived.Test.YtblibhmmliljgaaVFn
namespace Go.Proofs.Ytblibhmmliljgaa.V
open Go
def T : TT := [
  (3, ⟨.int .i64, 1, 8, [.int .i64 0], false⟩),
  (4, ⟨.bool, 1, 1, [.bool false], false⟩),
  (25, ⟨.int .i64, 1, 8, [.int .i64 0], false⟩),
  (23, ⟨.st [(0, 1, 1), (1, 1, 1), (2, 1, 1), (3, 1, 1), (4, 1, 1), (5, 1, 1), (6, 1, 1), (7, 1, 1), (8, 1, 1), (9, 1, 1)], 10, 80, [.int .i64 0, .int .i64 0, .int .i64 0, .int .i64 0, .int .i64 0, .int .i64 0, .int .i64 0, .int .i64 0, .int .i64 0, .int .i64 0], true⟩),
  (24, ⟨.sl 23, 1, 24, [.slice none 0 0], false⟩),
  (1, ⟨.cl, 1, 8, [.nilFunc], false⟩),
  (2, ⟨.int .i64, 1, 8, [.int .i64 0], false⟩),
  (5, ⟨.int .u8, 1, 1, [.int .u8 0], false⟩),
  (9, ⟨.str, 1, 16, [.string ⟨#[]⟩], false⟩),
  (12, ⟨.int .u64, 1, 8, [.int .u64 0], false⟩),
  (20, ⟨.cl, 1, 16, [.nilIface], false⟩),
  (21, ⟨.int .i32, 1, 4, [.int .i32 0], false⟩),
  (22, ⟨.st [(0, 1, 1), (1, 1, 1), (2, 1, 1), (3, 1, 1), (4, 1, 1), (5, 1, 1), (6, 1, 1), (7, 1, 1), (8, 1, 1), (9, 1, 1)], 10, 80, [.int .i64 0, .int .i64 0, .int .i64 0, .int .i64 0, .int .i64 0, .int .i64 0, .int .i64 0, .int .i64 0, .int .i64 0, .int .i64 0], true⟩),
  (27, ⟨.cl, 1, 8, [.nilFunc], false⟩),
  (29, ⟨.cl, 1, 8, [.nilFunc], false⟩),
  (31, ⟨.cl, 1, 8, [.nilFunc], false⟩),
  (32, ⟨.cl, 1, 8, [.nilFunc], false⟩),
  (33, ⟨.cl, 1, 8, [.nilFunc], false⟩),
  (34, ⟨.cl, 1, 8, [.nilFunc], false⟩),
  (35, ⟨.cl, 1, 8, [.nilFunc], false⟩),
  (36, ⟨.cl, 1, 8, [.nilFunc], false⟩),
  (37, ⟨.cl, 1, 8, [.nilFunc], false⟩),
  (38, ⟨.cl, 1, 8, [.nilFunc], false⟩),
  (39, ⟨.cl, 1, 8, [.nilFunc], false⟩),
  (40, ⟨.cl, 1, 8, [.nilFunc], false⟩),
  (41, ⟨.cl, 1, 8, [.nilFunc], false⟩),
  (42, ⟨.cl, 1, 8, [.nilFunc], false⟩),
  (43, ⟨.cl, 1, 8, [.nilFunc], false⟩),
  (44, ⟨.cl, 1, 8, [.nilFunc], false⟩),
  (45, ⟨.cl, 1, 8, [.nilFunc], false⟩),
  (46, ⟨.cl, 1, 8, [.nilFunc], false⟩),
  (47, ⟨.cl, 1, 8, [.nilFunc], false⟩),
  (48, ⟨.cl, 1, 8, [.map none], false⟩),
  (49, ⟨.st [], 0, 0, [], true⟩),
  (51, ⟨.cl, 1, 8, [.nilFunc], false⟩),
  (52, ⟨.cl, 1, 8, [.nilFunc], false⟩),
  (58, ⟨.cl, 1, 8, [.nilFunc], false⟩),
  (59, ⟨.int .u32, 1, 4, [.int .u32 0], false⟩),
  (62, ⟨.cl, 1, 8, [.nilFunc], false⟩),
  (63, ⟨.ptr 5, 1, 8, [.pointer none], false⟩)]
set_option maxRecDepth 100000
theorem Tok : TTok Try.prog T :=
  ⟨by kernel_rfl, by kernel_rfl, by kernel_rfl, by kernel_rfl, by kernel_rfl, by kernel_rfl, by kernel_rfl, by kernel_rfl, by kernel_rfl, by kernel_rfl, by kernel_rfl, by kernel_rfl, by kernel_rfl, by kernel_rfl, by kernel_rfl, by kernel_rfl, by kernel_rfl, by kernel_rfl, by kernel_rfl, by kernel_rfl, by kernel_rfl, by kernel_rfl, by kernel_rfl, by kernel_rfl, by kernel_rfl, by kernel_rfl, by kernel_rfl, by kernel_rfl, by kernel_rfl, by kernel_rfl, by kernel_rfl, by kernel_rfl, by kernel_rfl, by kernel_rfl, by kernel_rfl, by kernel_rfl, by kernel_rfl, by kernel_rfl, by kernel_rfl, by kernel_rfl, trivial⟩
theorem mixed : Try.prog.follows .mixedOrders = true := by kernel_rfl
end Go.Proofs.Ytblibhmmliljgaa.V
