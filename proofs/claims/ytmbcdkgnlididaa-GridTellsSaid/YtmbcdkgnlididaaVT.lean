/- The types of the program, as the walk by verification conditions needs them. -/
import Derived.Test.YtmbcdkgnlididaaVFn
namespace Go.Proofs.Ytmbcdkgnlididaa.V
open Go
def T : TT := [
  (3, ⟨.int .i64, 1, 8, [.int .i64 0], false⟩),
  (4, ⟨.bool, 1, 1, [.bool false], false⟩),
  (24, ⟨.int .i64, 1, 8, [.int .i64 0], false⟩),
  (38, ⟨.st [(0, 1, 1), (1, 1, 1), (2, 1, 1)], 3, 24, [.int .i64 0, .int .i64 0, .int .i64 0], true⟩),
  (46, ⟨.st [(0, 1, 1), (1, 1, 1), (2, 1, 1)], 3, 72, [.slice none 0 0, .slice none 0 0, .slice none 0 0], false⟩),
  (22, ⟨.sl 3, 1, 24, [.slice none 0 0], false⟩),
  (23, ⟨.sl 38, 1, 24, [.slice none 0 0], false⟩),
  (30, ⟨.sl 4, 1, 24, [.slice none 0 0], false⟩),
  (1, ⟨.cl, 1, 8, [.nilFunc], false⟩),
  (2, ⟨.int .i64, 1, 8, [.int .i64 0], false⟩),
  (5, ⟨.int .u8, 1, 1, [.int .u8 0], false⟩),
  (9, ⟨.str, 1, 16, [.string ⟨#[]⟩], false⟩),
  (12, ⟨.int .u64, 1, 8, [.int .u64 0], false⟩),
  (20, ⟨.cl, 1, 16, [.nilIface], false⟩),
  (21, ⟨.int .i32, 1, 4, [.int .i32 0], false⟩),
  (26, ⟨.cl, 1, 8, [.nilFunc], false⟩),
  (27, ⟨.cl, 1, 8, [.nilFunc], false⟩),
  (28, ⟨.cl, 1, 8, [.nilFunc], false⟩),
  (29, ⟨.cl, 1, 8, [.nilFunc], false⟩),
  (31, ⟨.cl, 1, 8, [.nilFunc], false⟩),
  (32, ⟨.cl, 1, 8, [.nilFunc], false⟩),
  (33, ⟨.cl, 1, 8, [.nilFunc], false⟩),
  (34, ⟨.cl, 1, 8, [.nilFunc], false⟩),
  (35, ⟨.cl, 1, 8, [.nilFunc], false⟩),
  (36, ⟨.cl, 1, 8, [.nilFunc], false⟩),
  (37, ⟨.st [(0, 1, 1), (1, 1, 1), (2, 1, 1)], 3, 24, [.int .i64 0, .int .i64 0, .int .i64 0], true⟩),
  (39, ⟨.cl, 1, 8, [.nilFunc], false⟩),
  (40, ⟨.cl, 1, 8, [.nilFunc], false⟩),
  (41, ⟨.cl, 1, 8, [.nilFunc], false⟩),
  (42, ⟨.cl, 1, 8, [.nilFunc], false⟩),
  (43, ⟨.ptr 46, 1, 8, [.pointer none], false⟩),
  (44, ⟨.cl, 1, 8, [.nilFunc], false⟩),
  (45, ⟨.st [(0, 1, 1), (1, 1, 1), (2, 1, 1)], 3, 72, [.slice none 0 0, .slice none 0 0, .slice none 0 0], false⟩),
  (47, ⟨.cl, 1, 8, [.nilFunc], false⟩),
  (48, ⟨.cl, 1, 8, [.nilFunc], false⟩),
  (49, ⟨.cl, 1, 8, [.nilFunc], false⟩),
  (50, ⟨.cl, 1, 8, [.nilFunc], false⟩),
  (51, ⟨.cl, 1, 8, [.nilFunc], false⟩),
  (53, ⟨.cl, 1, 8, [.nilFunc], false⟩),
  (54, ⟨.cl, 1, 8, [.nilFunc], false⟩),
  (55, ⟨.cl, 1, 8, [.nilFunc], false⟩),
  (56, ⟨.cl, 1, 8, [.nilFunc], false⟩),
  (57, ⟨.cl, 1, 8, [.nilFunc], false⟩),
  (63, ⟨.cl, 1, 8, [.nilFunc], false⟩),
  (64, ⟨.int .u32, 1, 4, [.int .u32 0], false⟩),
  (67, ⟨.cl, 1, 8, [.nilFunc], false⟩),
  (68, ⟨.ptr 5, 1, 8, [.pointer none], false⟩)]
set_option maxRecDepth 100000
theorem Tok : TTok Try.prog T :=
  ⟨by kernel_rfl, by kernel_rfl, by kernel_rfl, by kernel_rfl, by kernel_rfl, by kernel_rfl, by kernel_rfl, by kernel_rfl, by kernel_rfl, by kernel_rfl, by kernel_rfl, by kernel_rfl, by kernel_rfl, by kernel_rfl, by kernel_rfl, by kernel_rfl, by kernel_rfl, by kernel_rfl, by kernel_rfl, by kernel_rfl, by kernel_rfl, by kernel_rfl, by kernel_rfl, by kernel_rfl, by kernel_rfl, by kernel_rfl, by kernel_rfl, by kernel_rfl, by kernel_rfl, by kernel_rfl, by kernel_rfl, by kernel_rfl, by kernel_rfl, by kernel_rfl, by kernel_rfl, by kernel_rfl, by kernel_rfl, by kernel_rfl, by kernel_rfl, by kernel_rfl, by kernel_rfl, by kernel_rfl, by kernel_rfl, by kernel_rfl, by kernel_rfl, by kernel_rfl, by kernel_rfl, trivial⟩
theorem mixed : Try.prog.follows .mixedOrders = true := by kernel_rfl
end Go.Proofs.Ytmbcdkgnlididaa.V
