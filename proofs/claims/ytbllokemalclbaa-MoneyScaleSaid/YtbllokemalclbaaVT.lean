/- The types of the program, as the walk by verification conditions needs them. -/
import Derived.Test.YtbllokemalclbaaVFn
namespace Go.Proofs.Ytbllokemalclbaa.V
open Go
def T : TT := [
  (3, ⟨.int .i64, 1, 8, [.int .i64 0], false⟩),
  (4, ⟨.bool, 1, 1, [.bool false], false⟩),
  (23, ⟨.int .i64, 1, 8, [.int .i64 0], false⟩),
  (22, ⟨.sl 3, 1, 24, [.slice none 0 0], false⟩),
  (1, ⟨.cl, 1, 8, [.nilFunc], false⟩),
  (2, ⟨.int .i64, 1, 8, [.int .i64 0], false⟩),
  (5, ⟨.int .u8, 1, 1, [.int .u8 0], false⟩),
  (9, ⟨.str, 1, 16, [.string ⟨#[]⟩], false⟩),
  (12, ⟨.int .u64, 1, 8, [.int .u64 0], false⟩),
  (20, ⟨.cl, 1, 16, [.nilIface], false⟩),
  (21, ⟨.int .i32, 1, 4, [.int .i32 0], false⟩),
  (25, ⟨.cl, 1, 8, [.nilFunc], false⟩),
  (27, ⟨.cl, 1, 8, [.nilFunc], false⟩),
  (28, ⟨.cl, 1, 8, [.nilFunc], false⟩),
  (29, ⟨.cl, 1, 8, [.nilFunc], false⟩),
  (30, ⟨.cl, 1, 8, [.nilFunc], false⟩),
  (31, ⟨.cl, 1, 8, [.nilFunc], false⟩),
  (32, ⟨.cl, 1, 8, [.nilFunc], false⟩),
  (33, ⟨.cl, 1, 8, [.nilFunc], false⟩),
  (34, ⟨.cl, 1, 8, [.nilFunc], false⟩),
  (35, ⟨.cl, 1, 8, [.nilFunc], false⟩),
  (36, ⟨.cl, 1, 8, [.nilFunc], false⟩),
  (37, ⟨.cl, 1, 8, [.nilFunc], false⟩),
  (39, ⟨.cl, 1, 8, [.nilFunc], false⟩),
  (41, ⟨.cl, 1, 8, [.nilFunc], false⟩),
  (42, ⟨.int .u64, 1, 8, [.int .u64 0], false⟩),
  (44, ⟨.cl, 1, 8, [.nilFunc], false⟩),
  (46, ⟨.cl, 1, 8, [.nilFunc], false⟩),
  (47, ⟨.cl, 1, 8, [.nilFunc], false⟩),
  (48, ⟨.int .u64, 1, 8, [.int .u64 0], false⟩),
  (49, ⟨.cl, 1, 16, [.nilIface], false⟩),
  (50, ⟨.cl, 1, 16, [.nilIface], false⟩),
  (51, ⟨.cl, 1, 8, [.nilFunc], false⟩),
  (52, ⟨.ptr 70, 1, 8, [.pointer none], false⟩),
  (53, ⟨.cl, 1, 8, [.nilFunc], false⟩),
  (59, ⟨.cl, 1, 8, [.nilFunc], false⟩),
  (60, ⟨.int .u32, 1, 4, [.int .u32 0], false⟩),
  (63, ⟨.cl, 1, 8, [.nilFunc], false⟩),
  (64, ⟨.ptr 5, 1, 8, [.pointer none], false⟩),
  (69, ⟨.st [(0, 1, 1)], 1, 16, [.string ⟨#[]⟩], false⟩),
  (70, ⟨.st [(0, 1, 1)], 1, 16, [.string ⟨#[]⟩], false⟩)]
set_option maxRecDepth 100000
theorem Tok : TTok Try.prog T :=
  ⟨by kernel_rfl, by kernel_rfl, by kernel_rfl, by kernel_rfl, by kernel_rfl, by kernel_rfl, by kernel_rfl, by kernel_rfl, by kernel_rfl, by kernel_rfl, by kernel_rfl, by kernel_rfl, by kernel_rfl, by kernel_rfl, by kernel_rfl, by kernel_rfl, by kernel_rfl, by kernel_rfl, by kernel_rfl, by kernel_rfl, by kernel_rfl, by kernel_rfl, by kernel_rfl, by kernel_rfl, by kernel_rfl, by kernel_rfl, by kernel_rfl, by kernel_rfl, by kernel_rfl, by kernel_rfl, by kernel_rfl, by kernel_rfl, by kernel_rfl, by kernel_rfl, by kernel_rfl, by kernel_rfl, by kernel_rfl, by kernel_rfl, by kernel_rfl, by kernel_rfl, by kernel_rfl, trivial⟩
theorem mixed : Try.prog.follows .mixedOrders = true := by kernel_rfl
end Go.Proofs.Ytbllokemalclbaa.V
