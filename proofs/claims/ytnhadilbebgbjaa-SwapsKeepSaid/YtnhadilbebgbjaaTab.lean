import Derived.Test.YtnhadilbebgbjaaEngO
import Derived.Test.YtnhadilbebgbjaaProg
import Derived.KernelRfl
namespace Go.Proofs.Ytnhadilbebgbjaa
open Go Go.Ab
def tab : Tab := [
  (3, ⟨.int .i64, 1, 8, [.int .i64 0], false, []⟩),
  (4, ⟨.bool, 1, 1, [.bool false], false, []⟩),
  (2, ⟨.int .i64, 1, 8, [.int .i64 0], false, []⟩),
  (5, ⟨.int .u8, 1, 1, [.int .u8 0], false, []⟩),
  (9, ⟨.str, 1, 16, [.str ByteArray.empty], false, []⟩),
  (12, ⟨.int .u64, 1, 8, [.int .u64 0], false, []⟩),
  (20, ⟨.ifc, 1, 16, [.nili], false, []⟩),
  (21, ⟨.int .i32, 1, 4, [.int .i32 0], false, []⟩),
  (22, ⟨.sl 26, 1, 24, [.nils], false, []⟩),
  (24, ⟨.st [(0, 3), (1, 3)], 2, 16, [.int .i64 0, .int .i64 0], true, [.i64, .i64]⟩),
  (26, ⟨.st [(0, 3), (1, 24), (3, 24), (5, 3), (6, 3)], 7, 56, [.int .i64 0, .int .i64 0, .int .i64 0, .int .i64 0, .int .i64 0, .int .i64 0, .int .i64 0], true, []⟩),
  (29, ⟨.int .i64, 1, 8, [.int .i64 0], false, []⟩),
  (36, ⟨.sl 3, 1, 24, [.nils], false, []⟩),
  (40, ⟨.sl 51, 1, 24, [.nils], false, []⟩),
  (41, ⟨.sl 36, 1, 24, [.nils], false, []⟩),
  (47, ⟨.map 3 4, 1, 8, [.nilm], false, []⟩),
  (48, ⟨.map 53 3, 1, 8, [.nilm], false, []⟩),
  (49, ⟨.map 51 3, 1, 8, [.nilm], false, []⟩),
  (51, ⟨.st [(0, 3), (1, 3), (2, 3)], 3, 24, [.int .i64 0, .int .i64 0, .int .i64 0], true, [.i64, .i64, .i64]⟩),
  (53, ⟨.st [(0, 3), (1, 3)], 2, 16, [.int .i64 0, .int .i64 0], true, [.i64, .i64]⟩),
  (56, ⟨.map 57 4, 1, 8, [.nilm], false, []⟩),
  (57, ⟨.arr 2 3, 2, 16, [.int .i64 0, .int .i64 0], false, [.i64, .i64]⟩),
  (62, ⟨.map 64 4, 1, 8, [.nilm], false, []⟩),
  (64, ⟨.st [(0, 3), (1, 24)], 3, 24, [.int .i64 0, .int .i64 0, .int .i64 0], true, [.i64, .i64, .i64]⟩),
  (67, ⟨.map 24 36, 1, 8, [.nilm], false, []⟩),
  (69, ⟨.st [(0, 22), (1, 67), (2, 67)], 3, 40, [.nils, .nilm, .nilm], false, []⟩),
  (71, ⟨.map 3 3, 1, 8, [.nilm], false, []⟩),
  (85, ⟨.sl 4, 1, 24, [.nils], false, []⟩),
  (93, ⟨.int .u64, 1, 8, [.int .u64 0], false, []⟩),
  (102, ⟨.int .i64, 1, 8, [.int .i64 0], false, []⟩),
  (109, ⟨.int .u32, 1, 4, [.int .u32 0], false, []⟩),
  (111, ⟨.int .u64, 1, 8, [.int .u64 0], false, []⟩),
  (112, ⟨.int .u64, 1, 8, [.int .u64 0], false, []⟩),
  (116, ⟨.ptr 3, 1, 8, [.nilp], false, []⟩),
  (118, ⟨.ptr 112, 1, 8, [.nilp], false, []⟩),
  (131, ⟨.ptr 5, 1, 8, [.nilp], false, []⟩)
]
theorem tab_is : tabIs Try.prog tab = true := by kernel_rfl
theorem hT : TabOk Try.prog tab := tabOk_of tab_is
end Go.Proofs.Ytnhadilbebgbjaa
