import Derived.Test.YtfbjlakcolipaaaDoorEngO
import Derived.Test.YtfbjlakcolipaaaDoorProg
import Derived.KernelRfl
namespace Go.Proofs.YtfbjlakcolipaaaDoor
open Go Go.Ab
def tab : Tab := [
  (3, ⟨.int .i64, 1, 8, [.int .i64 0], false⟩),
  (4, ⟨.bool, 1, 1, [.bool false], false⟩),
  (2, ⟨.int .i64, 1, 8, [.int .i64 0], false⟩),
  (5, ⟨.int .u8, 1, 1, [.int .u8 0], false⟩),
  (9, ⟨.str, 1, 16, [.str ByteArray.empty], false⟩),
  (12, ⟨.int .u64, 1, 8, [.int .u64 0], false⟩),
  (20, ⟨.ifc, 1, 16, [.nili], false⟩),
  (21, ⟨.int .i32, 1, 4, [.int .i32 0], false⟩),
  (22, ⟨.sl 44, 1, 24, [.nils], false⟩),
  (23, ⟨.sl 30, 1, 24, [.nils], false⟩),
  (26, ⟨.int .i64, 1, 8, [.int .i64 0], false⟩),
  (28, ⟨.sl 40, 1, 24, [.nils], false⟩),
  (30, ⟨.st [(0, 3), (1, 3), (2, 3), (3, 3), (4, 5), (5, 4)], 6, 40, [.int .i64 0, .int .i64 0, .int .i64 0, .int .i64 0, .int .u8 0, .bool false], true⟩),
  (32, ⟨.st [(0, 3), (1, 3)], 2, 16, [.int .i64 0, .int .i64 0], true⟩),
  (36, ⟨.sl 3, 1, 24, [.nils], false⟩),
  (40, ⟨.st [(0, 3), (1, 3), (2, 3)], 3, 24, [.int .i64 0, .int .i64 0, .int .i64 0], true⟩),
  (41, ⟨.sl 102, 1, 24, [.nils], false⟩),
  (42, ⟨.sl 47, 1, 24, [.nils], false⟩),
  (44, ⟨.st [(0, 3), (1, 3), (2, 3), (3, 3), (4, 3), (5, 41), (6, 42), (7, 36), (8, 4)], 9, 120, [.int .i64 0, .int .i64 0, .int .i64 0, .int .i64 0, .int .i64 0, .nils, .nils, .nils, .bool false], false⟩),
  (47, ⟨.st [(0, 3), (1, 3), (2, 3)], 3, 24, [.int .i64 0, .int .i64 0, .int .i64 0], true⟩),
  (61, ⟨.arr 9 3, 9, 72, [.int .i64 0, .int .i64 0, .int .i64 0, .int .i64 0, .int .i64 0, .int .i64 0, .int .i64 0, .int .i64 0, .int .i64 0], false⟩),
  (63, ⟨.st [(0, 61), (9, 3)], 10, 80, [.int .i64 0, .int .i64 0, .int .i64 0, .int .i64 0, .int .i64 0, .int .i64 0, .int .i64 0, .int .i64 0, .int .i64 0, .int .i64 0], false⟩),
  (70, ⟨.arr 8 3, 8, 64, [.int .i64 0, .int .i64 0, .int .i64 0, .int .i64 0, .int .i64 0, .int .i64 0, .int .i64 0, .int .i64 0], false⟩),
  (85, ⟨.st [(0, 3), (1, 3), (2, 3), (3, 3), (4, 3), (5, 41), (6, 42), (7, 36), (8, 4)], 9, 120, [.int .i64 0, .int .i64 0, .int .i64 0, .int .i64 0, .int .i64 0, .nils, .nils, .nils, .bool false], false⟩),
  (91, ⟨.ifc, 1, 16, [.nili], false⟩),
  (92, ⟨.ifc, 1, 16, [.nili], false⟩),
  (96, ⟨.int .u64, 1, 8, [.int .u64 0], false⟩),
  (102, ⟨.st [(0, 3), (1, 3), (2, 3), (3, 3), (4, 3)], 5, 40, [.int .i64 0, .int .i64 0, .int .i64 0, .int .i64 0, .int .i64 0], true⟩),
  (105, ⟨.st [(0, 3), (1, 3), (2, 3), (3, 3), (4, 3)], 5, 40, [.int .i64 0, .int .i64 0, .int .i64 0, .int .i64 0, .int .i64 0], true⟩),
  (107, ⟨.st [(0, 26)], 1, 8, [.int .i64 0], true⟩),
  (109, ⟨.ptr 107, 1, 8, [.nilp], false⟩),
  (110, ⟨.map 3 44, 1, 8, [.nilm], false⟩),
  (118, ⟨.int .u64, 1, 8, [.int .u64 0], false⟩),
  (120, ⟨.st [(0, 17), (1, 117), (2, 118)], 3, 24, [.nilp, .nilp, .int .u64 0], false⟩),
  (122, ⟨.ifc, 1, 16, [.nili], false⟩),
  (123, ⟨.ifc, 1, 16, [.nili], false⟩),
  (132, ⟨.st [(0, 17)], 1, 8, [.nilp], false⟩),
  (133, ⟨.ptr 164, 1, 8, [.nilp], false⟩),
  (137, ⟨.ifc, 1, 16, [.nili], false⟩),
  (140, ⟨.ifc, 1, 16, [.nili], false⟩),
  (142, ⟨.ifc, 1, 16, [.nili], false⟩),
  (143, ⟨.sl 92, 1, 24, [.nils], false⟩),
  (153, ⟨.int .u32, 1, 4, [.int .u32 0], false⟩),
  (156, ⟨.ptr 5, 1, 8, [.nilp], false⟩),
  (164, ⟨.st [(0, 9), (1, 125)], 2, 24, [.str ByteArray.empty, .int .u8 0], false⟩),
  (167, ⟨.int .u16, 1, 2, [.int .u16 0], false⟩),
  (170, ⟨.sl 173, 1, 24, [.nils], false⟩),
  (174, ⟨.ptr 92, 1, 8, [.nilp], false⟩)
]
theorem tab_is : tabIs Tryd.prog tab = true := by kernel_rfl
theorem hT : TabOk Tryd.prog tab := tabOk_of tab_is
end Go.Proofs.YtfbjlakcolipaaaDoor
