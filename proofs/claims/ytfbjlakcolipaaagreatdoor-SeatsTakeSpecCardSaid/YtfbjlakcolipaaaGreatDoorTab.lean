import Derived.Test.YtfbjlakcolipaaaGreatDoorEngO
import Derived.Test.YtfbjlakcolipaaaGreatDoorProg
import Derived.KernelRfl
namespace Go.Proofs.YtfbjlakcolipaaaGreatDoor
open Go Go.Ab
def tab : Tab := [
  (3, ⟨.int .i64, 1, 8, [.int .i64 0], false⟩),
  (4, ⟨.bool, 1, 1, [.bool false], false⟩),
  (2, ⟨.int .i64, 1, 8, [.int .i64 0], false⟩),
  (5, ⟨.int .u8, 1, 1, [.int .u8 0], false⟩),
  (9, ⟨.str, 1, 16, [.str ByteArray.empty], false⟩),
  (12, ⟨.int .u64, 1, 8, [.int .u64 0], false⟩),
  (20, ⟨.ifc, 1, 16, [.nili], false⟩),
  (21, ⟨.int .i32, 1, 4, [.int .i32 0], false⟩),
  (22, ⟨.sl 40, 1, 24, [.nils], false⟩),
  (23, ⟨.sl 44, 1, 24, [.nils], false⟩),
  (25, ⟨.st [(0, 3), (1, 3)], 2, 16, [.int .i64 0, .int .i64 0], true⟩),
  (26, ⟨.sl 3, 1, 24, [.nils], false⟩),
  (29, ⟨.int .i64, 1, 8, [.int .i64 0], false⟩),
  (36, ⟨.st [(0, 3), (1, 3), (2, 3)], 3, 24, [.int .i64 0, .int .i64 0, .int .i64 0], true⟩),
  (37, ⟨.sl 36, 1, 24, [.nils], false⟩),
  (38, ⟨.sl 98, 1, 24, [.nils], false⟩),
  (40, ⟨.st [(0, 3), (1, 3), (2, 3), (3, 3), (4, 3), (5, 38), (6, 37), (7, 26), (8, 4)], 9, 120, [.int .i64 0, .int .i64 0, .int .i64 0, .int .i64 0, .int .i64 0, .nils, .nils, .nils, .bool false], false⟩),
  (44, ⟨.st [(0, 3), (1, 3), (2, 3)], 3, 24, [.int .i64 0, .int .i64 0, .int .i64 0], true⟩),
  (51, ⟨.arr 8 3, 8, 64, [.int .i64 0, .int .i64 0, .int .i64 0, .int .i64 0, .int .i64 0, .int .i64 0, .int .i64 0, .int .i64 0], false⟩),
  (71, ⟨.arr 9 3, 9, 72, [.int .i64 0, .int .i64 0, .int .i64 0, .int .i64 0, .int .i64 0, .int .i64 0, .int .i64 0, .int .i64 0, .int .i64 0], false⟩),
  (73, ⟨.st [(0, 71), (9, 3)], 10, 80, [.int .i64 0, .int .i64 0, .int .i64 0, .int .i64 0, .int .i64 0, .int .i64 0, .int .i64 0, .int .i64 0, .int .i64 0, .int .i64 0], false⟩),
  (79, ⟨.st [(0, 3), (1, 3), (2, 3), (3, 3), (4, 3), (5, 38), (6, 37), (7, 26), (8, 4)], 9, 120, [.int .i64 0, .int .i64 0, .int .i64 0, .int .i64 0, .int .i64 0, .nils, .nils, .nils, .bool false], false⟩),
  (83, ⟨.int .u64, 1, 8, [.int .u64 0], false⟩),
  (93, ⟨.ifc, 1, 16, [.nili], false⟩),
  (94, ⟨.ifc, 1, 16, [.nili], false⟩),
  (98, ⟨.st [(0, 3), (1, 3), (2, 3), (3, 3), (4, 3)], 5, 40, [.int .i64 0, .int .i64 0, .int .i64 0, .int .i64 0, .int .i64 0], true⟩),
  (101, ⟨.st [(0, 3), (1, 3), (2, 3), (3, 3), (4, 3)], 5, 40, [.int .i64 0, .int .i64 0, .int .i64 0, .int .i64 0, .int .i64 0], true⟩),
  (110, ⟨.st [(0, 29)], 1, 8, [.int .i64 0], true⟩),
  (112, ⟨.ptr 110, 1, 8, [.nilp], false⟩),
  (113, ⟨.map 3 40, 1, 8, [.nilm], false⟩),
  (122, ⟨.int .u64, 1, 8, [.int .u64 0], false⟩),
  (124, ⟨.st [(0, 17), (1, 121), (2, 122)], 3, 24, [.nilp, .nilp, .int .u64 0], false⟩),
  (126, ⟨.ifc, 1, 16, [.nili], false⟩),
  (127, ⟨.ifc, 1, 16, [.nili], false⟩),
  (134, ⟨.st [(0, 17)], 1, 8, [.nilp], false⟩),
  (135, ⟨.ptr 166, 1, 8, [.nilp], false⟩),
  (139, ⟨.ifc, 1, 16, [.nili], false⟩),
  (142, ⟨.ifc, 1, 16, [.nili], false⟩),
  (144, ⟨.ifc, 1, 16, [.nili], false⟩),
  (145, ⟨.sl 94, 1, 24, [.nils], false⟩),
  (155, ⟨.int .u32, 1, 4, [.int .u32 0], false⟩),
  (158, ⟨.ptr 5, 1, 8, [.nilp], false⟩),
  (166, ⟨.st [(0, 9), (1, 129)], 2, 24, [.str ByteArray.empty, .int .u8 0], false⟩),
  (169, ⟨.int .u16, 1, 2, [.int .u16 0], false⟩),
  (172, ⟨.sl 175, 1, 24, [.nils], false⟩),
  (176, ⟨.ptr 94, 1, 8, [.nilp], false⟩)
]
theorem tab_is : tabIs Tryz.prog tab = true := by kernel_rfl
theorem hT : TabOk Tryz.prog tab := tabOk_of tab_is
end Go.Proofs.YtfbjlakcolipaaaGreatDoor
