import Derived.Test.YthghfcbnhdjmiaaEngO
import Derived.Test.YthghfcbnhdjmiaaProg
import Derived.KernelRfl
namespace Go.Proofs.Ythghfcbnhdjmiaa
open Go Go.Ab
def tab : Tab := [
  (3, ⟨.int .i64, 1, 8, [.int .i64 0], false⟩),
  (4, ⟨.bool, 1, 1, [.bool false], false⟩),
  (2, ⟨.int .i64, 1, 8, [.int .i64 0], false⟩),
  (5, ⟨.int .u8, 1, 1, [.int .u8 0], false⟩),
  (9, ⟨.str, 1, 16, [.str ByteArray.empty], false⟩),
  (12, ⟨.int .u64, 1, 8, [.int .u64 0], false⟩),
  (20, ⟨.ifc, 1, 16, [.nili], false⟩),
  (21, ⟨.int .i32, 1, 4, [.int .i32 0], false⟩),
  (22, ⟨.sl 35, 1, 24, [.nils], false⟩),
  (25, ⟨.int .i64, 1, 8, [.int .i64 0], false⟩),
  (35, ⟨.st [(0, 3), (1, 3)], 2, 16, [.int .i64 0, .int .i64 0], true⟩),
  (43, ⟨.sl 3, 1, 24, [.nils], false⟩),
  (46, ⟨.arr 1024 4, 1024, 1024, List.replicate 1024 (.bool false), false⟩),
  (48, ⟨.sl 43, 1, 24, [.nils], false⟩),
  (54, ⟨.int .u64, 1, 8, [.int .u64 0], false⟩),
  (56, ⟨.int .i64, 1, 8, [.int .i64 0], false⟩),
  (65, ⟨.int .u32, 1, 4, [.int .u32 0], false⟩),
  (67, ⟨.int .u64, 1, 8, [.int .u64 0], false⟩),
  (68, ⟨.int .u64, 1, 8, [.int .u64 0], false⟩),
  (72, ⟨.ptr 3, 1, 8, [.nilp], false⟩),
  (75, ⟨.ptr 68, 1, 8, [.nilp], false⟩),
  (88, ⟨.ptr 5, 1, 8, [.nilp], false⟩)
]
theorem tab_is : tabIs Try.prog tab = true := by kernel_rfl
theorem hT : TabOk Try.prog tab := tabOk_of tab_is
end Go.Proofs.Ythghfcbnhdjmiaa
