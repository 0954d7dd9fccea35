/-
  Facts on the types and functions of the translation, reckoned by the kernel. Condition: none.
-/
import Derived.Test.YtkgnhpilpmbheaaVcpuF
import Derived.Test.YtkgnhpilpmbheaaVcpuBF
import Derived.Test.YtkgnhpilpmbheaaVcpuCF
import Derived.Test.YtkgnhpilpmbheaaVcpuGF
import Derived.Test.YtkgnhpilpmbheaaVcpuHF
namespace Go.Proofs.Ytkgnhpilpmbheaa
open Go Go.Fw

theorem ag_115 : aggSize Try.prog 115 = some (some 2) := by kernel_rfl
theorem ag_117 : aggSize Try.prog 117 = some (some 5) := by kernel_rfl
theorem ag_34 : aggSize Try.prog 34 = some none := by kernel_rfl
theorem ag_84 : aggSize Try.prog 84 = some (some 2) := by kernel_rfl
theorem cells_115 : Try.prog.cellsOf 115 = 2 := by kernel_rfl
theorem cl_103 : callable Try.prog 103 = true := by kernel_rfl
theorem cl_105 : callable Try.prog 105 = true := by kernel_rfl
theorem cl_107 : callable Try.prog 107 = true := by kernel_rfl
theorem cl_108 : callable Try.prog 108 = true := by kernel_rfl
theorem cl_111 : callable Try.prog 111 = true := by kernel_rfl
theorem cl_138 : callable Try.prog 138 = true := by kernel_rfl
theorem cl_139 : callable Try.prog 139 = true := by kernel_rfl
theorem cl_140 : callable Try.prog 140 = true := by kernel_rfl
theorem cl_146 : callable Try.prog 146 = true := by kernel_rfl
theorem cl_54 : callable Try.prog 54 = true := by kernel_rfl
theorem cl_55 : callable Try.prog 55 = true := by kernel_rfl
theorem cl_57 : callable Try.prog 57 = true := by kernel_rfl
theorem cl_58 : callable Try.prog 58 = true := by kernel_rfl
theorem cl_60 : callable Try.prog 60 = true := by kernel_rfl
theorem cl_61 : callable Try.prog 61 = true := by kernel_rfl
theorem cl_62 : callable Try.prog 62 = true := by kernel_rfl
theorem cl_64 : callable Try.prog 64 = true := by kernel_rfl
theorem cn_117 : cellsN Try.prog 117 = some 5 := by kernel_rfl
theorem cn_34 : cellsN Try.prog 34 = some 1 := by kernel_rfl
theorem cn_84 : cellsN Try.prog 84 = some 2 := by kernel_rfl
theorem el_64 : elemOfT Try.prog 64 = some (84, 2, 16) := by kernel_rfl
theorem es_57 : elemSize Try.prog 57 = some 2 := by kernel_rfl
theorem es_64 : elemSize Try.prog 64 = some 2 := by kernel_rfl
theorem fo_115_0 : fieldOff Try.prog 115 0 = some 0 := by kernel_rfl
theorem fo_115_1 : fieldOff Try.prog 115 1 = some 1 := by kernel_rfl
theorem fo_117_0 : fieldOff Try.prog 117 0 = some 0 := by kernel_rfl
theorem fo_117_1 : fieldOff Try.prog 117 1 = some 2 := by kernel_rfl
theorem fo_117_2 : fieldOff Try.prog 117 2 = some 3 := by kernel_rfl
theorem fo_117_3 : fieldOff Try.prog 117 3 = some 4 := by kernel_rfl
theorem fo_84_0 : fieldOff Try.prog 84 0 = some 0 := by kernel_rfl
theorem fo_84_1 : fieldOff Try.prog 84 1 = some 1 := by kernel_rfl
theorem pl_117 : placesOf Try.prog 117 = some [(0, 2), (2, 1), (3, 1), (4, 1)] := by kernel_rfl
theorem sl_57 : isSlice Try.prog 57 = true := by kernel_rfl
theorem sl_64 : isSlice Try.prog 64 = true := by kernel_rfl
theorem z_117 : zeroOf Try.prog 117 = some [.nil, .nil, .nil, .int .i64 0, .int .i64 0] := by kernel_rfl
theorem z_84 : zeroOf Try.prog 84 = some [.int .i64 0, .int .i64 0] := by kernel_rfl

end Go.Proofs.Ytkgnhpilpmbheaa
