/-
  Facts on the types and functions of the translation, reckoned by the kernel. Condition: none.
-/
import Derived.Test.YtkgnhpilpmbheaaVcpuF
import Derived.Test.YtkgnhpilpmbheaaVcpuBF
import Derived.Test.YtkgnhpilpmbheaaVcpuCF
import Derived.Test.YtkgnhpilpmbheaaVcpuGF
import Derived.Test.YtkgnhpilpmbheaaVcpuHF
namespace Go.Proofs.Ytkgnhpilpmbheaa
open Go Go.Fw

theorem ag_104 : aggSize Try.prog 104 = some none := by kernel_rfl
theorem ag_41 : aggSize Try.prog 41 = some none := by kernel_rfl
theorem ag_5 : aggSize Try.prog 5 = some none := by kernel_rfl
theorem cells_5 : Try.prog.cellsOf 5 = 1 := by kernel_rfl
theorem cl_124 : callable Try.prog 124 = true := by kernel_rfl
theorem cl_126 : callable Try.prog 126 = true := by kernel_rfl
theorem cl_127 : callable Try.prog 127 = true := by kernel_rfl
theorem cl_128 : callable Try.prog 128 = true := by kernel_rfl
theorem cl_133 : callable Try.prog 133 = true := by kernel_rfl
theorem cl_134 : callable Try.prog 134 = true := by kernel_rfl
theorem cl_135 : callable Try.prog 135 = true := by kernel_rfl
theorem cl_145 : callable Try.prog 145 = true := by kernel_rfl
theorem cl_34 : callable Try.prog 34 = true := by kernel_rfl
theorem cl_36 : callable Try.prog 36 = true := by kernel_rfl
theorem cl_42 : callable Try.prog 42 = true := by kernel_rfl
theorem cl_77 : callable Try.prog 77 = true := by kernel_rfl
theorem cl_79 : callable Try.prog 79 = true := by kernel_rfl
theorem cl_80 : callable Try.prog 80 = true := by kernel_rfl
theorem cl_82 : callable Try.prog 82 = true := by kernel_rfl
theorem cl_83 : callable Try.prog 83 = true := by kernel_rfl
theorem cl_84 : callable Try.prog 84 = true := by kernel_rfl
theorem cl_85 : callable Try.prog 85 = true := by kernel_rfl
theorem cl_99 : callable Try.prog 99 = true := by kernel_rfl
theorem cn_104 : cellsN Try.prog 104 = some 1 := by kernel_rfl
theorem es_41 : elemSize Try.prog 41 = some 1 := by kernel_rfl
theorem fo_106_0 : fieldOff Try.prog 106 0 = some 0 := by kernel_rfl
theorem fo_106_1 : fieldOff Try.prog 106 1 = some 1 := by kernel_rfl
theorem fo_106_2 : fieldOff Try.prog 106 2 = some 2 := by kernel_rfl
theorem pl_106 : placesOf Try.prog 106 = some [(0, 1), (1, 1), (2, 1)] := by kernel_rfl
theorem pl_46 : placesOf Try.prog 46 = some [(0, 1), (1, 1), (2, 1), (3, 1), (4, 1)] := by kernel_rfl
theorem sl_41 : isSlice Try.prog 41 = true := by kernel_rfl
theorem ui_104 : (Try.prog.underlying 104).isSome = true := by kernel_rfl
theorem ui_3 : (Try.prog.underlying 3).isSome = true := by kernel_rfl
theorem ui_5 : (Try.prog.underlying 5).isSome = true := by kernel_rfl
theorem um_104 : Try.prog.underlying 104 = some (.int .u64) := by kernel_rfl
theorem um_3 : Try.prog.underlying 3 = some (.int .i64) := by kernel_rfl
theorem z_106 : zeroOf Try.prog 106 = some [.nil, .int .i64 0, .int .u64 0] := by kernel_rfl

end Go.Proofs.Ytkgnhpilpmbheaa
