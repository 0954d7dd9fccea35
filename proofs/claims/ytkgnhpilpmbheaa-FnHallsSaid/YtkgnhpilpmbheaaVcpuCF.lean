/-
  Facts on the types and functions of the translation, reckoned by the kernel. Condition: none.
-/
import Derived.Test.YtkgnhpilpmbheaaVcpuF
import Derived.Test.YtkgnhpilpmbheaaVcpuBF
namespace Go.Proofs.Ytkgnhpilpmbheaa
open Go Go.Fw

theorem cells_3 : Try.prog.cellsOf 3 = 1 := by kernel_rfl
theorem cells_4 : Try.prog.cellsOf 4 = 1 := by kernel_rfl
theorem cells_95 : Try.prog.cellsOf 95 = 5 := by kernel_rfl
theorem cl_131 : callable Try.prog 131 = true := by kernel_rfl
theorem cl_132 : callable Try.prog 132 = true := by kernel_rfl
theorem cl_141 : callable Try.prog 141 = true := by kernel_rfl
theorem cl_19 : callable Try.prog 19 = true := by kernel_rfl
theorem cl_21 : callable Try.prog 21 = true := by kernel_rfl
theorem cl_23 : callable Try.prog 23 = true := by kernel_rfl
theorem cl_24 : callable Try.prog 24 = true := by kernel_rfl
theorem cl_88 : callable Try.prog 88 = true := by kernel_rfl
theorem cl_91 : callable Try.prog 91 = true := by kernel_rfl
theorem cl_95 : callable Try.prog 95 = true := by kernel_rfl

end Go.Proofs.Ytkgnhpilpmbheaa
