/-
  Facts on the types and functions of the translation, reckoned by the kernel. Condition: none.
-/
import Derived.Test.YtkgnhpilpmbheaaVcpuF
import Derived.Test.YtkgnhpilpmbheaaVcpuBF
import Derived.Test.YtkgnhpilpmbheaaVcpuCF
namespace Go.Proofs.Ytkgnhpilpmbheaa
open Go Go.Fw

theorem ag_56 : aggSize Try.prog 56 = some (some 2) := by kernel_rfl
theorem cells_22 : Try.prog.cellsOf 22 = 1 := by kernel_rfl
theorem cells_54 : Try.prog.cellsOf 54 = 1 := by kernel_rfl
theorem cells_56 : Try.prog.cellsOf 56 = 2 := by kernel_rfl
theorem cl_104 : callable Try.prog 104 = true := by kernel_rfl
theorem cl_109 : callable Try.prog 109 = true := by kernel_rfl
theorem cl_112 : callable Try.prog 112 = true := by kernel_rfl
theorem cl_113 : callable Try.prog 113 = true := by kernel_rfl
theorem cl_118 : callable Try.prog 118 = true := by kernel_rfl
theorem cl_119 : callable Try.prog 119 = true := by kernel_rfl
theorem cl_120 : callable Try.prog 120 = true := by kernel_rfl
theorem cl_121 : callable Try.prog 121 = true := by kernel_rfl
theorem cl_122 : callable Try.prog 122 = true := by kernel_rfl
theorem cl_137 : callable Try.prog 137 = true := by kernel_rfl
theorem cl_142 : callable Try.prog 142 = true := by kernel_rfl
theorem cl_53 : callable Try.prog 53 = true := by kernel_rfl
theorem cl_56 : callable Try.prog 56 = true := by kernel_rfl
theorem cl_59 : callable Try.prog 59 = true := by kernel_rfl
theorem cl_63 : callable Try.prog 63 = true := by kernel_rfl
theorem cl_65 : callable Try.prog 65 = true := by kernel_rfl
theorem cl_70 : callable Try.prog 70 = true := by kernel_rfl
theorem cl_71 : callable Try.prog 71 = true := by kernel_rfl
theorem cl_72 : callable Try.prog 72 = true := by kernel_rfl
theorem cl_73 : callable Try.prog 73 = true := by kernel_rfl
theorem cl_81 : callable Try.prog 81 = true := by kernel_rfl
theorem pl_62 : placesOf Try.prog 62 = some [(0, 1), (1, 1)] := by kernel_rfl

end Go.Proofs.Ytkgnhpilpmbheaa
