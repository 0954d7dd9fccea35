/-
  Facts on the types and functions of the translation, reckoned by the kernel. Condition: none.
-/
import Derived.Test.YtkgnhpilpmbheaaVcpuF
import Derived.Test.YtkgnhpilpmbheaaVcpuBF
import Derived.Test.YtkgnhpilpmbheaaVcpuCF
import Derived.Test.YtkgnhpilpmbheaaVcpuGF
namespace Go.Proofs.Ytkgnhpilpmbheaa
open Go Go.Fw

theorem cl_115 : callable Try.prog 115 = true := by kernel_rfl
theorem cl_116 : callable Try.prog 116 = true := by kernel_rfl
theorem cl_117 : callable Try.prog 117 = true := by kernel_rfl
theorem cl_123 : callable Try.prog 123 = true := by kernel_rfl
theorem cl_29 : callable Try.prog 29 = true := by kernel_rfl
theorem cl_30 : callable Try.prog 30 = true := by kernel_rfl
theorem cl_31 : callable Try.prog 31 = true := by kernel_rfl
theorem cl_66 : callable Try.prog 66 = true := by kernel_rfl
theorem cl_67 : callable Try.prog 67 = true := by kernel_rfl
theorem cl_68 : callable Try.prog 68 = true := by kernel_rfl
theorem cl_69 : callable Try.prog 69 = true := by kernel_rfl
theorem cl_74 : callable Try.prog 74 = true := by kernel_rfl
theorem cl_75 : callable Try.prog 75 = true := by kernel_rfl

end Go.Proofs.Ytkgnhpilpmbheaa
