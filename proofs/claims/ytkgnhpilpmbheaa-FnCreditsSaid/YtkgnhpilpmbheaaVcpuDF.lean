/-
  Facts on the types and functions of the translation, reckoned by the kernel. Condition: none.
-/
import Derived.Test.YtkgnhpilpmbheaaVcpuF
import Derived.Test.YtkgnhpilpmbheaaVcpuBF
import Derived.Test.YtkgnhpilpmbheaaVcpuCF
namespace Go.Proofs.Ytkgnhpilpmbheaa
open Go Go.Fw

theorem cl_29 : callable Try.prog 29 = true := by kernel_rfl
theorem cl_30 : callable Try.prog 30 = true := by kernel_rfl
theorem cl_31 : callable Try.prog 31 = true := by kernel_rfl
theorem cl_32 : callable Try.prog 32 = true := by kernel_rfl
theorem cl_33 : callable Try.prog 33 = true := by kernel_rfl
theorem cl_93 : callable Try.prog 93 = true := by kernel_rfl
theorem cl_94 : callable Try.prog 94 = true := by kernel_rfl

end Go.Proofs.Ytkgnhpilpmbheaa
