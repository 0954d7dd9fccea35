/-
  Facts on the types and functions of the translation, reckoned by the kernel. Condition: none.
-/
import Derived.Test.YtilobmfacbokbaaVcpuF
namespace Go.Proofs.Ytilobmfacbokbaa
open Go Go.Fw

theorem cl_135 : callable Try.prog 135 = true := by kernel_rfl
theorem cl_30 : callable Try.prog 30 = true := by kernel_rfl
theorem cl_31 : callable Try.prog 31 = true := by kernel_rfl
theorem cl_32 : callable Try.prog 32 = true := by kernel_rfl
theorem cl_33 : callable Try.prog 33 = true := by kernel_rfl
theorem cl_95 : callable Try.prog 95 = true := by kernel_rfl
theorem cl_96 : callable Try.prog 96 = true := by kernel_rfl

end Go.Proofs.Ytilobmfacbokbaa
