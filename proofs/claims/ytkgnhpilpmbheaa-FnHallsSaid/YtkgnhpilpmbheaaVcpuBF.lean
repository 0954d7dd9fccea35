/-
  Facts on the types and functions of the translation, reckoned by the kernel. Condition: none.
-/
import Derived.Test.YtkgnhpilpmbheaaVcpuF
namespace Go.Proofs.Ytkgnhpilpmbheaa
open Go Go.Fw

theorem cl_101 : callable Try.prog 101 = true := by kernel_rfl
theorem cl_136 : callable Try.prog 136 = true := by kernel_rfl
theorem cl_98 : callable Try.prog 98 = true := by kernel_rfl

end Go.Proofs.Ytkgnhpilpmbheaa
