/-
  Facts on the types and functions of the translation, reckoned by the kernel. Condition: none.
-/
import Derived.Test.YtkgnhpilpmbheaaVcpuF
import Derived.Test.YtkgnhpilpmbheaaVcpuBF
import Derived.Test.YtkgnhpilpmbheaaVcpuCF
import Derived.Test.YtkgnhpilpmbheaaVcpuDF
namespace Go.Proofs.Ytkgnhpilpmbheaa
open Go Go.Fw

theorem cl_25 : callable Try.prog 25 = true := by kernel_rfl
theorem cl_26 : callable Try.prog 26 = true := by kernel_rfl
theorem cl_27 : callable Try.prog 27 = true := by kernel_rfl
theorem cl_28 : callable Try.prog 28 = true := by kernel_rfl
theorem z_3 : zeroOf Try.prog 3 = some [.int .i64 0] := by kernel_rfl

end Go.Proofs.Ytkgnhpilpmbheaa
