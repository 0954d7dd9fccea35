/-
  Facts on the types and functions of the translation, reckoned by the kernel. Condition: none.
-/
import Derived.Test.YtdlhpomgmlcfoaaVcpuF
import Derived.Test.YtdlhpomgmlcfoaaVcpuBF
namespace Go.Proofs.Ytdlhpomgmlcfoaa
open Go Go.Fw

theorem cl_53 : callable Try.prog 53 = true := by kernel_rfl
theorem cl_57 : callable Try.prog 57 = true := by kernel_rfl
theorem cl_71 : callable Try.prog 71 = true := by kernel_rfl
theorem cl_73 : callable Try.prog 73 = true := by kernel_rfl
theorem cl_74 : callable Try.prog 74 = true := by kernel_rfl
theorem cl_76 : callable Try.prog 76 = true := by kernel_rfl
theorem cl_81 : callable Try.prog 81 = true := by kernel_rfl
theorem cn_4 : cellsN Try.prog 4 = some 1 := by kernel_rfl

end Go.Proofs.Ytdlhpomgmlcfoaa
