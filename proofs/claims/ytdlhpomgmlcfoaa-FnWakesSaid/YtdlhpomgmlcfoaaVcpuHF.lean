/-
  Facts on the types and functions of the translation, reckoned by the kernel. Condition: none.
-/
import Derived.Test.YtdlhpomgmlcfoaaVcpuF
import Derived.Test.YtdlhpomgmlcfoaaVcpuBF
import Derived.Test.YtdlhpomgmlcfoaaVcpuCF
import Derived.Test.YtdlhpomgmlcfoaaVcpuGF
namespace Go.Proofs.Ytdlhpomgmlcfoaa
open Go Go.Fw

theorem cl_43 : callable Try.prog 43 = true := by kernel_rfl
theorem cl_46 : callable Try.prog 46 = true := by kernel_rfl
theorem cl_47 : callable Try.prog 47 = true := by kernel_rfl
theorem cl_77 : callable Try.prog 77 = true := by kernel_rfl
theorem cn_24 : cellsN Try.prog 24 = some 1 := by kernel_rfl

end Go.Proofs.Ytdlhpomgmlcfoaa
