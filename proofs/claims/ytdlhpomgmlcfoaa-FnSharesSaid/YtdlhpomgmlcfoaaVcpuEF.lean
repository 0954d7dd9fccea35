/-
  Facts on the types and functions of the translation, reckoned by the kernel. Condition: none.
-/
import Derived.Test.YtdlhpomgmlcfoaaVcpuF
import Derived.Test.YtdlhpomgmlcfoaaVcpuBF
import Derived.Test.YtdlhpomgmlcfoaaVcpuCF
import Derived.Test.YtdlhpomgmlcfoaaVcpuDF
namespace Go.Proofs.Ytdlhpomgmlcfoaa
open Go Go.Fw

theorem cl_22 : callable Try.prog 22 = true := by kernel_rfl
theorem cl_49 : callable Try.prog 49 = true := by kernel_rfl
theorem cl_50 : callable Try.prog 50 = true := by kernel_rfl
theorem z_3 : zeroOf Try.prog 3 = some [.int .i64 0] := by kernel_rfl

end Go.Proofs.Ytdlhpomgmlcfoaa
