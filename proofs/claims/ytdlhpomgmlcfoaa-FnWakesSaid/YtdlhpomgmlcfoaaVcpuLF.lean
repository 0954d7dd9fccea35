/-
  Facts on the types and functions of the translation, reckoned by the kernel. Condition: none.
-/
import Derived.Test.YtdlhpomgmlcfoaaVcpuF
import Derived.Test.YtdlhpomgmlcfoaaVcpuBF
import Derived.Test.YtdlhpomgmlcfoaaVcpuCF
import Derived.Test.YtdlhpomgmlcfoaaVcpuGF
import Derived.Test.YtdlhpomgmlcfoaaVcpuHF
import Derived.Test.YtdlhpomgmlcfoaaVcpuIF
import Derived.Test.YtdlhpomgmlcfoaaVcpuKF
namespace Go.Proofs.Ytdlhpomgmlcfoaa
open Go Go.Fw

theorem cl_31 : callable Try.prog 31 = true := by kernel_rfl
theorem cl_32 : callable Try.prog 32 = true := by kernel_rfl
theorem cl_44 : callable Try.prog 44 = true := by kernel_rfl
theorem el_28 : elemOfT Try.prog 28 = some (37, 2, 16) := by kernel_rfl
theorem pl_37 : placesOf Try.prog 37 = some [(0, 1), (1, 1)] := by kernel_rfl
theorem pl_66 : placesOf Try.prog 66 = some [(0, 1), (1, 1), (2, 1)] := by kernel_rfl
theorem z_66 : zeroOf Try.prog 66 = some [.nil, .int .i64 0, .int .u64 0] := by kernel_rfl

end Go.Proofs.Ytdlhpomgmlcfoaa
