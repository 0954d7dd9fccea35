/-
  Facts on the types and functions of the translation, reckoned by the kernel. Condition: none.
-/
import Derived.Test.YtdlhpomgmlcfoaaVcpuF
import Derived.Test.YtdlhpomgmlcfoaaVcpuBF
import Derived.Test.YtdlhpomgmlcfoaaVcpuCF
import Derived.Test.YtdlhpomgmlcfoaaVcpuGF
import Derived.Test.YtdlhpomgmlcfoaaVcpuHF
import Derived.Test.YtdlhpomgmlcfoaaVcpuIF
import Derived.Test.YtdlhpomgmlcfoaaVcpuKF
import Derived.Test.YtdlhpomgmlcfoaaVcpuLF
namespace Go.Proofs.Ytdlhpomgmlcfoaa
open Go Go.Fw

theorem cells_5 : Try.prog.cellsOf 5 = 1 := by kernel_rfl
theorem cl_10 : callable Try.prog 10 = true := by kernel_rfl
theorem cl_11 : callable Try.prog 11 = true := by kernel_rfl
theorem cl_12 : callable Try.prog 12 = true := by kernel_rfl
theorem cl_13 : callable Try.prog 13 = true := by kernel_rfl
theorem cl_14 : callable Try.prog 14 = true := by kernel_rfl
theorem cl_15 : callable Try.prog 15 = true := by kernel_rfl
theorem cl_16 : callable Try.prog 16 = true := by kernel_rfl
theorem cl_17 : callable Try.prog 17 = true := by kernel_rfl
theorem cl_18 : callable Try.prog 18 = true := by kernel_rfl
theorem cl_5 : callable Try.prog 5 = true := by kernel_rfl
theorem cl_6 : callable Try.prog 6 = true := by kernel_rfl
theorem cl_7 : callable Try.prog 7 = true := by kernel_rfl
theorem cl_8 : callable Try.prog 8 = true := by kernel_rfl
theorem cl_9 : callable Try.prog 9 = true := by kernel_rfl

end Go.Proofs.Ytdlhpomgmlcfoaa
