/-
  Facts on the types and functions of the translation, reckoned by the kernel. Condition: none.
-/
import Derived.Test.YtdlhpomgmlcfoaaVcpuF
namespace Go.Proofs.Ytdlhpomgmlcfoaa
open Go Go.Fw

theorem cl_54 : callable Try.prog 54 = true := by kernel_rfl
theorem cl_84 : callable Try.prog 84 = true := by kernel_rfl
theorem cn_3 : cellsN Try.prog 3 = some 1 := by kernel_rfl
theorem el_24 : elemOfT Try.prog 24 = some (56, 5, 32) := by kernel_rfl

end Go.Proofs.Ytdlhpomgmlcfoaa
