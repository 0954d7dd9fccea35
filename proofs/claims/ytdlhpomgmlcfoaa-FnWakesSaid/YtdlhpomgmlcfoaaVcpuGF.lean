/-
  Facts on the types and functions of the translation, reckoned by the kernel. Condition: none.
-/
import Derived.Test.YtdlhpomgmlcfoaaVcpuF
import Derived.Test.YtdlhpomgmlcfoaaVcpuBF
import Derived.Test.YtdlhpomgmlcfoaaVcpuCF
namespace Go.Proofs.Ytdlhpomgmlcfoaa
open Go Go.Fw

theorem ag_27 : aggSize Try.prog 27 = some (some 2) := by kernel_rfl
theorem cl_38 : callable Try.prog 38 = true := by kernel_rfl
theorem cl_39 : callable Try.prog 39 = true := by kernel_rfl
theorem cl_40 : callable Try.prog 40 = true := by kernel_rfl
theorem cl_41 : callable Try.prog 41 = true := by kernel_rfl
theorem cl_42 : callable Try.prog 42 = true := by kernel_rfl
theorem cl_67 : callable Try.prog 67 = true := by kernel_rfl
theorem cl_72 : callable Try.prog 72 = true := by kernel_rfl
theorem cn_27 : cellsN Try.prog 27 = some 2 := by kernel_rfl
theorem el_25 : elemOfT Try.prog 25 = some (4, 1, 1) := by kernel_rfl
theorem pl_27 : placesOf Try.prog 27 = some [(0, 1), (1, 1)] := by kernel_rfl
theorem z_27 : zeroOf Try.prog 27 = some [.nil, .nil] := by kernel_rfl

end Go.Proofs.Ytdlhpomgmlcfoaa
