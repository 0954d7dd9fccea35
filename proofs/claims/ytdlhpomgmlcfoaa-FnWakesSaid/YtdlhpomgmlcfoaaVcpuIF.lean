/-
  Facts on the types and functions of the translation, reckoned by the kernel. Condition: none.
-/
import Derived.Test.YtdlhpomgmlcfoaaVcpuF
import Derived.Test.YtdlhpomgmlcfoaaVcpuBF
import Derived.Test.YtdlhpomgmlcfoaaVcpuCF
import Derived.Test.YtdlhpomgmlcfoaaVcpuGF
import Derived.Test.YtdlhpomgmlcfoaaVcpuHF
namespace Go.Proofs.Ytdlhpomgmlcfoaa
open Go Go.Fw

theorem ag_31 : aggSize Try.prog 31 = some none := by kernel_rfl
theorem ag_37 : aggSize Try.prog 37 = some (some 2) := by kernel_rfl
theorem ag_70 : aggSize Try.prog 70 = some (some 5) := by kernel_rfl
theorem cl_33 : callable Try.prog 33 = true := by kernel_rfl
theorem cl_34 : callable Try.prog 34 = true := by kernel_rfl
theorem cl_35 : callable Try.prog 35 = true := by kernel_rfl
theorem cl_45 : callable Try.prog 45 = true := by kernel_rfl
theorem cl_62 : callable Try.prog 62 = true := by kernel_rfl
theorem cl_63 : callable Try.prog 63 = true := by kernel_rfl
theorem cl_64 : callable Try.prog 64 = true := by kernel_rfl
theorem cl_66 : callable Try.prog 66 = true := by kernel_rfl
theorem cl_68 : callable Try.prog 68 = true := by kernel_rfl
theorem cl_69 : callable Try.prog 69 = true := by kernel_rfl
theorem cl_70 : callable Try.prog 70 = true := by kernel_rfl
theorem cl_80 : callable Try.prog 80 = true := by kernel_rfl
theorem cn_31 : cellsN Try.prog 31 = some 1 := by kernel_rfl
theorem cn_37 : cellsN Try.prog 37 = some 2 := by kernel_rfl
theorem cn_70 : cellsN Try.prog 70 = some 5 := by kernel_rfl
theorem es_28 : elemSize Try.prog 28 = some 2 := by kernel_rfl
theorem fo_37_0 : fieldOff Try.prog 37 0 = some 0 := by kernel_rfl
theorem fo_37_1 : fieldOff Try.prog 37 1 = some 1 := by kernel_rfl
theorem fo_70_0 : fieldOff Try.prog 70 0 = some 0 := by kernel_rfl
theorem fo_70_1 : fieldOff Try.prog 70 1 = some 2 := by kernel_rfl
theorem fo_70_2 : fieldOff Try.prog 70 2 = some 3 := by kernel_rfl
theorem fo_70_3 : fieldOff Try.prog 70 3 = some 4 := by kernel_rfl
theorem pl_70 : placesOf Try.prog 70 = some [(0, 2), (2, 1), (3, 1), (4, 1)] := by kernel_rfl
theorem sl_28 : isSlice Try.prog 28 = true := by kernel_rfl
theorem z_37 : zeroOf Try.prog 37 = some [.int .i64 0, .int .i64 0] := by kernel_rfl
theorem z_70 : zeroOf Try.prog 70 = some [.nil, .nil, .nil, .int .i64 0, .int .i64 0] := by kernel_rfl

end Go.Proofs.Ytdlhpomgmlcfoaa
