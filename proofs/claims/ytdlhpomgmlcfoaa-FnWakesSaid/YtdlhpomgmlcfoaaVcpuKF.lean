/-
  Facts on the types and functions of the translation, reckoned by the kernel. Condition: none.
-/
import Derived.Test.YtdlhpomgmlcfoaaVcpuF
import Derived.Test.YtdlhpomgmlcfoaaVcpuBF
import Derived.Test.YtdlhpomgmlcfoaaVcpuCF
import Derived.Test.YtdlhpomgmlcfoaaVcpuGF
import Derived.Test.YtdlhpomgmlcfoaaVcpuHF
namespace Go.Proofs.Ytdlhpomgmlcfoaa
open Go Go.Fw

theorem ag_22 : aggSize Try.prog 22 = some none := by kernel_rfl
theorem ag_5 : aggSize Try.prog 5 = some none := by kernel_rfl
theorem ag_64 : aggSize Try.prog 64 = some none := by kernel_rfl
theorem cl_36 : callable Try.prog 36 = true := by kernel_rfl
theorem cl_37 : callable Try.prog 37 = true := by kernel_rfl
theorem cl_58 : callable Try.prog 58 = true := by kernel_rfl
theorem cl_59 : callable Try.prog 59 = true := by kernel_rfl
theorem cl_60 : callable Try.prog 60 = true := by kernel_rfl
theorem cl_61 : callable Try.prog 61 = true := by kernel_rfl
theorem cl_79 : callable Try.prog 79 = true := by kernel_rfl
theorem cn_25 : cellsN Try.prog 25 = some 1 := by kernel_rfl
theorem cn_64 : cellsN Try.prog 64 = some 1 := by kernel_rfl
theorem es_22 : elemSize Try.prog 22 = some 1 := by kernel_rfl
theorem fo_66_0 : fieldOff Try.prog 66 0 = some 0 := by kernel_rfl
theorem fo_66_1 : fieldOff Try.prog 66 1 = some 1 := by kernel_rfl
theorem fo_66_2 : fieldOff Try.prog 66 2 = some 2 := by kernel_rfl
theorem pl_56 : placesOf Try.prog 56 = some [(0, 1), (1, 1), (2, 1), (3, 1), (4, 1)] := by kernel_rfl
theorem sl_22 : isSlice Try.prog 22 = true := by kernel_rfl
theorem ui_3 : (Try.prog.underlying 3).isSome = true := by kernel_rfl
theorem ui_5 : (Try.prog.underlying 5).isSome = true := by kernel_rfl
theorem ui_64 : (Try.prog.underlying 64).isSome = true := by kernel_rfl
theorem um_3 : Try.prog.underlying 3 = some (.int .i64) := by kernel_rfl
theorem um_64 : Try.prog.underlying 64 = some (.int .u64) := by kernel_rfl

end Go.Proofs.Ytdlhpomgmlcfoaa
