/-
  Facts on the types and functions of the translation, reckoned by the kernel. Condition: none.
-/
import Derived.Test.YtejlhpmmgjfllaaCtxF
import Derived.Test.YtejlhpmmgjfllaaCtxBF
namespace Go.Proofs.Ytejlhpmmgjfllaa
open Go Go.Fw

theorem cells_22 : Try.prog.cellsOf 22 = 1 := by kernel_rfl
theorem cells_24 : Try.prog.cellsOf 24 = 4 := by kernel_rfl
theorem cells_26 : Try.prog.cellsOf 26 = 7 := by kernel_rfl
theorem cells_3 : Try.prog.cellsOf 3 = 1 := by kernel_rfl
theorem cells_4 : Try.prog.cellsOf 4 = 1 := by kernel_rfl
theorem cl_106 : callable Try.prog 106 = true := by kernel_rfl
theorem cl_116 : callable Try.prog 116 = true := by kernel_rfl
theorem cl_13 : callable Try.prog 13 = true := by kernel_rfl
theorem cl_15 : callable Try.prog 15 = true := by kernel_rfl
theorem cl_18 : callable Try.prog 18 = true := by kernel_rfl
theorem cl_21 : callable Try.prog 21 = true := by kernel_rfl
theorem cl_22 : callable Try.prog 22 = true := by kernel_rfl
theorem cl_62 : callable Try.prog 62 = true := by kernel_rfl
theorem cl_64 : callable Try.prog 64 = true := by kernel_rfl
theorem cl_67 : callable Try.prog 67 = true := by kernel_rfl
theorem el_54 : elemOfT Try.prog 54 = some (22, 1, 24) := by kernel_rfl
theorem es_54 : elemSize Try.prog 54 = some 1 := by kernel_rfl
theorem sl_54 : isSlice Try.prog 54 = true := by kernel_rfl
theorem um_3 : Try.prog.underlying 3 = some (.int .i64) := by kernel_rfl

end Go.Proofs.Ytejlhpmmgjfllaa
