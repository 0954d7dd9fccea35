/-
  Facts on the types and functions of the translation, reckoned by the kernel. Condition: none.
-/
import Derived.Test.YtehbegibcdfihaaBus
import Derived.Test.YtehbegibcdfihaaRows
namespace Go.Proofs.Ytehbegibcdfihaa
open Go Go.Fw

theorem ag_23 : aggSize Try.prog 23 = some (some 4) := by kernel_rfl
theorem ag_25 : aggSize Try.prog 25 = some (some 4) := by kernel_rfl
theorem ag_3 : aggSize Try.prog 3 = some none := by kernel_rfl
theorem cells_23 : Try.prog.cellsOf 23 = 4 := by kernel_rfl
theorem cells_3 : Try.prog.cellsOf 3 = 1 := by kernel_rfl
theorem cl_10 : callable Try.prog 10 = true := by kernel_rfl
theorem cl_11 : callable Try.prog 11 = true := by kernel_rfl
theorem cl_12 : callable Try.prog 12 = true := by kernel_rfl
theorem cl_13 : callable Try.prog 13 = true := by kernel_rfl
theorem cl_14 : callable Try.prog 14 = true := by kernel_rfl
theorem cl_15 : callable Try.prog 15 = true := by kernel_rfl
theorem cl_16 : callable Try.prog 16 = true := by kernel_rfl
theorem cl_17 : callable Try.prog 17 = true := by kernel_rfl
theorem cl_18 : callable Try.prog 18 = true := by kernel_rfl
theorem cl_19 : callable Try.prog 19 = true := by kernel_rfl
theorem cl_20 : callable Try.prog 20 = true := by kernel_rfl
theorem cl_21 : callable Try.prog 21 = true := by kernel_rfl
theorem cl_60 : callable Try.prog 60 = true := by kernel_rfl
theorem cl_61 : callable Try.prog 61 = true := by kernel_rfl
theorem cl_62 : callable Try.prog 62 = true := by kernel_rfl
theorem cl_63 : callable Try.prog 63 = true := by kernel_rfl
theorem cl_64 : callable Try.prog 64 = true := by kernel_rfl
theorem cl_65 : callable Try.prog 65 = true := by kernel_rfl
theorem cl_66 : callable Try.prog 66 = true := by kernel_rfl
theorem cl_67 : callable Try.prog 67 = true := by kernel_rfl
theorem cl_91 : callable Try.prog 91 = true := by kernel_rfl
theorem cl_96 : callable Try.prog 96 = true := by kernel_rfl
theorem cl_97 : callable Try.prog 97 = true := by kernel_rfl
theorem cl_98 : callable Try.prog 98 = true := by kernel_rfl
theorem cn_25 : cellsN Try.prog 25 = some 4 := by kernel_rfl
theorem cn_3 : cellsN Try.prog 3 = some 1 := by kernel_rfl
theorem el_31 : elemOfT Try.prog 31 = some (25, 4, 32) := by kernel_rfl
theorem es_28 : elemSize Try.prog 28 = some 4 := by kernel_rfl
theorem es_31 : elemSize Try.prog 31 = some 4 := by kernel_rfl
theorem fo_23_0 : fieldOff Try.prog 23 0 = some 0 := by kernel_rfl
theorem fo_23_1 : fieldOff Try.prog 23 1 = some 1 := by kernel_rfl
theorem fo_23_2 : fieldOff Try.prog 23 2 = some 2 := by kernel_rfl
theorem fo_23_3 : fieldOff Try.prog 23 3 = some 3 := by kernel_rfl
theorem fo_25_0 : fieldOff Try.prog 25 0 = some 0 := by kernel_rfl
theorem fo_25_1 : fieldOff Try.prog 25 1 = some 1 := by kernel_rfl
theorem fo_25_2 : fieldOff Try.prog 25 2 = some 2 := by kernel_rfl
theorem fo_25_3 : fieldOff Try.prog 25 3 = some 3 := by kernel_rfl
theorem sl_28 : isSlice Try.prog 28 = true := by kernel_rfl
theorem sl_31 : isSlice Try.prog 31 = true := by kernel_rfl
theorem um_4 : Try.prog.underlying 4 = some .bool := by kernel_rfl
theorem z_25 : zeroOf Try.prog 25 = some [.int .i64 0, .int .i64 0, .int .i64 0, .int .i64 0] := by kernel_rfl

end Go.Proofs.Ytehbegibcdfihaa
