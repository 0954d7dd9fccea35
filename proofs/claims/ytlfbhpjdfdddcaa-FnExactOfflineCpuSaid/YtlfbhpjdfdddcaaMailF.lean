/-
  Facts on the types and functions of the translation, reckoned by the kernel. Condition: none.
-/
import Derived.Test.YtlfbhpjdfdddcaaMail
import Derived.Test.YtlfbhpjdfdddcaaRows
namespace Go.Proofs.Ytlfbhpjdfdddcaa
open Go Go.Fw

theorem ag_23 : aggSize Try.prog 23 = some (some 3) := by kernel_rfl
theorem ag_25 : aggSize Try.prog 25 = some (some 3) := by kernel_rfl
theorem ag_3 : aggSize Try.prog 3 = some none := by kernel_rfl
theorem cells_23 : Try.prog.cellsOf 23 = 3 := by kernel_rfl
theorem cells_3 : Try.prog.cellsOf 3 = 1 := by kernel_rfl
theorem cl_15 : callable Try.prog 15 = true := by kernel_rfl
theorem cl_16 : callable Try.prog 16 = true := by kernel_rfl
theorem cl_17 : callable Try.prog 17 = true := by kernel_rfl
theorem cl_18 : callable Try.prog 18 = true := by kernel_rfl
theorem cl_19 : callable Try.prog 19 = true := by kernel_rfl
theorem cl_20 : callable Try.prog 20 = true := by kernel_rfl
theorem cl_21 : callable Try.prog 21 = true := by kernel_rfl
theorem cl_22 : callable Try.prog 22 = true := by kernel_rfl
theorem cl_23 : callable Try.prog 23 = true := by kernel_rfl
theorem cl_24 : callable Try.prog 24 = true := by kernel_rfl
theorem cl_42 : callable Try.prog 42 = true := by kernel_rfl
theorem cl_59 : callable Try.prog 59 = true := by kernel_rfl
theorem cl_60 : callable Try.prog 60 = true := by kernel_rfl
theorem cl_61 : callable Try.prog 61 = true := by kernel_rfl
theorem cl_62 : callable Try.prog 62 = true := by kernel_rfl
theorem cl_63 : callable Try.prog 63 = true := by kernel_rfl
theorem cl_64 : callable Try.prog 64 = true := by kernel_rfl
theorem cl_67 : callable Try.prog 67 = true := by kernel_rfl
theorem cl_70 : callable Try.prog 70 = true := by kernel_rfl
theorem cl_72 : callable Try.prog 72 = true := by kernel_rfl
theorem cl_84 : callable Try.prog 84 = true := by kernel_rfl
theorem cl_85 : callable Try.prog 85 = true := by kernel_rfl
theorem cn_25 : cellsN Try.prog 25 = some 3 := by kernel_rfl
theorem cn_3 : cellsN Try.prog 3 = some 1 := by kernel_rfl
theorem el_31 : elemOfT Try.prog 31 = some (25, 3, 24) := by kernel_rfl
theorem eqs_25 : eqShape Try.prog 25 = some [true, true, true] := by kernel_rfl
theorem es_28 : elemSize Try.prog 28 = some 3 := by kernel_rfl
theorem es_31 : elemSize Try.prog 31 = some 3 := by kernel_rfl
theorem fo_23_0 : fieldOff Try.prog 23 0 = some 0 := by kernel_rfl
theorem fo_23_1 : fieldOff Try.prog 23 1 = some 1 := by kernel_rfl
theorem fo_23_2 : fieldOff Try.prog 23 2 = some 2 := by kernel_rfl
theorem fo_25_0 : fieldOff Try.prog 25 0 = some 0 := by kernel_rfl
theorem fo_25_1 : fieldOff Try.prog 25 1 = some 1 := by kernel_rfl
theorem fo_25_2 : fieldOff Try.prog 25 2 = some 2 := by kernel_rfl
theorem sl_28 : isSlice Try.prog 28 = true := by kernel_rfl
theorem sl_31 : isSlice Try.prog 31 = true := by kernel_rfl
theorem ui_3 : (Try.prog.underlying 3).isSome = true := by kernel_rfl
theorem um_4 : Try.prog.underlying 4 = some .bool := by kernel_rfl
theorem um_71 : Try.prog.underlying 71 = some (.int .u64) := by kernel_rfl
theorem z_25 : zeroOf Try.prog 25 = some [.int .i64 0, .int .i64 0, .int .i64 0] := by kernel_rfl

end Go.Proofs.Ytlfbhpjdfdddcaa
