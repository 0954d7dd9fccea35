/-
  Facts on the types and functions of the translation, reckoned by the kernel. Condition: none.
-/
import Derived.Test.YtinbacenkbfifaaPort
import Derived.Test.YtinbacenkbfifaaRows
namespace Go.Proofs.Ytinbacenkbfifaa
open Go Go.Fw

theorem ag_3 : aggSize Try.prog 3 = some none := by kernel_rfl
theorem ag_36 : aggSize Try.prog 36 = some none := by kernel_rfl
theorem ag_38 : aggSize Try.prog 38 = some (some 4) := by kernel_rfl
theorem ag_4 : aggSize Try.prog 4 = some none := by kernel_rfl
theorem ag_41 : aggSize Try.prog 41 = some (some 4) := by kernel_rfl
theorem cells_3 : Try.prog.cellsOf 3 = 1 := by kernel_rfl
theorem cells_36 : Try.prog.cellsOf 36 = 1 := by kernel_rfl
theorem cells_38 : Try.prog.cellsOf 38 = 4 := by kernel_rfl
theorem cells_4 : Try.prog.cellsOf 4 = 1 := by kernel_rfl
theorem cl_25 : callable Try.prog 25 = true := by kernel_rfl
theorem cl_26 : callable Try.prog 26 = true := by kernel_rfl
theorem cl_27 : callable Try.prog 27 = true := by kernel_rfl
theorem cl_28 : callable Try.prog 28 = true := by kernel_rfl
theorem cl_29 : callable Try.prog 29 = true := by kernel_rfl
theorem cl_44 : callable Try.prog 44 = true := by kernel_rfl
theorem cl_57 : callable Try.prog 57 = true := by kernel_rfl
theorem cl_58 : callable Try.prog 58 = true := by kernel_rfl
theorem cl_59 : callable Try.prog 59 = true := by kernel_rfl
theorem cl_60 : callable Try.prog 60 = true := by kernel_rfl
theorem cl_61 : callable Try.prog 61 = true := by kernel_rfl
theorem cl_62 : callable Try.prog 62 = true := by kernel_rfl
theorem cl_71 : callable Try.prog 71 = true := by kernel_rfl
theorem cl_76 : callable Try.prog 76 = true := by kernel_rfl
theorem cl_77 : callable Try.prog 77 = true := by kernel_rfl
theorem cl_78 : callable Try.prog 78 = true := by kernel_rfl
theorem cl_82 : callable Try.prog 82 = true := by kernel_rfl
theorem cn_3 : cellsN Try.prog 3 = some 1 := by kernel_rfl
theorem cn_36 : cellsN Try.prog 36 = some 1 := by kernel_rfl
theorem cn_4 : cellsN Try.prog 4 = some 1 := by kernel_rfl
theorem cn_41 : cellsN Try.prog 41 = some 4 := by kernel_rfl
theorem el_36 : elemOfT Try.prog 36 = some (3, 1, 8) := by kernel_rfl
theorem es_36 : elemSize Try.prog 36 = some 1 := by kernel_rfl
theorem fo_38_0 : fieldOff Try.prog 38 0 = some 0 := by kernel_rfl
theorem fo_38_1 : fieldOff Try.prog 38 1 = some 1 := by kernel_rfl
theorem fo_38_2 : fieldOff Try.prog 38 2 = some 2 := by kernel_rfl
theorem fo_38_3 : fieldOff Try.prog 38 3 = some 3 := by kernel_rfl
theorem fo_41_0 : fieldOff Try.prog 41 0 = some 0 := by kernel_rfl
theorem fo_41_1 : fieldOff Try.prog 41 1 = some 1 := by kernel_rfl
theorem fo_41_2 : fieldOff Try.prog 41 2 = some 2 := by kernel_rfl
theorem fo_41_3 : fieldOff Try.prog 41 3 = some 3 := by kernel_rfl
theorem sl_36 : isSlice Try.prog 36 = true := by kernel_rfl
theorem um_4 : Try.prog.underlying 4 = some .bool := by kernel_rfl
theorem z_3 : zeroOf Try.prog 3 = some [.int .i64 0] := by kernel_rfl
theorem z_41 : zeroOf Try.prog 41 = some [.nil, .nil, .int .i64 0, .bool false] := by kernel_rfl

end Go.Proofs.Ytinbacenkbfifaa
