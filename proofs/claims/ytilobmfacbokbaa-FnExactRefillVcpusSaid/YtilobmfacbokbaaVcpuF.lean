/-
  Facts on the types and functions of the translation, reckoned by the kernel. Condition: none.
-/
import Derived.Test.YtilobmfacbokbaaVcpu
import Derived.Test.YtilobmfacbokbaaRows
namespace Go.Proofs.Ytilobmfacbokbaa
open Go Go.Fw

theorem ag_22 : aggSize Try.prog 22 = some none := by kernel_rfl
theorem ag_25 : aggSize Try.prog 25 = some none := by kernel_rfl
theorem ag_3 : aggSize Try.prog 3 = some none := by kernel_rfl
theorem ag_4 : aggSize Try.prog 4 = some none := by kernel_rfl
theorem ag_50 : aggSize Try.prog 50 = some (some 5) := by kernel_rfl
theorem ag_54 : aggSize Try.prog 54 = some none := by kernel_rfl
theorem ag_56 : aggSize Try.prog 56 = some (some 2) := by kernel_rfl
theorem ag_62 : aggSize Try.prog 62 = some (some 2) := by kernel_rfl
theorem ag_93 : aggSize Try.prog 93 = some (some 5) := by kernel_rfl
theorem cells_22 : Try.prog.cellsOf 22 = 1 := by kernel_rfl
theorem cells_3 : Try.prog.cellsOf 3 = 1 := by kernel_rfl
theorem cells_4 : Try.prog.cellsOf 4 = 1 := by kernel_rfl
theorem cells_54 : Try.prog.cellsOf 54 = 1 := by kernel_rfl
theorem cells_56 : Try.prog.cellsOf 56 = 2 := by kernel_rfl
theorem cells_93 : Try.prog.cellsOf 93 = 5 := by kernel_rfl
theorem cl_107 : callable Try.prog 107 = true := by kernel_rfl
theorem cl_111 : callable Try.prog 111 = true := by kernel_rfl
theorem cl_115 : callable Try.prog 115 = true := by kernel_rfl
theorem cl_117 : callable Try.prog 117 = true := by kernel_rfl
theorem cl_134 : callable Try.prog 134 = true := by kernel_rfl
theorem cl_136 : callable Try.prog 136 = true := by kernel_rfl
theorem cl_148 : callable Try.prog 148 = true := by kernel_rfl
theorem cl_149 : callable Try.prog 149 = true := by kernel_rfl
theorem cl_152 : callable Try.prog 152 = true := by kernel_rfl
theorem cl_23 : callable Try.prog 23 = true := by kernel_rfl
theorem cl_24 : callable Try.prog 24 = true := by kernel_rfl
theorem cl_25 : callable Try.prog 25 = true := by kernel_rfl
theorem cl_26 : callable Try.prog 26 = true := by kernel_rfl
theorem cl_27 : callable Try.prog 27 = true := by kernel_rfl
theorem cl_28 : callable Try.prog 28 = true := by kernel_rfl
theorem cl_29 : callable Try.prog 29 = true := by kernel_rfl
theorem cl_34 : callable Try.prog 34 = true := by kernel_rfl
theorem cl_35 : callable Try.prog 35 = true := by kernel_rfl
theorem cl_58 : callable Try.prog 58 = true := by kernel_rfl
theorem cl_61 : callable Try.prog 61 = true := by kernel_rfl
theorem cl_64 : callable Try.prog 64 = true := by kernel_rfl
theorem cl_66 : callable Try.prog 66 = true := by kernel_rfl
theorem cl_67 : callable Try.prog 67 = true := by kernel_rfl
theorem cl_91 : callable Try.prog 91 = true := by kernel_rfl
theorem cl_92 : callable Try.prog 92 = true := by kernel_rfl
theorem cl_93 : callable Try.prog 93 = true := by kernel_rfl
theorem cl_94 : callable Try.prog 94 = true := by kernel_rfl
theorem cl_97 : callable Try.prog 97 = true := by kernel_rfl
theorem cl_98 : callable Try.prog 98 = true := by kernel_rfl
theorem cn_25 : cellsN Try.prog 25 = some 1 := by kernel_rfl
theorem cn_3 : cellsN Try.prog 3 = some 1 := by kernel_rfl
theorem cn_4 : cellsN Try.prog 4 = some 1 := by kernel_rfl
theorem cn_50 : cellsN Try.prog 50 = some 5 := by kernel_rfl
theorem cn_54 : cellsN Try.prog 54 = some 1 := by kernel_rfl
theorem cn_62 : cellsN Try.prog 62 = some 2 := by kernel_rfl
theorem el_25 : elemOfT Try.prog 25 = some (50, 5, 32) := by kernel_rfl
theorem el_39 : elemOfT Try.prog 39 = some (3, 1, 8) := by kernel_rfl
theorem el_54 : elemOfT Try.prog 54 = some (4, 1, 1) := by kernel_rfl
theorem es_22 : elemSize Try.prog 22 = some 5 := by kernel_rfl
theorem es_25 : elemSize Try.prog 25 = some 5 := by kernel_rfl
theorem es_39 : elemSize Try.prog 39 = some 1 := by kernel_rfl
theorem es_54 : elemSize Try.prog 54 = some 1 := by kernel_rfl
theorem fo_50_0 : fieldOff Try.prog 50 0 = some 0 := by kernel_rfl
theorem fo_50_1 : fieldOff Try.prog 50 1 = some 1 := by kernel_rfl
theorem fo_50_2 : fieldOff Try.prog 50 2 = some 2 := by kernel_rfl
theorem fo_50_3 : fieldOff Try.prog 50 3 = some 3 := by kernel_rfl
theorem fo_50_4 : fieldOff Try.prog 50 4 = some 4 := by kernel_rfl
theorem fo_56_0 : fieldOff Try.prog 56 0 = some 0 := by kernel_rfl
theorem fo_56_1 : fieldOff Try.prog 56 1 = some 1 := by kernel_rfl
theorem fo_62_0 : fieldOff Try.prog 62 0 = some 0 := by kernel_rfl
theorem fo_62_1 : fieldOff Try.prog 62 1 = some 1 := by kernel_rfl
theorem fo_93_0 : fieldOff Try.prog 93 0 = some 0 := by kernel_rfl
theorem fo_93_1 : fieldOff Try.prog 93 1 = some 1 := by kernel_rfl
theorem fo_93_2 : fieldOff Try.prog 93 2 = some 2 := by kernel_rfl
theorem fo_93_3 : fieldOff Try.prog 93 3 = some 3 := by kernel_rfl
theorem fo_93_4 : fieldOff Try.prog 93 4 = some 4 := by kernel_rfl
theorem sl_22 : isSlice Try.prog 22 = true := by kernel_rfl
theorem sl_25 : isSlice Try.prog 25 = true := by kernel_rfl
theorem sl_39 : isSlice Try.prog 39 = true := by kernel_rfl
theorem sl_54 : isSlice Try.prog 54 = true := by kernel_rfl
theorem um_4 : Try.prog.underlying 4 = some .bool := by kernel_rfl
theorem z_4 : zeroOf Try.prog 4 = some [.bool false] := by kernel_rfl
theorem z_50 : zeroOf Try.prog 50 = some [.int .i64 0, .int .i64 0, .int .i64 0, .bool false, .bool false] := by kernel_rfl
theorem z_62 : zeroOf Try.prog 62 = some [.nil, .nil] := by kernel_rfl

end Go.Proofs.Ytilobmfacbokbaa
