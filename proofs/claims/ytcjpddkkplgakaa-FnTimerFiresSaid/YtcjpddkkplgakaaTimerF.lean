/-
  Facts on the types and functions of the translation, reckoned by the kernel. Condition: none.
-/
import Derived.Test.YtcjpddkkplgakaaTimer
import Derived.Test.YtcjpddkkplgakaaRows
namespace Go.Proofs.Ytcjpddkkplgakaa
open Go Go.Fw

theorem ag_3 : aggSize Try.prog 3 = some none := by kernel_rfl
theorem ag_4 : aggSize Try.prog 4 = some none := by kernel_rfl
theorem ag_47 : aggSize Try.prog 47 = some (some 4) := by kernel_rfl
theorem ag_62 : aggSize Try.prog 62 = some (some 4) := by kernel_rfl
theorem cells_3 : Try.prog.cellsOf 3 = 1 := by kernel_rfl
theorem cells_4 : Try.prog.cellsOf 4 = 1 := by kernel_rfl
theorem cells_62 : Try.prog.cellsOf 62 = 4 := by kernel_rfl
theorem cl_10 : callable Try.prog 10 = true := by kernel_rfl
theorem cl_11 : callable Try.prog 11 = true := by kernel_rfl
theorem cl_12 : callable Try.prog 12 = true := by kernel_rfl
theorem cl_13 : callable Try.prog 13 = true := by kernel_rfl
theorem cl_14 : callable Try.prog 14 = true := by kernel_rfl
theorem cl_15 : callable Try.prog 15 = true := by kernel_rfl
theorem cl_22 : callable Try.prog 22 = true := by kernel_rfl
theorem cl_39 : callable Try.prog 39 = true := by kernel_rfl
theorem cl_44 : callable Try.prog 44 = true := by kernel_rfl
theorem cl_45 : callable Try.prog 45 = true := by kernel_rfl
theorem cl_46 : callable Try.prog 46 = true := by kernel_rfl
theorem cl_47 : callable Try.prog 47 = true := by kernel_rfl
theorem cl_48 : callable Try.prog 48 = true := by kernel_rfl
theorem cl_49 : callable Try.prog 49 = true := by kernel_rfl
theorem cl_50 : callable Try.prog 50 = true := by kernel_rfl
theorem cl_51 : callable Try.prog 51 = true := by kernel_rfl
theorem cl_6 : callable Try.prog 6 = true := by kernel_rfl
theorem cl_60 : callable Try.prog 60 = true := by kernel_rfl
theorem cl_61 : callable Try.prog 61 = true := by kernel_rfl
theorem cl_62 : callable Try.prog 62 = true := by kernel_rfl
theorem cl_66 : callable Try.prog 66 = true := by kernel_rfl
theorem cl_67 : callable Try.prog 67 = true := by kernel_rfl
theorem cl_68 : callable Try.prog 68 = true := by kernel_rfl
theorem cl_69 : callable Try.prog 69 = true := by kernel_rfl
theorem cl_7 : callable Try.prog 7 = true := by kernel_rfl
theorem cl_71 : callable Try.prog 71 = true := by kernel_rfl
theorem cl_72 : callable Try.prog 72 = true := by kernel_rfl
theorem cl_75 : callable Try.prog 75 = true := by kernel_rfl
theorem cl_76 : callable Try.prog 76 = true := by kernel_rfl
theorem cl_8 : callable Try.prog 8 = true := by kernel_rfl
theorem cl_9 : callable Try.prog 9 = true := by kernel_rfl
theorem cn_3 : cellsN Try.prog 3 = some 1 := by kernel_rfl
theorem cn_4 : cellsN Try.prog 4 = some 1 := by kernel_rfl
theorem cn_47 : cellsN Try.prog 47 = some 4 := by kernel_rfl
theorem el_24 : elemOfT Try.prog 24 = some (47, 4, 32) := by kernel_rfl
theorem el_25 : elemOfT Try.prog 25 = some (3, 1, 8) := by kernel_rfl
theorem es_22 : elemSize Try.prog 22 = some 4 := by kernel_rfl
theorem es_24 : elemSize Try.prog 24 = some 4 := by kernel_rfl
theorem es_25 : elemSize Try.prog 25 = some 1 := by kernel_rfl
theorem fo_47_0 : fieldOff Try.prog 47 0 = some 0 := by kernel_rfl
theorem fo_47_1 : fieldOff Try.prog 47 1 = some 1 := by kernel_rfl
theorem fo_47_2 : fieldOff Try.prog 47 2 = some 2 := by kernel_rfl
theorem fo_47_3 : fieldOff Try.prog 47 3 = some 3 := by kernel_rfl
theorem fo_62_0 : fieldOff Try.prog 62 0 = some 0 := by kernel_rfl
theorem fo_62_1 : fieldOff Try.prog 62 1 = some 1 := by kernel_rfl
theorem fo_62_2 : fieldOff Try.prog 62 2 = some 2 := by kernel_rfl
theorem fo_62_3 : fieldOff Try.prog 62 3 = some 3 := by kernel_rfl
theorem pl_47 : placesOf Try.prog 47 = some [(0, 1), (1, 1), (2, 1), (3, 1)] := by kernel_rfl
theorem sl_22 : isSlice Try.prog 22 = true := by kernel_rfl
theorem sl_24 : isSlice Try.prog 24 = true := by kernel_rfl
theorem sl_25 : isSlice Try.prog 25 = true := by kernel_rfl
theorem um_4 : Try.prog.underlying 4 = some .bool := by kernel_rfl
theorem z_47 : zeroOf Try.prog 47 = some [.bool false, .int .i64 0, .int .i64 0, .int .i64 0] := by kernel_rfl

end Go.Proofs.Ytcjpddkkplgakaa
