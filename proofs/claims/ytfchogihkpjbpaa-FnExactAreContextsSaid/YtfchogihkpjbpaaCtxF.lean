/-
  Facts on the types and functions of the translation, reckoned by the kernel. Condition: none.
-/
import Derived.Test.YtfchogihkpjbpaaCtx
import Derived.Test.YtfchogihkpjbpaaRows
namespace Go.Proofs.Ytfchogihkpjbpaa
open Go Go.Fw

theorem ag_22 : aggSize Try.prog 22 = some none := by kernel_rfl
theorem ag_24 : aggSize Try.prog 24 = some (some 4) := by kernel_rfl
theorem ag_26 : aggSize Try.prog 26 = some (some 7) := by kernel_rfl
theorem ag_29 : aggSize Try.prog 29 = some (some 4) := by kernel_rfl
theorem ag_3 : aggSize Try.prog 3 = some none := by kernel_rfl
theorem ag_31 : aggSize Try.prog 31 = some (some 7) := by kernel_rfl
theorem ag_4 : aggSize Try.prog 4 = some none := by kernel_rfl
theorem cells_22 : Try.prog.cellsOf 22 = 1 := by kernel_rfl
theorem cells_24 : Try.prog.cellsOf 24 = 4 := by kernel_rfl
theorem cells_26 : Try.prog.cellsOf 26 = 7 := by kernel_rfl
theorem cells_3 : Try.prog.cellsOf 3 = 1 := by kernel_rfl
theorem cells_4 : Try.prog.cellsOf 4 = 1 := by kernel_rfl
theorem cl_109 : callable Try.prog 109 = true := by kernel_rfl
theorem cl_110 : callable Try.prog 110 = true := by kernel_rfl
theorem cl_111 : callable Try.prog 111 = true := by kernel_rfl
theorem cl_112 : callable Try.prog 112 = true := by kernel_rfl
theorem cl_15 : callable Try.prog 15 = true := by kernel_rfl
theorem cl_16 : callable Try.prog 16 = true := by kernel_rfl
theorem cl_17 : callable Try.prog 17 = true := by kernel_rfl
theorem cl_18 : callable Try.prog 18 = true := by kernel_rfl
theorem cl_19 : callable Try.prog 19 = true := by kernel_rfl
theorem cl_20 : callable Try.prog 20 = true := by kernel_rfl
theorem cl_21 : callable Try.prog 21 = true := by kernel_rfl
theorem cl_22 : callable Try.prog 22 = true := by kernel_rfl
theorem cl_23 : callable Try.prog 23 = true := by kernel_rfl
theorem cl_24 : callable Try.prog 24 = true := by kernel_rfl
theorem cl_26 : callable Try.prog 26 = true := by kernel_rfl
theorem cl_28 : callable Try.prog 28 = true := by kernel_rfl
theorem cl_66 : callable Try.prog 66 = true := by kernel_rfl
theorem cl_67 : callable Try.prog 67 = true := by kernel_rfl
theorem cl_68 : callable Try.prog 68 = true := by kernel_rfl
theorem cl_69 : callable Try.prog 69 = true := by kernel_rfl
theorem cl_70 : callable Try.prog 70 = true := by kernel_rfl
theorem cl_71 : callable Try.prog 71 = true := by kernel_rfl
theorem cl_72 : callable Try.prog 72 = true := by kernel_rfl
theorem cl_73 : callable Try.prog 73 = true := by kernel_rfl
theorem cl_74 : callable Try.prog 74 = true := by kernel_rfl
theorem cl_77 : callable Try.prog 77 = true := by kernel_rfl
theorem cl_79 : callable Try.prog 79 = true := by kernel_rfl
theorem cn_22 : cellsN Try.prog 22 = some 1 := by kernel_rfl
theorem cn_29 : cellsN Try.prog 29 = some 4 := by kernel_rfl
theorem cn_3 : cellsN Try.prog 3 = some 1 := by kernel_rfl
theorem cn_31 : cellsN Try.prog 31 = some 7 := by kernel_rfl
theorem cn_4 : cellsN Try.prog 4 = some 1 := by kernel_rfl
theorem el_22 : elemOfT Try.prog 22 = some (3, 1, 8) := by kernel_rfl
theorem el_38 : elemOfT Try.prog 38 = some (31, 7, 64) := by kernel_rfl
theorem es_22 : elemSize Try.prog 22 = some 1 := by kernel_rfl
theorem es_35 : elemSize Try.prog 35 = some 7 := by kernel_rfl
theorem es_38 : elemSize Try.prog 38 = some 7 := by kernel_rfl
theorem fo_24_0 : fieldOff Try.prog 24 0 = some 0 := by kernel_rfl
theorem fo_24_1 : fieldOff Try.prog 24 1 = some 1 := by kernel_rfl
theorem fo_24_2 : fieldOff Try.prog 24 2 = some 2 := by kernel_rfl
theorem fo_24_3 : fieldOff Try.prog 24 3 = some 3 := by kernel_rfl
theorem fo_26_0 : fieldOff Try.prog 26 0 = some 0 := by kernel_rfl
theorem fo_26_1 : fieldOff Try.prog 26 1 = some 1 := by kernel_rfl
theorem fo_26_2 : fieldOff Try.prog 26 2 = some 5 := by kernel_rfl
theorem fo_26_3 : fieldOff Try.prog 26 3 = some 6 := by kernel_rfl
theorem fo_29_0 : fieldOff Try.prog 29 0 = some 0 := by kernel_rfl
theorem fo_29_1 : fieldOff Try.prog 29 1 = some 1 := by kernel_rfl
theorem fo_29_2 : fieldOff Try.prog 29 2 = some 2 := by kernel_rfl
theorem fo_29_3 : fieldOff Try.prog 29 3 = some 3 := by kernel_rfl
theorem fo_31_0 : fieldOff Try.prog 31 0 = some 0 := by kernel_rfl
theorem fo_31_1 : fieldOff Try.prog 31 1 = some 1 := by kernel_rfl
theorem fo_31_2 : fieldOff Try.prog 31 2 = some 5 := by kernel_rfl
theorem fo_31_3 : fieldOff Try.prog 31 3 = some 6 := by kernel_rfl
theorem sl_22 : isSlice Try.prog 22 = true := by kernel_rfl
theorem sl_35 : isSlice Try.prog 35 = true := by kernel_rfl
theorem sl_38 : isSlice Try.prog 38 = true := by kernel_rfl
theorem um_4 : Try.prog.underlying 4 = some .bool := by kernel_rfl
theorem z_29 : zeroOf Try.prog 29 = some [.nil, .int .i64 0, .bool false, .bool false] := by kernel_rfl
theorem z_3 : zeroOf Try.prog 3 = some [.int .i64 0] := by kernel_rfl
theorem z_31 : zeroOf Try.prog 31 = some [.int .i64 0, .nil, .int .i64 0, .bool false, .bool false, .int .i64 0, .int .i64 0] := by kernel_rfl

end Go.Proofs.Ytfchogihkpjbpaa
