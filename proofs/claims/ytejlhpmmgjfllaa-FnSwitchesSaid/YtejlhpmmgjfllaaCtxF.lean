/-
  Facts on the types and functions of the translation, reckoned by the kernel. Condition: none.
-/
import Derived.Test.YtejlhpmmgjfllaaCtx
import Derived.Test.YtejlhpmmgjfllaaRows
namespace Go.Proofs.Ytejlhpmmgjfllaa
open Go Go.Fw

theorem ag_22 : aggSize Try.prog 22 = some none := by kernel_rfl
theorem ag_24 : aggSize Try.prog 24 = some (some 4) := by kernel_rfl
theorem ag_26 : aggSize Try.prog 26 = some (some 7) := by kernel_rfl
theorem ag_3 : aggSize Try.prog 3 = some none := by kernel_rfl
theorem ag_30 : aggSize Try.prog 30 = some (some 4) := by kernel_rfl
theorem ag_32 : aggSize Try.prog 32 = some (some 7) := by kernel_rfl
theorem ag_4 : aggSize Try.prog 4 = some none := by kernel_rfl
theorem cl_103 : callable Try.prog 103 = true := by kernel_rfl
theorem cl_104 : callable Try.prog 104 = true := by kernel_rfl
theorem cl_105 : callable Try.prog 105 = true := by kernel_rfl
theorem cl_109 : callable Try.prog 109 = true := by kernel_rfl
theorem cl_110 : callable Try.prog 110 = true := by kernel_rfl
theorem cl_12 : callable Try.prog 12 = true := by kernel_rfl
theorem cl_14 : callable Try.prog 14 = true := by kernel_rfl
theorem cl_16 : callable Try.prog 16 = true := by kernel_rfl
theorem cl_17 : callable Try.prog 17 = true := by kernel_rfl
theorem cl_42 : callable Try.prog 42 = true := by kernel_rfl
theorem cl_60 : callable Try.prog 60 = true := by kernel_rfl
theorem cl_61 : callable Try.prog 61 = true := by kernel_rfl
theorem cl_63 : callable Try.prog 63 = true := by kernel_rfl
theorem cl_65 : callable Try.prog 65 = true := by kernel_rfl
theorem cl_79 : callable Try.prog 79 = true := by kernel_rfl
theorem cl_80 : callable Try.prog 80 = true := by kernel_rfl
theorem cl_81 : callable Try.prog 81 = true := by kernel_rfl
theorem cl_82 : callable Try.prog 82 = true := by kernel_rfl
theorem cl_84 : callable Try.prog 84 = true := by kernel_rfl
theorem cl_93 : callable Try.prog 93 = true := by kernel_rfl
theorem cn_22 : cellsN Try.prog 22 = some 1 := by kernel_rfl
theorem cn_3 : cellsN Try.prog 3 = some 1 := by kernel_rfl
theorem cn_30 : cellsN Try.prog 30 = some 4 := by kernel_rfl
theorem cn_32 : cellsN Try.prog 32 = some 7 := by kernel_rfl
theorem cn_4 : cellsN Try.prog 4 = some 1 := by kernel_rfl
theorem el_22 : elemOfT Try.prog 22 = some (3, 1, 8) := by kernel_rfl
theorem el_44 : elemOfT Try.prog 44 = some (32, 7, 64) := by kernel_rfl
theorem es_22 : elemSize Try.prog 22 = some 1 := by kernel_rfl
theorem es_41 : elemSize Try.prog 41 = some 7 := by kernel_rfl
theorem es_44 : elemSize Try.prog 44 = some 7 := by kernel_rfl
theorem fo_24_0 : fieldOff Try.prog 24 0 = some 0 := by kernel_rfl
theorem fo_24_1 : fieldOff Try.prog 24 1 = some 1 := by kernel_rfl
theorem fo_24_2 : fieldOff Try.prog 24 2 = some 2 := by kernel_rfl
theorem fo_24_3 : fieldOff Try.prog 24 3 = some 3 := by kernel_rfl
theorem fo_26_0 : fieldOff Try.prog 26 0 = some 0 := by kernel_rfl
theorem fo_26_1 : fieldOff Try.prog 26 1 = some 1 := by kernel_rfl
theorem fo_26_2 : fieldOff Try.prog 26 2 = some 5 := by kernel_rfl
theorem fo_26_3 : fieldOff Try.prog 26 3 = some 6 := by kernel_rfl
theorem fo_30_0 : fieldOff Try.prog 30 0 = some 0 := by kernel_rfl
theorem fo_30_1 : fieldOff Try.prog 30 1 = some 1 := by kernel_rfl
theorem fo_30_2 : fieldOff Try.prog 30 2 = some 2 := by kernel_rfl
theorem fo_30_3 : fieldOff Try.prog 30 3 = some 3 := by kernel_rfl
theorem fo_32_0 : fieldOff Try.prog 32 0 = some 0 := by kernel_rfl
theorem fo_32_1 : fieldOff Try.prog 32 1 = some 1 := by kernel_rfl
theorem fo_32_2 : fieldOff Try.prog 32 2 = some 5 := by kernel_rfl
theorem fo_32_3 : fieldOff Try.prog 32 3 = some 6 := by kernel_rfl
theorem sl_22 : isSlice Try.prog 22 = true := by kernel_rfl
theorem sl_41 : isSlice Try.prog 41 = true := by kernel_rfl
theorem sl_44 : isSlice Try.prog 44 = true := by kernel_rfl
theorem um_4 : Try.prog.underlying 4 = some .bool := by kernel_rfl
theorem z_3 : zeroOf Try.prog 3 = some [.int .i64 0] := by kernel_rfl
theorem z_30 : zeroOf Try.prog 30 = some [.nil, .int .i64 0, .bool false, .bool false] := by kernel_rfl
theorem z_32 : zeroOf Try.prog 32 = some [.int .i64 0, .nil, .int .i64 0, .bool false, .bool false, .int .i64 0, .int .i64 0] := by kernel_rfl

end Go.Proofs.Ytejlhpmmgjfllaa
