/-
  Facts on the types and functions of the translation, reckoned by the kernel. Condition: none.
-/
import Derived.Test.YtkgnhpilpmbheaaVcpu
import Derived.Test.YtkgnhpilpmbheaaRows
namespace Go.Proofs.Ytkgnhpilpmbheaa
open Go Go.Fw

theorem ag_22 : aggSize Try.prog 22 = some none := by kernel_rfl
theorem ag_24 : aggSize Try.prog 24 = some none := by kernel_rfl
theorem ag_3 : aggSize Try.prog 3 = some none := by kernel_rfl
theorem ag_4 : aggSize Try.prog 4 = some none := by kernel_rfl
theorem ag_46 : aggSize Try.prog 46 = some (some 5) := by kernel_rfl
theorem ag_54 : aggSize Try.prog 54 = some none := by kernel_rfl
theorem ag_62 : aggSize Try.prog 62 = some (some 2) := by kernel_rfl
theorem ag_95 : aggSize Try.prog 95 = some (some 5) := by kernel_rfl
theorem cl_102 : callable Try.prog 102 = true := by kernel_rfl
theorem cl_106 : callable Try.prog 106 = true := by kernel_rfl
theorem cl_110 : callable Try.prog 110 = true := by kernel_rfl
theorem cl_114 : callable Try.prog 114 = true := by kernel_rfl
theorem cl_129 : callable Try.prog 129 = true := by kernel_rfl
theorem cl_130 : callable Try.prog 130 = true := by kernel_rfl
theorem cl_143 : callable Try.prog 143 = true := by kernel_rfl
theorem cl_144 : callable Try.prog 144 = true := by kernel_rfl
theorem cl_147 : callable Try.prog 147 = true := by kernel_rfl
theorem cl_18 : callable Try.prog 18 = true := by kernel_rfl
theorem cl_20 : callable Try.prog 20 = true := by kernel_rfl
theorem cl_22 : callable Try.prog 22 = true := by kernel_rfl
theorem cl_37 : callable Try.prog 37 = true := by kernel_rfl
theorem cl_86 : callable Try.prog 86 = true := by kernel_rfl
theorem cl_87 : callable Try.prog 87 = true := by kernel_rfl
theorem cl_89 : callable Try.prog 89 = true := by kernel_rfl
theorem cl_90 : callable Try.prog 90 = true := by kernel_rfl
theorem cl_92 : callable Try.prog 92 = true := by kernel_rfl
theorem cl_96 : callable Try.prog 96 = true := by kernel_rfl
theorem cn_24 : cellsN Try.prog 24 = some 1 := by kernel_rfl
theorem cn_3 : cellsN Try.prog 3 = some 1 := by kernel_rfl
theorem cn_4 : cellsN Try.prog 4 = some 1 := by kernel_rfl
theorem cn_46 : cellsN Try.prog 46 = some 5 := by kernel_rfl
theorem cn_54 : cellsN Try.prog 54 = some 1 := by kernel_rfl
theorem cn_62 : cellsN Try.prog 62 = some 2 := by kernel_rfl
theorem el_24 : elemOfT Try.prog 24 = some (46, 5, 32) := by kernel_rfl
theorem el_34 : elemOfT Try.prog 34 = some (3, 1, 8) := by kernel_rfl
theorem el_54 : elemOfT Try.prog 54 = some (4, 1, 1) := by kernel_rfl
theorem es_22 : elemSize Try.prog 22 = some 5 := by kernel_rfl
theorem es_24 : elemSize Try.prog 24 = some 5 := by kernel_rfl
theorem es_34 : elemSize Try.prog 34 = some 1 := by kernel_rfl
theorem es_54 : elemSize Try.prog 54 = some 1 := by kernel_rfl
theorem fo_46_0 : fieldOff Try.prog 46 0 = some 0 := by kernel_rfl
theorem fo_46_1 : fieldOff Try.prog 46 1 = some 1 := by kernel_rfl
theorem fo_46_2 : fieldOff Try.prog 46 2 = some 2 := by kernel_rfl
theorem fo_46_3 : fieldOff Try.prog 46 3 = some 3 := by kernel_rfl
theorem fo_46_4 : fieldOff Try.prog 46 4 = some 4 := by kernel_rfl
theorem fo_56_0 : fieldOff Try.prog 56 0 = some 0 := by kernel_rfl
theorem fo_56_1 : fieldOff Try.prog 56 1 = some 1 := by kernel_rfl
theorem fo_62_0 : fieldOff Try.prog 62 0 = some 0 := by kernel_rfl
theorem fo_62_1 : fieldOff Try.prog 62 1 = some 1 := by kernel_rfl
theorem fo_95_0 : fieldOff Try.prog 95 0 = some 0 := by kernel_rfl
theorem fo_95_1 : fieldOff Try.prog 95 1 = some 1 := by kernel_rfl
theorem fo_95_2 : fieldOff Try.prog 95 2 = some 2 := by kernel_rfl
theorem fo_95_3 : fieldOff Try.prog 95 3 = some 3 := by kernel_rfl
theorem fo_95_4 : fieldOff Try.prog 95 4 = some 4 := by kernel_rfl
theorem sl_22 : isSlice Try.prog 22 = true := by kernel_rfl
theorem sl_24 : isSlice Try.prog 24 = true := by kernel_rfl
theorem sl_34 : isSlice Try.prog 34 = true := by kernel_rfl
theorem sl_54 : isSlice Try.prog 54 = true := by kernel_rfl
theorem um_4 : Try.prog.underlying 4 = some .bool := by kernel_rfl
theorem z_4 : zeroOf Try.prog 4 = some [.bool false] := by kernel_rfl
theorem z_46 : zeroOf Try.prog 46 = some [.int .i64 0, .int .i64 0, .int .i64 0, .bool false, .bool false] := by kernel_rfl
theorem z_62 : zeroOf Try.prog 62 = some [.nil, .nil] := by kernel_rfl

end Go.Proofs.Ytkgnhpilpmbheaa
