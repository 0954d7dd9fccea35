/-
  Facts on the types and functions of the translation, reckoned by the kernel. Condition: none.
-/
import Derived.Test.YtokdoobjhdkgmaaCtx
import Derived.Test.YtokdoobjhdkgmaaRows
namespace Go.Proofs.Ytokdoobjhdkgmaa
open Go Go.Fw

theorem ag_22 : aggSize Try.prog 22 = some none := by kernel_rfl
theorem ag_24 : aggSize Try.prog 24 = some (some 4) := by kernel_rfl
theorem ag_26 : aggSize Try.prog 26 = some (some 7) := by kernel_rfl
theorem ag_3 : aggSize Try.prog 3 = some none := by kernel_rfl
theorem ag_35 : aggSize Try.prog 35 = some (some 4) := by kernel_rfl
theorem ag_37 : aggSize Try.prog 37 = some (some 7) := by kernel_rfl
theorem ag_4 : aggSize Try.prog 4 = some none := by kernel_rfl
theorem cl_105 : callable Try.prog 105 = true := by kernel_rfl
theorem cl_106 : callable Try.prog 106 = true := by kernel_rfl
theorem cl_107 : callable Try.prog 107 = true := by kernel_rfl
theorem cl_111 : callable Try.prog 111 = true := by kernel_rfl
theorem cl_14 : callable Try.prog 14 = true := by kernel_rfl
theorem cl_16 : callable Try.prog 16 = true := by kernel_rfl
theorem cl_17 : callable Try.prog 17 = true := by kernel_rfl
theorem cl_21 : callable Try.prog 21 = true := by kernel_rfl
theorem cl_23 : callable Try.prog 23 = true := by kernel_rfl
theorem cl_47 : callable Try.prog 47 = true := by kernel_rfl
theorem cl_62 : callable Try.prog 62 = true := by kernel_rfl
theorem cl_65 : callable Try.prog 65 = true := by kernel_rfl
theorem cl_66 : callable Try.prog 66 = true := by kernel_rfl
theorem cl_68 : callable Try.prog 68 = true := by kernel_rfl
theorem cl_71 : callable Try.prog 71 = true := by kernel_rfl
theorem cl_74 : callable Try.prog 74 = true := by kernel_rfl
theorem cl_76 : callable Try.prog 76 = true := by kernel_rfl
theorem cl_90 : callable Try.prog 90 = true := by kernel_rfl
theorem cl_91 : callable Try.prog 91 = true := by kernel_rfl
theorem cl_92 : callable Try.prog 92 = true := by kernel_rfl
theorem cn_22 : cellsN Try.prog 22 = some 1 := by kernel_rfl
theorem cn_24 : cellsN Try.prog 24 = some 4 := by kernel_rfl
theorem cn_26 : cellsN Try.prog 26 = some 7 := by kernel_rfl
theorem cn_3 : cellsN Try.prog 3 = some 1 := by kernel_rfl
theorem cn_4 : cellsN Try.prog 4 = some 1 := by kernel_rfl
theorem el_22 : elemOfT Try.prog 22 = some (3, 1, 8) := by kernel_rfl
theorem el_48 : elemOfT Try.prog 48 = some (26, 7, 64) := by kernel_rfl
theorem es_22 : elemSize Try.prog 22 = some 1 := by kernel_rfl
theorem es_45 : elemSize Try.prog 45 = some 7 := by kernel_rfl
theorem es_48 : elemSize Try.prog 48 = some 7 := by kernel_rfl
theorem fo_24_0 : fieldOff Try.prog 24 0 = some 0 := by kernel_rfl
theorem fo_24_1 : fieldOff Try.prog 24 1 = some 1 := by kernel_rfl
theorem fo_24_2 : fieldOff Try.prog 24 2 = some 2 := by kernel_rfl
theorem fo_24_3 : fieldOff Try.prog 24 3 = some 3 := by kernel_rfl
theorem fo_26_0 : fieldOff Try.prog 26 0 = some 0 := by kernel_rfl
theorem fo_26_1 : fieldOff Try.prog 26 1 = some 1 := by kernel_rfl
theorem fo_26_2 : fieldOff Try.prog 26 2 = some 5 := by kernel_rfl
theorem fo_26_3 : fieldOff Try.prog 26 3 = some 6 := by kernel_rfl
theorem fo_35_0 : fieldOff Try.prog 35 0 = some 0 := by kernel_rfl
theorem fo_35_1 : fieldOff Try.prog 35 1 = some 1 := by kernel_rfl
theorem fo_35_2 : fieldOff Try.prog 35 2 = some 2 := by kernel_rfl
theorem fo_35_3 : fieldOff Try.prog 35 3 = some 3 := by kernel_rfl
theorem fo_37_0 : fieldOff Try.prog 37 0 = some 0 := by kernel_rfl
theorem fo_37_1 : fieldOff Try.prog 37 1 = some 1 := by kernel_rfl
theorem fo_37_2 : fieldOff Try.prog 37 2 = some 5 := by kernel_rfl
theorem fo_37_3 : fieldOff Try.prog 37 3 = some 6 := by kernel_rfl
theorem sl_22 : isSlice Try.prog 22 = true := by kernel_rfl
theorem sl_45 : isSlice Try.prog 45 = true := by kernel_rfl
theorem sl_48 : isSlice Try.prog 48 = true := by kernel_rfl
theorem um_4 : Try.prog.underlying 4 = some .bool := by kernel_rfl
theorem z_24 : zeroOf Try.prog 24 = some [.nil, .int .i64 0, .bool false, .bool false] := by kernel_rfl
theorem z_26 : zeroOf Try.prog 26 = some [.int .i64 0, .nil, .int .i64 0, .bool false, .bool false, .int .i64 0, .int .i64 0] := by kernel_rfl
theorem z_3 : zeroOf Try.prog 3 = some [.int .i64 0] := by kernel_rfl

end Go.Proofs.Ytokdoobjhdkgmaa
