/-
  Facts on the types and functions of the translation, reckoned by the kernel. Condition: none.
-/
import Derived.Test.YtcjpddkkplgakaaTimerF
import Derived.Test.YtcjpddkkplgakaaTimerBF
namespace Go.Proofs.Ytcjpddkkplgakaa
open Go Go.Fw

theorem ag_34 : aggSize Try.prog 34 = some none := by kernel_rfl
theorem ag_5 : aggSize Try.prog 5 = some none := by kernel_rfl
theorem ag_65 : aggSize Try.prog 65 = some none := by kernel_rfl
theorem cells_5 : Try.prog.cellsOf 5 = 1 := by kernel_rfl
theorem cl_16 : callable Try.prog 16 = true := by kernel_rfl
theorem cl_17 : callable Try.prog 17 = true := by kernel_rfl
theorem cl_18 : callable Try.prog 18 = true := by kernel_rfl
theorem cl_19 : callable Try.prog 19 = true := by kernel_rfl
theorem cl_20 : callable Try.prog 20 = true := by kernel_rfl
theorem cl_21 : callable Try.prog 21 = true := by kernel_rfl
theorem cl_23 : callable Try.prog 23 = true := by kernel_rfl
theorem cl_24 : callable Try.prog 24 = true := by kernel_rfl
theorem cl_25 : callable Try.prog 25 = true := by kernel_rfl
theorem cl_26 : callable Try.prog 26 = true := by kernel_rfl
theorem cl_27 : callable Try.prog 27 = true := by kernel_rfl
theorem cl_28 : callable Try.prog 28 = true := by kernel_rfl
theorem cl_29 : callable Try.prog 29 = true := by kernel_rfl
theorem cl_30 : callable Try.prog 30 = true := by kernel_rfl
theorem cl_31 : callable Try.prog 31 = true := by kernel_rfl
theorem cl_32 : callable Try.prog 32 = true := by kernel_rfl
theorem cl_33 : callable Try.prog 33 = true := by kernel_rfl
theorem cl_34 : callable Try.prog 34 = true := by kernel_rfl
theorem cl_35 : callable Try.prog 35 = true := by kernel_rfl
theorem cl_36 : callable Try.prog 36 = true := by kernel_rfl
theorem cl_37 : callable Try.prog 37 = true := by kernel_rfl
theorem cl_38 : callable Try.prog 38 = true := by kernel_rfl
theorem cl_40 : callable Try.prog 40 = true := by kernel_rfl
theorem cl_41 : callable Try.prog 41 = true := by kernel_rfl
theorem cl_42 : callable Try.prog 42 = true := by kernel_rfl
theorem cl_43 : callable Try.prog 43 = true := by kernel_rfl
theorem cl_52 : callable Try.prog 52 = true := by kernel_rfl
theorem cl_53 : callable Try.prog 53 = true := by kernel_rfl
theorem cl_54 : callable Try.prog 54 = true := by kernel_rfl
theorem cl_55 : callable Try.prog 55 = true := by kernel_rfl
theorem cl_56 : callable Try.prog 56 = true := by kernel_rfl
theorem cl_65 : callable Try.prog 65 = true := by kernel_rfl
theorem cl_70 : callable Try.prog 70 = true := by kernel_rfl
theorem cl_73 : callable Try.prog 73 = true := by kernel_rfl
theorem cl_74 : callable Try.prog 74 = true := by kernel_rfl
theorem cn_65 : cellsN Try.prog 65 = some 1 := by kernel_rfl
theorem es_34 : elemSize Try.prog 34 = some 1 := by kernel_rfl
theorem fo_67_0 : fieldOff Try.prog 67 0 = some 0 := by kernel_rfl
theorem fo_67_1 : fieldOff Try.prog 67 1 = some 1 := by kernel_rfl
theorem fo_67_2 : fieldOff Try.prog 67 2 = some 2 := by kernel_rfl
theorem pl_67 : placesOf Try.prog 67 = some [(0, 1), (1, 1), (2, 1)] := by kernel_rfl
theorem sl_34 : isSlice Try.prog 34 = true := by kernel_rfl
theorem ui_3 : (Try.prog.underlying 3).isSome = true := by kernel_rfl
theorem ui_5 : (Try.prog.underlying 5).isSome = true := by kernel_rfl
theorem ui_65 : (Try.prog.underlying 65).isSome = true := by kernel_rfl
theorem um_3 : Try.prog.underlying 3 = some (.int .i64) := by kernel_rfl
theorem um_65 : Try.prog.underlying 65 = some (.int .u64) := by kernel_rfl
theorem z_3 : zeroOf Try.prog 3 = some [.int .i64 0] := by kernel_rfl
theorem z_67 : zeroOf Try.prog 67 = some [.nil, .int .i64 0, .int .u64 0] := by kernel_rfl

end Go.Proofs.Ytcjpddkkplgakaa
