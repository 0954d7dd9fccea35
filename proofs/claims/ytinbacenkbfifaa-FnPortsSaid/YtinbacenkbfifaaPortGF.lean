/-
  Facts on the types and functions of the translation, reckoned by the kernel. Condition: none.
-/
import Derived.Test.YtinbacenkbfifaaPortF
import Derived.Test.YtinbacenkbfifaaPortCF
import Derived.Test.YtinbacenkbfifaaPortDF
import Derived.Test.YtinbacenkbfifaaPortEF
namespace Go.Proofs.Ytinbacenkbfifaa
open Go Go.Fw

theorem ag_45 : aggSize Try.prog 45 = some none := by kernel_rfl
theorem ag_5 : aggSize Try.prog 5 = some none := by kernel_rfl
theorem ag_72 : aggSize Try.prog 72 = some none := by kernel_rfl
theorem cells_5 : Try.prog.cellsOf 5 = 1 := by kernel_rfl
theorem cl_30 : callable Try.prog 30 = true := by kernel_rfl
theorem cl_34 : callable Try.prog 34 = true := by kernel_rfl
theorem cl_35 : callable Try.prog 35 = true := by kernel_rfl
theorem cl_49 : callable Try.prog 49 = true := by kernel_rfl
theorem cl_50 : callable Try.prog 50 = true := by kernel_rfl
theorem cl_51 : callable Try.prog 51 = true := by kernel_rfl
theorem cl_52 : callable Try.prog 52 = true := by kernel_rfl
theorem cl_53 : callable Try.prog 53 = true := by kernel_rfl
theorem cl_54 : callable Try.prog 54 = true := by kernel_rfl
theorem cl_55 : callable Try.prog 55 = true := by kernel_rfl
theorem cl_64 : callable Try.prog 64 = true := by kernel_rfl
theorem cl_65 : callable Try.prog 65 = true := by kernel_rfl
theorem cl_73 : callable Try.prog 73 = true := by kernel_rfl
theorem cl_74 : callable Try.prog 74 = true := by kernel_rfl
theorem cl_75 : callable Try.prog 75 = true := by kernel_rfl
theorem cl_79 : callable Try.prog 79 = true := by kernel_rfl
theorem cl_80 : callable Try.prog 80 = true := by kernel_rfl
theorem cl_81 : callable Try.prog 81 = true := by kernel_rfl
theorem cn_72 : cellsN Try.prog 72 = some 1 := by kernel_rfl
theorem es_45 : elemSize Try.prog 45 = some 1 := by kernel_rfl
theorem fo_74_0 : fieldOff Try.prog 74 0 = some 0 := by kernel_rfl
theorem fo_74_1 : fieldOff Try.prog 74 1 = some 1 := by kernel_rfl
theorem fo_74_2 : fieldOff Try.prog 74 2 = some 2 := by kernel_rfl
theorem pl_74 : placesOf Try.prog 74 = some [(0, 1), (1, 1), (2, 1)] := by kernel_rfl
theorem sl_45 : isSlice Try.prog 45 = true := by kernel_rfl
theorem ui_3 : (Try.prog.underlying 3).isSome = true := by kernel_rfl
theorem ui_5 : (Try.prog.underlying 5).isSome = true := by kernel_rfl
theorem ui_72 : (Try.prog.underlying 72).isSome = true := by kernel_rfl
theorem um_3 : Try.prog.underlying 3 = some (.int .i64) := by kernel_rfl
theorem um_72 : Try.prog.underlying 72 = some (.int .u64) := by kernel_rfl
theorem z_74 : zeroOf Try.prog 74 = some [.nil, .int .i64 0, .int .u64 0] := by kernel_rfl

end Go.Proofs.Ytinbacenkbfifaa
