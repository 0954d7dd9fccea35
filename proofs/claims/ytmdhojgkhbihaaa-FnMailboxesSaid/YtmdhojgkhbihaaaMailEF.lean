/-
  Facts on the types and functions of the translation, reckoned by the kernel. Condition: none.
-/
import Derived.Test.YtmdhojgkhbihaaaMailF
import Derived.Test.YtmdhojgkhbihaaaMailBF
import Derived.Test.YtmdhojgkhbihaaaMailCF
import Derived.Test.YtmdhojgkhbihaaaMailDF
namespace Go.Proofs.Ytmdhojgkhbihaaa
open Go Go.Fw

theorem ag_22 : aggSize Try.prog 22 = some none := by kernel_rfl
theorem ag_5 : aggSize Try.prog 5 = some none := by kernel_rfl
theorem ag_65 : aggSize Try.prog 65 = some none := by kernel_rfl
theorem cells_5 : Try.prog.cellsOf 5 = 1 := by kernel_rfl
theorem cl_10 : callable Try.prog 10 = true := by kernel_rfl
theorem cl_12 : callable Try.prog 12 = true := by kernel_rfl
theorem cl_14 : callable Try.prog 14 = true := by kernel_rfl
theorem cl_15 : callable Try.prog 15 = true := by kernel_rfl
theorem cl_16 : callable Try.prog 16 = true := by kernel_rfl
theorem cl_17 : callable Try.prog 17 = true := by kernel_rfl
theorem cl_18 : callable Try.prog 18 = true := by kernel_rfl
theorem cl_19 : callable Try.prog 19 = true := by kernel_rfl
theorem cl_20 : callable Try.prog 20 = true := by kernel_rfl
theorem cl_22 : callable Try.prog 22 = true := by kernel_rfl
theorem cl_23 : callable Try.prog 23 = true := by kernel_rfl
theorem cl_43 : callable Try.prog 43 = true := by kernel_rfl
theorem cl_44 : callable Try.prog 44 = true := by kernel_rfl
theorem cl_45 : callable Try.prog 45 = true := by kernel_rfl
theorem cl_46 : callable Try.prog 46 = true := by kernel_rfl
theorem cl_54 : callable Try.prog 54 = true := by kernel_rfl
theorem cl_59 : callable Try.prog 59 = true := by kernel_rfl
theorem cl_6 : callable Try.prog 6 = true := by kernel_rfl
theorem cl_61 : callable Try.prog 61 = true := by kernel_rfl
theorem cl_65 : callable Try.prog 65 = true := by kernel_rfl
theorem cl_7 : callable Try.prog 7 = true := by kernel_rfl
theorem cl_73 : callable Try.prog 73 = true := by kernel_rfl
theorem cl_8 : callable Try.prog 8 = true := by kernel_rfl
theorem cl_9 : callable Try.prog 9 = true := by kernel_rfl
theorem cn_65 : cellsN Try.prog 65 = some 1 := by kernel_rfl
theorem es_22 : elemSize Try.prog 22 = some 1 := by kernel_rfl
theorem fo_67_0 : fieldOff Try.prog 67 0 = some 0 := by kernel_rfl
theorem fo_67_1 : fieldOff Try.prog 67 1 = some 1 := by kernel_rfl
theorem fo_67_2 : fieldOff Try.prog 67 2 = some 2 := by kernel_rfl
theorem pl_67 : placesOf Try.prog 67 = some [(0, 1), (1, 1), (2, 1)] := by kernel_rfl
theorem sl_22 : isSlice Try.prog 22 = true := by kernel_rfl
theorem ui_5 : (Try.prog.underlying 5).isSome = true := by kernel_rfl
theorem ui_65 : (Try.prog.underlying 65).isSome = true := by kernel_rfl
theorem um_3 : Try.prog.underlying 3 = some (.int .i64) := by kernel_rfl
theorem um_4 : Try.prog.underlying 4 = some .bool := by kernel_rfl
theorem um_65 : Try.prog.underlying 65 = some (.int .u64) := by kernel_rfl
theorem z_67 : zeroOf Try.prog 67 = some [.nil, .int .i64 0, .int .u64 0] := by kernel_rfl

end Go.Proofs.Ytmdhojgkhbihaaa
