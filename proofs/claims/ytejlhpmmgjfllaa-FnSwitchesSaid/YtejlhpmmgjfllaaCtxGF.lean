/-
  Facts on the types and functions of the translation, reckoned by the kernel. Condition: none.
-/
import Derived.Test.YtejlhpmmgjfllaaCtxF
import Derived.Test.YtejlhpmmgjfllaaCtxBF
import Derived.Test.YtejlhpmmgjfllaaCtxCF
import Derived.Test.YtejlhpmmgjfllaaCtxDF
import Derived.Test.YtejlhpmmgjfllaaCtxEF
namespace Go.Proofs.Ytejlhpmmgjfllaa
open Go Go.Fw

theorem ag_5 : aggSize Try.prog 5 = some none := by kernel_rfl
theorem ag_59 : aggSize Try.prog 59 = some none := by kernel_rfl
theorem ag_95 : aggSize Try.prog 95 = some none := by kernel_rfl
theorem cells_5 : Try.prog.cellsOf 5 = 1 := by kernel_rfl
theorem cl_111 : callable Try.prog 111 = true := by kernel_rfl
theorem cl_112 : callable Try.prog 112 = true := by kernel_rfl
theorem cl_39 : callable Try.prog 39 = true := by kernel_rfl
theorem cl_40 : callable Try.prog 40 = true := by kernel_rfl
theorem cl_41 : callable Try.prog 41 = true := by kernel_rfl
theorem cl_43 : callable Try.prog 43 = true := by kernel_rfl
theorem cl_44 : callable Try.prog 44 = true := by kernel_rfl
theorem cl_45 : callable Try.prog 45 = true := by kernel_rfl
theorem cl_46 : callable Try.prog 46 = true := by kernel_rfl
theorem cl_47 : callable Try.prog 47 = true := by kernel_rfl
theorem cl_48 : callable Try.prog 48 = true := by kernel_rfl
theorem cl_49 : callable Try.prog 49 = true := by kernel_rfl
theorem cl_78 : callable Try.prog 78 = true := by kernel_rfl
theorem cl_87 : callable Try.prog 87 = true := by kernel_rfl
theorem cl_88 : callable Try.prog 88 = true := by kernel_rfl
theorem cl_89 : callable Try.prog 89 = true := by kernel_rfl
theorem cl_90 : callable Try.prog 90 = true := by kernel_rfl
theorem cl_91 : callable Try.prog 91 = true := by kernel_rfl
theorem cl_96 : callable Try.prog 96 = true := by kernel_rfl
theorem cl_97 : callable Try.prog 97 = true := by kernel_rfl
theorem cl_98 : callable Try.prog 98 = true := by kernel_rfl
theorem cn_95 : cellsN Try.prog 95 = some 1 := by kernel_rfl
theorem es_59 : elemSize Try.prog 59 = some 1 := by kernel_rfl
theorem fo_97_0 : fieldOff Try.prog 97 0 = some 0 := by kernel_rfl
theorem fo_97_1 : fieldOff Try.prog 97 1 = some 1 := by kernel_rfl
theorem fo_97_2 : fieldOff Try.prog 97 2 = some 2 := by kernel_rfl
theorem pl_97 : placesOf Try.prog 97 = some [(0, 1), (1, 1), (2, 1)] := by kernel_rfl
theorem sl_59 : isSlice Try.prog 59 = true := by kernel_rfl
theorem ui_5 : (Try.prog.underlying 5).isSome = true := by kernel_rfl
theorem ui_95 : (Try.prog.underlying 95).isSome = true := by kernel_rfl
theorem um_95 : Try.prog.underlying 95 = some (.int .u64) := by kernel_rfl
theorem z_97 : zeroOf Try.prog 97 = some [.nil, .int .i64 0, .int .u64 0] := by kernel_rfl

end Go.Proofs.Ytejlhpmmgjfllaa
