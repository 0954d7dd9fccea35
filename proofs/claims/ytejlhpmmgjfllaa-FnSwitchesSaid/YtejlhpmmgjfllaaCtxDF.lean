/-
  Facts on the types and functions of the translation, reckoned by the kernel. Condition: none.
-/
import Derived.Test.YtejlhpmmgjfllaaCtxF
import Derived.Test.YtejlhpmmgjfllaaCtxBF
import Derived.Test.YtejlhpmmgjfllaaCtxCF
namespace Go.Proofs.Ytejlhpmmgjfllaa
open Go Go.Fw

theorem cl_23 : callable Try.prog 23 = true := by kernel_rfl
theorem cl_24 : callable Try.prog 24 = true := by kernel_rfl
theorem cl_25 : callable Try.prog 25 = true := by kernel_rfl
theorem cl_26 : callable Try.prog 26 = true := by kernel_rfl
theorem cl_27 : callable Try.prog 27 = true := by kernel_rfl
theorem cl_28 : callable Try.prog 28 = true := by kernel_rfl
theorem cl_29 : callable Try.prog 29 = true := by kernel_rfl
theorem cl_30 : callable Try.prog 30 = true := by kernel_rfl
theorem cl_50 : callable Try.prog 50 = true := by kernel_rfl
theorem cl_68 : callable Try.prog 68 = true := by kernel_rfl
theorem cl_69 : callable Try.prog 69 = true := by kernel_rfl
theorem cl_70 : callable Try.prog 70 = true := by kernel_rfl
theorem cl_71 : callable Try.prog 71 = true := by kernel_rfl
theorem cl_72 : callable Try.prog 72 = true := by kernel_rfl
theorem cl_73 : callable Try.prog 73 = true := by kernel_rfl
theorem ui_3 : (Try.prog.underlying 3).isSome = true := by kernel_rfl
theorem um_87 : Try.prog.underlying 87 = some (.int .u64) := by kernel_rfl

end Go.Proofs.Ytejlhpmmgjfllaa
