/-
  Facts on the types and functions of the translation, reckoned by the kernel. Condition: none.
-/
import Derived.Test.YtejlhpmmgjfllaaCtxF
import Derived.Test.YtejlhpmmgjfllaaCtxBF
import Derived.Test.YtejlhpmmgjfllaaCtxCF
import Derived.Test.YtejlhpmmgjfllaaCtxDF
namespace Go.Proofs.Ytejlhpmmgjfllaa
open Go Go.Fw

theorem cl_101 : callable Try.prog 101 = true := by kernel_rfl
theorem cl_107 : callable Try.prog 107 = true := by kernel_rfl
theorem cl_108 : callable Try.prog 108 = true := by kernel_rfl
theorem cl_115 : callable Try.prog 115 = true := by kernel_rfl
theorem cl_31 : callable Try.prog 31 = true := by kernel_rfl
theorem cl_32 : callable Try.prog 32 = true := by kernel_rfl
theorem cl_33 : callable Try.prog 33 = true := by kernel_rfl
theorem cl_34 : callable Try.prog 34 = true := by kernel_rfl
theorem cl_35 : callable Try.prog 35 = true := by kernel_rfl
theorem cl_36 : callable Try.prog 36 = true := by kernel_rfl
theorem cl_37 : callable Try.prog 37 = true := by kernel_rfl
theorem cl_38 : callable Try.prog 38 = true := by kernel_rfl
theorem cl_74 : callable Try.prog 74 = true := by kernel_rfl
theorem cl_75 : callable Try.prog 75 = true := by kernel_rfl
theorem cl_76 : callable Try.prog 76 = true := by kernel_rfl
theorem cl_77 : callable Try.prog 77 = true := by kernel_rfl
theorem cl_95 : callable Try.prog 95 = true := by kernel_rfl

end Go.Proofs.Ytejlhpmmgjfllaa
