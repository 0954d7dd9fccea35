/-
  Facts on the types and functions of the translation, reckoned by the kernel. Condition: none.
-/
import Derived.Test.YtejlhpmmgjfllaaCtxF
import Derived.Test.YtejlhpmmgjfllaaCtxBF
import Derived.Test.YtejlhpmmgjfllaaCtxCF
import Derived.Test.YtejlhpmmgjfllaaCtxDF
import Derived.Test.YtejlhpmmgjfllaaCtxEF
import Derived.Test.YtejlhpmmgjfllaaCtxGF
namespace Go.Proofs.Ytejlhpmmgjfllaa
open Go Go.Fw

theorem cl_100 : callable Try.prog 100 = true := by kernel_rfl
theorem cl_52 : callable Try.prog 52 = true := by kernel_rfl
theorem cl_53 : callable Try.prog 53 = true := by kernel_rfl
theorem cl_59 : callable Try.prog 59 = true := by kernel_rfl
theorem cl_99 : callable Try.prog 99 = true := by kernel_rfl

end Go.Proofs.Ytejlhpmmgjfllaa
