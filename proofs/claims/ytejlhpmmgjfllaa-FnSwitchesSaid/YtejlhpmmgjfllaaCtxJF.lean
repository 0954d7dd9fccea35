/-
  Facts on the types and functions of the translation, reckoned by the kernel. Condition: none.
-/
import Derived.Test.YtejlhpmmgjfllaaCtxF
import Derived.Test.YtejlhpmmgjfllaaCtxBF
import Derived.Test.YtejlhpmmgjfllaaCtxCF
import Derived.Test.YtejlhpmmgjfllaaCtxDF
import Derived.Test.YtejlhpmmgjfllaaCtxEF
import Derived.Test.YtejlhpmmgjfllaaCtxGF
import Derived.Test.YtejlhpmmgjfllaaCtxHF
namespace Go.Proofs.Ytejlhpmmgjfllaa
open Go Go.Fw

theorem cl_51 : callable Try.prog 51 = true := by kernel_rfl
theorem cl_54 : callable Try.prog 54 = true := by kernel_rfl
theorem cl_55 : callable Try.prog 55 = true := by kernel_rfl
theorem cl_56 : callable Try.prog 56 = true := by kernel_rfl
theorem cl_57 : callable Try.prog 57 = true := by kernel_rfl
theorem cl_58 : callable Try.prog 58 = true := by kernel_rfl

end Go.Proofs.Ytejlhpmmgjfllaa
