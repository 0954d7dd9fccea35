/-
  Facts on the types and functions of the translation, reckoned by the kernel. Condition: none.
-/
import Derived.Test.YtmdhojgkhbihaaaMailF
import Derived.Test.YtmdhojgkhbihaaaMailBF
import Derived.Test.YtmdhojgkhbihaaaMailCF
import Derived.Test.YtmdhojgkhbihaaaMailDF
import Derived.Test.YtmdhojgkhbihaaaMailEF
import Derived.Test.YtmdhojgkhbihaaaMailPF
namespace Go.Proofs.Ytmdhojgkhbihaaa
open Go Go.Fw

theorem cl_24 : callable Try.prog 24 = true := by kernel_rfl
theorem cl_27 : callable Try.prog 27 = true := by kernel_rfl
theorem cl_28 : callable Try.prog 28 = true := by kernel_rfl
theorem cl_29 : callable Try.prog 29 = true := by kernel_rfl
theorem cl_30 : callable Try.prog 30 = true := by kernel_rfl
theorem cl_31 : callable Try.prog 31 = true := by kernel_rfl
theorem cl_32 : callable Try.prog 32 = true := by kernel_rfl
theorem cl_33 : callable Try.prog 33 = true := by kernel_rfl
theorem cl_34 : callable Try.prog 34 = true := by kernel_rfl
theorem cl_35 : callable Try.prog 35 = true := by kernel_rfl

end Go.Proofs.Ytmdhojgkhbihaaa
