/-
  Facts on the types and functions of the translation, reckoned by the kernel. Condition: none.
-/
import Derived.Test.YtmdhojgkhbihaaaMailF
import Derived.Test.YtmdhojgkhbihaaaMailBF
import Derived.Test.YtmdhojgkhbihaaaMailCF
namespace Go.Proofs.Ytmdhojgkhbihaaa
open Go Go.Fw

theorem cl_55 : callable Try.prog 55 = true := by kernel_rfl
theorem cl_58 : callable Try.prog 58 = true := by kernel_rfl
theorem cl_66 : callable Try.prog 66 = true := by kernel_rfl
theorem cl_67 : callable Try.prog 67 = true := by kernel_rfl
theorem cl_76 : callable Try.prog 76 = true := by kernel_rfl
theorem cl_77 : callable Try.prog 77 = true := by kernel_rfl
theorem cl_78 : callable Try.prog 78 = true := by kernel_rfl
theorem cl_79 : callable Try.prog 79 = true := by kernel_rfl
theorem cl_80 : callable Try.prog 80 = true := by kernel_rfl

end Go.Proofs.Ytmdhojgkhbihaaa
