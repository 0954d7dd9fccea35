/-
  Facts on the types and functions of the translation, reckoned by the kernel. Condition: none.
-/
import Derived.Test.YtmdhojgkhbihaaaMailF
import Derived.Test.YtmdhojgkhbihaaaMailBF
namespace Go.Proofs.Ytmdhojgkhbihaaa
open Go Go.Fw

theorem cl_21 : callable Try.prog 21 = true := by kernel_rfl
theorem cl_60 : callable Try.prog 60 = true := by kernel_rfl
theorem cl_63 : callable Try.prog 63 = true := by kernel_rfl
theorem pl_26 : placesOf Try.prog 26 = some [(0, 1), (1, 1), (2, 1)] := by kernel_rfl

end Go.Proofs.Ytmdhojgkhbihaaa
