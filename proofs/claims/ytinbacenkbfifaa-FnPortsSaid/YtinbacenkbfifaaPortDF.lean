/-
  Facts on the types and functions of the translation, reckoned by the kernel. Condition: none.
-/
import Derived.Test.YtinbacenkbfifaaPortF
import Derived.Test.YtinbacenkbfifaaPortCF
namespace Go.Proofs.Ytinbacenkbfifaa
open Go Go.Fw

theorem cl_42 : callable Try.prog 42 = true := by kernel_rfl
theorem cl_43 : callable Try.prog 43 = true := by kernel_rfl
theorem cl_72 : callable Try.prog 72 = true := by kernel_rfl

end Go.Proofs.Ytinbacenkbfifaa
