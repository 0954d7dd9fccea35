/-
  Facts on the types and functions of the translation, reckoned by the kernel. Condition: none.
-/
import Derived.Test.YtinbacenkbfifaaPortF
import Derived.Test.YtinbacenkbfifaaPortCF
import Derived.Test.YtinbacenkbfifaaPortDF
namespace Go.Proofs.Ytinbacenkbfifaa
open Go Go.Fw

theorem cl_47 : callable Try.prog 47 = true := by kernel_rfl
theorem cl_48 : callable Try.prog 48 = true := by kernel_rfl

end Go.Proofs.Ytinbacenkbfifaa
