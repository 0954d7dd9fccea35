/-
  Facts on the types and functions of the translation, reckoned by the kernel. Condition: none.
-/
import Derived.Test.YtlfbhpjdfdddcaaMailF
import Derived.Test.YtlfbhpjdfdddcaaMailBF
namespace Go.Proofs.Ytlfbhpjdfdddcaa
open Go Go.Fw

theorem cl_36 : callable Try.prog 36 = true := by kernel_rfl
theorem cl_37 : callable Try.prog 37 = true := by kernel_rfl
theorem cl_38 : callable Try.prog 38 = true := by kernel_rfl
theorem cl_39 : callable Try.prog 39 = true := by kernel_rfl
theorem cl_71 : callable Try.prog 71 = true := by kernel_rfl
theorem cl_73 : callable Try.prog 73 = true := by kernel_rfl
theorem pl_25 : placesOf Try.prog 25 = some [(0, 1), (1, 1), (2, 1)] := by kernel_rfl

end Go.Proofs.Ytlfbhpjdfdddcaa
