/-
  Facts on the types and functions of the translation, reckoned by the kernel. Condition: none.
-/
import Derived.Test.YtlfbhpjdfdddcaaMailF
import Derived.Test.YtlfbhpjdfdddcaaMailBF
import Derived.Test.YtlfbhpjdfdddcaaMailCF
namespace Go.Proofs.Ytlfbhpjdfdddcaa
open Go Go.Fw

theorem cl_34 : callable Try.prog 34 = true := by kernel_rfl
theorem cl_35 : callable Try.prog 35 = true := by kernel_rfl
theorem cl_40 : callable Try.prog 40 = true := by kernel_rfl
theorem cl_41 : callable Try.prog 41 = true := by kernel_rfl
theorem cl_68 : callable Try.prog 68 = true := by kernel_rfl
theorem cl_69 : callable Try.prog 69 = true := by kernel_rfl
theorem cl_74 : callable Try.prog 74 = true := by kernel_rfl
theorem cl_75 : callable Try.prog 75 = true := by kernel_rfl
theorem cl_86 : callable Try.prog 86 = true := by kernel_rfl
theorem cl_87 : callable Try.prog 87 = true := by kernel_rfl
theorem cl_88 : callable Try.prog 88 = true := by kernel_rfl
theorem cl_89 : callable Try.prog 89 = true := by kernel_rfl
theorem cl_91 : callable Try.prog 91 = true := by kernel_rfl

end Go.Proofs.Ytlfbhpjdfdddcaa
