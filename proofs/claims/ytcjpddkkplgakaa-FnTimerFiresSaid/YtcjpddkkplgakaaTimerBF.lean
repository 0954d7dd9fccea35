/-
  Facts on the types and functions of the translation, reckoned by the kernel. Condition: none.
-/
import Derived.Test.YtcjpddkkplgakaaTimerF
namespace Go.Proofs.Ytcjpddkkplgakaa
open Go Go.Fw

theorem cl_57 : callable Try.prog 57 = true := by kernel_rfl
theorem cl_58 : callable Try.prog 58 = true := by kernel_rfl
theorem cl_59 : callable Try.prog 59 = true := by kernel_rfl
theorem cl_63 : callable Try.prog 63 = true := by kernel_rfl
theorem cl_64 : callable Try.prog 64 = true := by kernel_rfl

end Go.Proofs.Ytcjpddkkplgakaa
