/-
  Facts on the types and functions of the translation, reckoned by the kernel. Condition: none.
-/
import Derived.Test.YtejlhpmmgjfllaaCtxF
namespace Go.Proofs.Ytejlhpmmgjfllaa
open Go Go.Fw

theorem cl_102 : callable Try.prog 102 = true := by kernel_rfl
theorem cl_19 : callable Try.prog 19 = true := by kernel_rfl
theorem cl_20 : callable Try.prog 20 = true := by kernel_rfl
theorem cl_66 : callable Try.prog 66 = true := by kernel_rfl
theorem cl_83 : callable Try.prog 83 = true := by kernel_rfl
theorem cl_85 : callable Try.prog 85 = true := by kernel_rfl
theorem cl_86 : callable Try.prog 86 = true := by kernel_rfl
theorem cl_92 : callable Try.prog 92 = true := by kernel_rfl
theorem cl_94 : callable Try.prog 94 = true := by kernel_rfl
theorem pl_30 : placesOf Try.prog 30 = some [(0, 1), (1, 1), (2, 1), (3, 1)] := by kernel_rfl
theorem pl_32 : placesOf Try.prog 32 = some [(0, 1), (1, 4), (5, 1), (6, 1)] := by kernel_rfl

end Go.Proofs.Ytejlhpmmgjfllaa
