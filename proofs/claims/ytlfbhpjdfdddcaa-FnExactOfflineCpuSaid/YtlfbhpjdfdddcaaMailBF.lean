/-
  Facts on the types and functions of the translation, reckoned by the kernel. Condition: none.
-/
import Derived.Test.YtlfbhpjdfdddcaaMailF
namespace Go.Proofs.Ytlfbhpjdfdddcaa
open Go Go.Fw

theorem cl_25 : callable Try.prog 25 = true := by kernel_rfl
theorem cl_26 : callable Try.prog 26 = true := by kernel_rfl
theorem cl_27 : callable Try.prog 27 = true := by kernel_rfl
theorem cl_28 : callable Try.prog 28 = true := by kernel_rfl
theorem cl_29 : callable Try.prog 29 = true := by kernel_rfl
theorem cl_30 : callable Try.prog 30 = true := by kernel_rfl
theorem cl_31 : callable Try.prog 31 = true := by kernel_rfl
theorem cl_32 : callable Try.prog 32 = true := by kernel_rfl
theorem cl_33 : callable Try.prog 33 = true := by kernel_rfl
theorem cl_65 : callable Try.prog 65 = true := by kernel_rfl
theorem cl_66 : callable Try.prog 66 = true := by kernel_rfl
theorem el_41 : elemOfT Try.prog 41 = some (3, 1, 8) := by kernel_rfl
theorem es_41 : elemSize Try.prog 41 = some 1 := by kernel_rfl
theorem sl_41 : isSlice Try.prog 41 = true := by kernel_rfl
theorem z_3 : zeroOf Try.prog 3 = some [.int .i64 0] := by kernel_rfl

end Go.Proofs.Ytlfbhpjdfdddcaa
