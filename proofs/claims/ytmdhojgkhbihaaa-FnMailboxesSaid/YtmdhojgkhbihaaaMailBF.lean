/-
  Facts on the types and functions of the translation, reckoned by the kernel. Condition: none.
-/
import Derived.Test.YtmdhojgkhbihaaaMailF
namespace Go.Proofs.Ytmdhojgkhbihaaa
open Go Go.Fw

theorem cl_47 : callable Try.prog 47 = true := by kernel_rfl
theorem cl_49 : callable Try.prog 49 = true := by kernel_rfl
theorem el_45 : elemOfT Try.prog 45 = some (3, 1, 8) := by kernel_rfl
theorem es_45 : elemSize Try.prog 45 = some 1 := by kernel_rfl
theorem sl_45 : isSlice Try.prog 45 = true := by kernel_rfl
theorem z_3 : zeroOf Try.prog 3 = some [.int .i64 0] := by kernel_rfl

end Go.Proofs.Ytmdhojgkhbihaaa
