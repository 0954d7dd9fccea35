/-
  Facts on the types and functions of the translation, reckoned by the kernel. Condition: none.
-/
import Derived.Test.YtmdhojgkhbihaaaMailF
import Derived.Test.YtmdhojgkhbihaaaMailBF
import Derived.Test.YtmdhojgkhbihaaaMailCF
import Derived.Test.YtmdhojgkhbihaaaMailDF
import Derived.Test.YtmdhojgkhbihaaaMailEF
namespace Go.Proofs.Ytmdhojgkhbihaaa
open Go Go.Fw

theorem ag_45 : aggSize Try.prog 45 = some none := by kernel_rfl
theorem cells_3 : Try.prog.cellsOf 3 = 1 := by kernel_rfl
theorem cells_83 : Try.prog.cellsOf 83 = 3 := by kernel_rfl
theorem cl_25 : callable Try.prog 25 = true := by kernel_rfl
theorem cl_26 : callable Try.prog 26 = true := by kernel_rfl
theorem cl_36 : callable Try.prog 36 = true := by kernel_rfl
theorem cl_37 : callable Try.prog 37 = true := by kernel_rfl
theorem cl_38 : callable Try.prog 38 = true := by kernel_rfl
theorem cl_39 : callable Try.prog 39 = true := by kernel_rfl
theorem cl_40 : callable Try.prog 40 = true := by kernel_rfl
theorem cl_41 : callable Try.prog 41 = true := by kernel_rfl
theorem cl_42 : callable Try.prog 42 = true := by kernel_rfl
theorem cl_69 : callable Try.prog 69 = true := by kernel_rfl
theorem cl_71 : callable Try.prog 71 = true := by kernel_rfl
theorem cl_72 : callable Try.prog 72 = true := by kernel_rfl
theorem el_50 : elemOfT Try.prog 50 = some (45, 1, 24) := by kernel_rfl
theorem es_50 : elemSize Try.prog 50 = some 1 := by kernel_rfl
theorem sl_50 : isSlice Try.prog 50 = true := by kernel_rfl

end Go.Proofs.Ytmdhojgkhbihaaa
