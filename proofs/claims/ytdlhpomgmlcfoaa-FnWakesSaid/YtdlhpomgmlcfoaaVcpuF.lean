/-
  Facts on the types and functions of the translation, reckoned by the kernel. Condition: none.
-/
import Derived.Test.YtdlhpomgmlcfoaaVcpu
import Derived.Test.YtdlhpomgmlcfoaaRows
namespace Go.Proofs.Ytdlhpomgmlcfoaa
open Go Go.Fw

theorem ag_24 : aggSize Try.prog 24 = some none := by kernel_rfl
theorem ag_25 : aggSize Try.prog 25 = some none := by kernel_rfl
theorem ag_3 : aggSize Try.prog 3 = some none := by kernel_rfl
theorem ag_4 : aggSize Try.prog 4 = some none := by kernel_rfl
theorem ag_56 : aggSize Try.prog 56 = some (some 5) := by kernel_rfl
theorem cl_51 : callable Try.prog 51 = true := by kernel_rfl
theorem cl_52 : callable Try.prog 52 = true := by kernel_rfl
theorem cl_56 : callable Try.prog 56 = true := by kernel_rfl
theorem cl_65 : callable Try.prog 65 = true := by kernel_rfl
theorem cl_78 : callable Try.prog 78 = true := by kernel_rfl
theorem cl_82 : callable Try.prog 82 = true := by kernel_rfl
theorem cl_83 : callable Try.prog 83 = true := by kernel_rfl
theorem cl_85 : callable Try.prog 85 = true := by kernel_rfl
theorem cn_56 : cellsN Try.prog 56 = some 5 := by kernel_rfl
theorem el_31 : elemOfT Try.prog 31 = some (3, 1, 8) := by kernel_rfl
theorem es_24 : elemSize Try.prog 24 = some 5 := by kernel_rfl
theorem es_25 : elemSize Try.prog 25 = some 1 := by kernel_rfl
theorem es_31 : elemSize Try.prog 31 = some 1 := by kernel_rfl
theorem fo_27_0 : fieldOff Try.prog 27 0 = some 0 := by kernel_rfl
theorem fo_27_1 : fieldOff Try.prog 27 1 = some 1 := by kernel_rfl
theorem fo_56_0 : fieldOff Try.prog 56 0 = some 0 := by kernel_rfl
theorem fo_56_1 : fieldOff Try.prog 56 1 = some 1 := by kernel_rfl
theorem fo_56_2 : fieldOff Try.prog 56 2 = some 2 := by kernel_rfl
theorem fo_56_3 : fieldOff Try.prog 56 3 = some 3 := by kernel_rfl
theorem fo_56_4 : fieldOff Try.prog 56 4 = some 4 := by kernel_rfl
theorem sl_24 : isSlice Try.prog 24 = true := by kernel_rfl
theorem sl_25 : isSlice Try.prog 25 = true := by kernel_rfl
theorem sl_31 : isSlice Try.prog 31 = true := by kernel_rfl
theorem um_4 : Try.prog.underlying 4 = some .bool := by kernel_rfl
theorem z_56 : zeroOf Try.prog 56 = some [.int .i64 0, .int .i64 0, .int .i64 0, .bool false, .bool false] := by kernel_rfl

end Go.Proofs.Ytdlhpomgmlcfoaa
