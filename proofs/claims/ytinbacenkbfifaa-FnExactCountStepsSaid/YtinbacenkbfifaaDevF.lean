/-
  Facts on the types and functions of the translation, reckoned by the kernel. Condition: none.
-/
import Derived.Test.YtinbacenkbfifaaDev
import Derived.Test.YtinbacenkbfifaaRows
namespace Go.Proofs.Ytinbacenkbfifaa
open Go Go.Fw

theorem ag_23 : aggSize Try.prog 23 = some (some 4) := by kernel_rfl
theorem ag_25 : aggSize Try.prog 25 = some (some 4) := by kernel_rfl
theorem ag_3 : aggSize Try.prog 3 = some none := by kernel_rfl
theorem ag_4 : aggSize Try.prog 4 = some none := by kernel_rfl
theorem cells_23 : Try.prog.cellsOf 23 = 4 := by kernel_rfl
theorem cells_3 : Try.prog.cellsOf 3 = 1 := by kernel_rfl
theorem cells_4 : Try.prog.cellsOf 4 = 1 := by kernel_rfl
theorem cl_15 : callable Try.prog 15 = true := by kernel_rfl
theorem cl_16 : callable Try.prog 16 = true := by kernel_rfl
theorem cl_17 : callable Try.prog 17 = true := by kernel_rfl
theorem cl_18 : callable Try.prog 18 = true := by kernel_rfl
theorem cl_19 : callable Try.prog 19 = true := by kernel_rfl
theorem cl_20 : callable Try.prog 20 = true := by kernel_rfl
theorem cl_21 : callable Try.prog 21 = true := by kernel_rfl
theorem cl_22 : callable Try.prog 22 = true := by kernel_rfl
theorem cl_23 : callable Try.prog 23 = true := by kernel_rfl
theorem cl_24 : callable Try.prog 24 = true := by kernel_rfl
theorem cl_56 : callable Try.prog 56 = true := by kernel_rfl
theorem cl_57 : callable Try.prog 57 = true := by kernel_rfl
theorem cl_58 : callable Try.prog 58 = true := by kernel_rfl
theorem cn_25 : cellsN Try.prog 25 = some 4 := by kernel_rfl
theorem cn_3 : cellsN Try.prog 3 = some 1 := by kernel_rfl
theorem cn_4 : cellsN Try.prog 4 = some 1 := by kernel_rfl
theorem fo_23_0 : fieldOff Try.prog 23 0 = some 0 := by kernel_rfl
theorem fo_23_1 : fieldOff Try.prog 23 1 = some 1 := by kernel_rfl
theorem fo_23_2 : fieldOff Try.prog 23 2 = some 2 := by kernel_rfl
theorem fo_23_3 : fieldOff Try.prog 23 3 = some 3 := by kernel_rfl
theorem fo_25_0 : fieldOff Try.prog 25 0 = some 0 := by kernel_rfl
theorem fo_25_1 : fieldOff Try.prog 25 1 = some 1 := by kernel_rfl
theorem fo_25_2 : fieldOff Try.prog 25 2 = some 2 := by kernel_rfl
theorem fo_25_3 : fieldOff Try.prog 25 3 = some 3 := by kernel_rfl
theorem pl_25 : placesOf Try.prog 25 = some [(0, 1), (1, 1), (2, 1), (3, 1)] := by kernel_rfl
theorem um_4 : Try.prog.underlying 4 = some .bool := by kernel_rfl
theorem z_25 : zeroOf Try.prog 25 = some [.int .i64 0, .int .i64 0, .int .i64 0, .bool false] := by kernel_rfl

end Go.Proofs.Ytinbacenkbfifaa
