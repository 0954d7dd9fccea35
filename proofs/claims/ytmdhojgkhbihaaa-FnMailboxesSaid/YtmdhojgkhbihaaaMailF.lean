/-
  Facts on the types and functions of the translation, reckoned by the kernel. Condition: none.
-/
import Derived.Test.YtmdhojgkhbihaaaMail
import Derived.Test.YtmdhojgkhbihaaaRows
namespace Go.Proofs.Ytmdhojgkhbihaaa
open Go Go.Fw

theorem ag_26 : aggSize Try.prog 26 = some (some 3) := by kernel_rfl
theorem ag_3 : aggSize Try.prog 3 = some none := by kernel_rfl
theorem ag_83 : aggSize Try.prog 83 = some (some 3) := by kernel_rfl
theorem cl_11 : callable Try.prog 11 = true := by kernel_rfl
theorem cl_13 : callable Try.prog 13 = true := by kernel_rfl
theorem cl_48 : callable Try.prog 48 = true := by kernel_rfl
theorem cl_50 : callable Try.prog 50 = true := by kernel_rfl
theorem cl_51 : callable Try.prog 51 = true := by kernel_rfl
theorem cl_52 : callable Try.prog 52 = true := by kernel_rfl
theorem cl_53 : callable Try.prog 53 = true := by kernel_rfl
theorem cl_56 : callable Try.prog 56 = true := by kernel_rfl
theorem cl_57 : callable Try.prog 57 = true := by kernel_rfl
theorem cl_62 : callable Try.prog 62 = true := by kernel_rfl
theorem cl_64 : callable Try.prog 64 = true := by kernel_rfl
theorem cl_68 : callable Try.prog 68 = true := by kernel_rfl
theorem cl_70 : callable Try.prog 70 = true := by kernel_rfl
theorem cl_74 : callable Try.prog 74 = true := by kernel_rfl
theorem cl_75 : callable Try.prog 75 = true := by kernel_rfl
theorem cn_26 : cellsN Try.prog 26 = some 3 := by kernel_rfl
theorem cn_3 : cellsN Try.prog 3 = some 1 := by kernel_rfl
theorem el_24 : elemOfT Try.prog 24 = some (26, 3, 24) := by kernel_rfl
theorem eqs_26 : eqShape Try.prog 26 = some [true, true, true] := by kernel_rfl
theorem es_24 : elemSize Try.prog 24 = some 3 := by kernel_rfl
theorem es_58 : elemSize Try.prog 58 = some 3 := by kernel_rfl
theorem fo_26_0 : fieldOff Try.prog 26 0 = some 0 := by kernel_rfl
theorem fo_26_1 : fieldOff Try.prog 26 1 = some 1 := by kernel_rfl
theorem fo_26_2 : fieldOff Try.prog 26 2 = some 2 := by kernel_rfl
theorem fo_83_0 : fieldOff Try.prog 83 0 = some 0 := by kernel_rfl
theorem fo_83_1 : fieldOff Try.prog 83 1 = some 1 := by kernel_rfl
theorem fo_83_2 : fieldOff Try.prog 83 2 = some 2 := by kernel_rfl
theorem sl_24 : isSlice Try.prog 24 = true := by kernel_rfl
theorem sl_58 : isSlice Try.prog 58 = true := by kernel_rfl
theorem ui_3 : (Try.prog.underlying 3).isSome = true := by kernel_rfl
theorem um_48 : Try.prog.underlying 48 = some (.int .u64) := by kernel_rfl
theorem z_26 : zeroOf Try.prog 26 = some [.int .i64 0, .int .i64 0, .int .i64 0] := by kernel_rfl

end Go.Proofs.Ytmdhojgkhbihaaa
