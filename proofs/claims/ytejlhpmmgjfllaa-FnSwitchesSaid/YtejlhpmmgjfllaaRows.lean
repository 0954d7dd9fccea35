/-
  No cell of these rows narrows 'for every input' (looked for: loops, veiled, ifaces, maps, wideKeys, modest, calm, conditions, laid).
  DERIVED. THE GIVEN ROWS OF THIS SEAT. 9 by the template 'for every input the law returns true; each argument reads behind the call as it read before'; 0 by the template 'total and deterministic' (their statements: YtejlhpmmgjfllaaTotals.lean).
  GIVEN WITH THE SEED: the statements are not yours to turn. If you find one false, say at which input.
  Laid BY PROGRAM, IN A SANDBOX (cutbox-rows.mjs): the forced cells as the released guide's own fill.sh prints them over the translation fa2516ac742d0f94… (all of the seat's roots in one cut). By AI agents, Wed Nov 11 2026. No macro, syntax, notation, axiom, sorry.
-/
import Derived.Test.YtejlhpmmgjfllaaChecked
import GoSem.Claim
import GoSem.ClaimJoined
import GoSem.ClaimMapViews
import Derived.JoinedTies
import Derived.KernelRfl
namespace Go.Proofs.Ytejlhpmmgjfllaa
/- THE CELL 'sum', in the pinned program and in every row, IS THE sha256 OF THE DUMP (.gsa) THAT YtejlhpmmgjfllaaProg.lean LOADS. Nothing in Lean hashes anything: it is a label: what it is worth is what the hold of that sum in a sandbox is worth. -/
noncomputable def Try.pinned : Pinned := { name := "ytejlhpmmgjfllaa", sum := "fa2516ac742d0f94e206584c7733e0128b998c96e635d8d9f9d94ae898866216", checked := Try.checked }
namespace Rows
def none {H : Type} : Left H := { results := [], args := [] }

/-- 'laws.FnExactSaveContext': WHATEVER THE INPUT: true; the input reads as it did. -/
def fnExactSaveContextSpec : ChangeSpec := { name := "fnExactSaveContext", fn := fun _ => fun
  | [d] => { results := [.lit (.bool true)], args := [d] }
  | _ => none }
def fnExactSaveContextRow : OpenClaim := { program := "ytejlhpmmgjfllaa", sum := "fa2516ac742d0f94e206584c7733e0128b998c96e635d8d9f9d94ae898866216", func := "loop.example/g00843/laws.FnExactSaveContext", spec := "fnExactSaveContext", unfollowed := true, recurses := true, apart := false }
def FnExactSaveContextSaid : Prop := fnExactSaveContextRow.holds Try.pinned (OpenSpec.ofChange fnExactSaveContextSpec)

/-- ITS FALSE NEIGHBOUR: 'it returns false'. Refute it at one input. -/
def fnExactSaveContextWrong : ChangeSpec := { name := "fnExactSaveContext", fn := fun _ => fun
  | [d] => { results := [.lit (.bool false)], args := [d] }
  | _ => none }
def FnExactSaveContextWrongFalsely : Prop := fnExactSaveContextRow.holds Try.pinned (OpenSpec.ofChange fnExactSaveContextWrong)

/-- 'laws.FnExactChangedWords': WHATEVER THE INPUT: true; the input reads as it did. -/
def fnExactChangedWordsSpec : ChangeSpec := { name := "fnExactChangedWords", fn := fun _ => fun
  | [d1, d2] => { results := [.lit (.bool true)], args := [d1, d2] }
  | _ => none }
def fnExactChangedWordsRow : OpenClaim := { program := "ytejlhpmmgjfllaa", sum := "fa2516ac742d0f94e206584c7733e0128b998c96e635d8d9f9d94ae898866216", func := "loop.example/g00843/laws.FnExactChangedWords", spec := "fnExactChangedWords", unfollowed := true, recurses := true, apart := false }
def FnExactChangedWordsSaid : Prop := fnExactChangedWordsRow.holds Try.pinned (OpenSpec.ofChange fnExactChangedWordsSpec)

/-- ITS FALSE NEIGHBOUR: 'it returns false'. Refute it at one input. -/
def fnExactChangedWordsWrong : ChangeSpec := { name := "fnExactChangedWords", fn := fun _ => fun
  | [d1, d2] => { results := [.lit (.bool false)], args := [d1, d2] }
  | _ => none }
def FnExactChangedWordsWrongFalsely : Prop := fnExactChangedWordsRow.holds Try.pinned (OpenSpec.ofChange fnExactChangedWordsWrong)

/-- 'laws.FnExactRunnableGuests': WHATEVER THE INPUT: true; the input reads as it did. -/
def fnExactRunnableGuestsSpec : ChangeSpec := { name := "fnExactRunnableGuests", fn := fun _ => fun
  | [d] => { results := [.lit (.bool true)], args := [d] }
  | _ => none }
def fnExactRunnableGuestsRow : OpenClaim := { program := "ytejlhpmmgjfllaa", sum := "fa2516ac742d0f94e206584c7733e0128b998c96e635d8d9f9d94ae898866216", func := "loop.example/g00843/laws.FnExactRunnableGuests", spec := "fnExactRunnableGuests", unfollowed := true, recurses := true, apart := false }
def FnExactRunnableGuestsSaid : Prop := fnExactRunnableGuestsRow.holds Try.pinned (OpenSpec.ofChange fnExactRunnableGuestsSpec)

/-- ITS FALSE NEIGHBOUR: 'it returns false'. Refute it at one input. -/
def fnExactRunnableGuestsWrong : ChangeSpec := { name := "fnExactRunnableGuests", fn := fun _ => fun
  | [d] => { results := [.lit (.bool false)], args := [d] }
  | _ => none }
def FnExactRunnableGuestsWrongFalsely : Prop := fnExactRunnableGuestsRow.holds Try.pinned (OpenSpec.ofChange fnExactRunnableGuestsWrong)

/-- 'laws.FnExactWithPending': WHATEVER THE INPUT: true; the input reads as it did. -/
def fnExactWithPendingSpec : ChangeSpec := { name := "fnExactWithPending", fn := fun _ => fun
  | [d1, d2] => { results := [.lit (.bool true)], args := [d1, d2] }
  | _ => none }
def fnExactWithPendingRow : OpenClaim := { program := "ytejlhpmmgjfllaa", sum := "fa2516ac742d0f94e206584c7733e0128b998c96e635d8d9f9d94ae898866216", func := "loop.example/g00843/laws.FnExactWithPending", spec := "fnExactWithPending", unfollowed := true, recurses := true, apart := false }
def FnExactWithPendingSaid : Prop := fnExactWithPendingRow.holds Try.pinned (OpenSpec.ofChange fnExactWithPendingSpec)

/-- ITS FALSE NEIGHBOUR: 'it returns false'. Refute it at one input. -/
def fnExactWithPendingWrong : ChangeSpec := { name := "fnExactWithPending", fn := fun _ => fun
  | [d1, d2] => { results := [.lit (.bool false)], args := [d1, d2] }
  | _ => none }
def FnExactWithPendingWrongFalsely : Prop := fnExactWithPendingRow.holds Try.pinned (OpenSpec.ofChange fnExactWithPendingWrong)

/-- 'laws.FnExactRaisePending': WHATEVER THE INPUT: true; the input reads as it did. -/
def fnExactRaisePendingSpec : ChangeSpec := { name := "fnExactRaisePending", fn := fun _ => fun
  | [d1, d2, d3] => { results := [.lit (.bool true)], args := [d1, d2, d3] }
  | _ => none }
def fnExactRaisePendingRow : OpenClaim := { program := "ytejlhpmmgjfllaa", sum := "fa2516ac742d0f94e206584c7733e0128b998c96e635d8d9f9d94ae898866216", func := "loop.example/g00843/laws.FnExactRaisePending", spec := "fnExactRaisePending", unfollowed := true, recurses := true, apart := false }
def FnExactRaisePendingSaid : Prop := fnExactRaisePendingRow.holds Try.pinned (OpenSpec.ofChange fnExactRaisePendingSpec)

/-- ITS FALSE NEIGHBOUR: 'it returns false'. Refute it at one input. -/
def fnExactRaisePendingWrong : ChangeSpec := { name := "fnExactRaisePending", fn := fun _ => fun
  | [d1, d2, d3] => { results := [.lit (.bool false)], args := [d1, d2, d3] }
  | _ => none }
def FnExactRaisePendingWrongFalsely : Prop := fnExactRaisePendingRow.holds Try.pinned (OpenSpec.ofChange fnExactRaisePendingWrong)

/-- 'laws.FnExactSwapImages': WHATEVER THE INPUT: true; the input reads as it did. -/
def fnExactSwapImagesSpec : ChangeSpec := { name := "fnExactSwapImages", fn := fun _ => fun
  | [d] => { results := [.lit (.bool true)], args := [d] }
  | _ => none }
def fnExactSwapImagesRow : OpenClaim := { program := "ytejlhpmmgjfllaa", sum := "fa2516ac742d0f94e206584c7733e0128b998c96e635d8d9f9d94ae898866216", func := "loop.example/g00843/laws.FnExactSwapImages", spec := "fnExactSwapImages", unfollowed := true, recurses := true, apart := false }
def FnExactSwapImagesSaid : Prop := fnExactSwapImagesRow.holds Try.pinned (OpenSpec.ofChange fnExactSwapImagesSpec)

/-- ITS FALSE NEIGHBOUR: 'it returns false'. Refute it at one input. -/
def fnExactSwapImagesWrong : ChangeSpec := { name := "fnExactSwapImages", fn := fun _ => fun
  | [d] => { results := [.lit (.bool false)], args := [d] }
  | _ => none }
def FnExactSwapImagesWrongFalsely : Prop := fnExactSwapImagesRow.holds Try.pinned (OpenSpec.ofChange fnExactSwapImagesWrong)

/-- 'laws.FnContexts': WHATEVER THE INPUT: true; the input reads as it did. -/
def fnContextsSpec : ChangeSpec := { name := "fnContexts", fn := fun _ => fun
  | [d] => { results := [.lit (.bool true)], args := [d] }
  | _ => none }
def fnContextsRow : OpenClaim := { program := "ytejlhpmmgjfllaa", sum := "fa2516ac742d0f94e206584c7733e0128b998c96e635d8d9f9d94ae898866216", func := "loop.example/g00843/laws.FnContexts", spec := "fnContexts", unfollowed := true, recurses := true, apart := false }
def FnContextsSaid : Prop := fnContextsRow.holds Try.pinned (OpenSpec.ofChange fnContextsSpec)

/-- ITS FALSE NEIGHBOUR: 'it returns false'. Refute it at one input. -/
def fnContextsWrong : ChangeSpec := { name := "fnContexts", fn := fun _ => fun
  | [d] => { results := [.lit (.bool false)], args := [d] }
  | _ => none }
def FnContextsWrongFalsely : Prop := fnContextsRow.holds Try.pinned (OpenSpec.ofChange fnContextsWrong)

/-- 'laws.FnSwitches': WHATEVER THE INPUT: true; the input reads as it did. -/
def fnSwitchesSpec : ChangeSpec := { name := "fnSwitches", fn := fun _ => fun
  | [d] => { results := [.lit (.bool true)], args := [d] }
  | _ => none }
def fnSwitchesRow : OpenClaim := { program := "ytejlhpmmgjfllaa", sum := "fa2516ac742d0f94e206584c7733e0128b998c96e635d8d9f9d94ae898866216", func := "loop.example/g00843/laws.FnSwitches", spec := "fnSwitches", inPlace := ["slices.overlaps[loop.example/g00843/impl.Context]"], unfollowed := true, recurses := true, apart := false }
def FnSwitchesSaid : Prop := fnSwitchesRow.holds Try.pinned (OpenSpec.ofChange fnSwitchesSpec)

/-- ITS FALSE NEIGHBOUR: 'it returns false'. Refute it at one input. -/
def fnSwitchesWrong : ChangeSpec := { name := "fnSwitches", fn := fun _ => fun
  | [d] => { results := [.lit (.bool false)], args := [d] }
  | _ => none }
def FnSwitchesWrongFalsely : Prop := fnSwitchesRow.holds Try.pinned (OpenSpec.ofChange fnSwitchesWrong)

/-- 'laws.FnExactSwitchTo': WHATEVER THE INPUT: true; the input reads as it did. -/
def fnExactSwitchToSpec : ChangeSpec := { name := "fnExactSwitchTo", fn := fun _ => fun
  | [d1, d2, d3] => { results := [.lit (.bool true)], args := [d1, d2, d3] }
  | _ => none }
def fnExactSwitchToRow : OpenClaim := { program := "ytejlhpmmgjfllaa", sum := "fa2516ac742d0f94e206584c7733e0128b998c96e635d8d9f9d94ae898866216", func := "loop.example/g00843/laws.FnExactSwitchTo", spec := "fnExactSwitchTo", inPlace := ["slices.overlaps[loop.example/g00843/impl.Context]"], unfollowed := true, recurses := true, apart := false }
def FnExactSwitchToSaid : Prop := fnExactSwitchToRow.holds Try.pinned (OpenSpec.ofChange fnExactSwitchToSpec)

/-- ITS FALSE NEIGHBOUR: 'it returns false'. Refute it at one input. -/
def fnExactSwitchToWrong : ChangeSpec := { name := "fnExactSwitchTo", fn := fun _ => fun
  | [d1, d2, d3] => { results := [.lit (.bool false)], args := [d1, d2, d3] }
  | _ => none }
def FnExactSwitchToWrongFalsely : Prop := fnExactSwitchToRow.holds Try.pinned (OpenSpec.ofChange fnExactSwitchToWrong)

/- THE SECOND FORM. 'bulk': how many values and letters a reading holds, each counted each time it is reached (what is shared counts as often as it is met; a slice's spare places count too). A statement '..UptoSaid' is the law's where the arguments, and the package variables that the reading takes, are together of bulk at most 1048576: NARROWER than '..Said'. Prove '..Said' where nothing that the law and all that it calls make is longer than what came in: it says more and counts as full. Else prove '..UptoSaid'. A law counts once. -/
mutual
def uptoBulk {H : Type} : DataW H → Nat
  | .lit (.string bytes) => bytes.length + 1
  | .lit _ => 1
  | .nil => 1
  | .ptr d => uptoBulk d + 1
  | .slice elems spare => uptoBulkAll elems + uptoBulkAll spare + 1
  | .agg parts => uptoBulkAll parts + 1
  | .iface _ d => uptoBulk d + 1
  | .map entries => uptoBulkEntries entries + 1
  | .held _ => 1
def uptoBulkAll {H : Type} : List (DataW H) → Nat
  | [] => 0
  | d :: r => uptoBulk d + uptoBulkAll r
def uptoBulkEntries {H : Type} : List (Lit × DataW H) → Nat
  | [] => 0
  | x :: r => uptoBulkEntry x + uptoBulkEntries r
def uptoBulkEntry {H : Type} : Lit × DataW H → Nat
  | (.string bytes, d) => bytes.length + uptoBulk d + 1
  | (_, d) => uptoBulk d + 1
 end
def uptoSmall : (H : Type) → List (DataW H) → Bool := fun _ ds => decide (uptoBulkAll ds ≤ 1048576)
def OpenSpec.upto (s : _root_.Go.ChangeSpec) : _root_.Go.OpenSpec := { _root_.Go.OpenSpec.ofChange s with cond := some uptoSmall }

/-- 'laws.FnExactSaveContext', WHERE WHAT IT READS IS OF BULK AT MOST 1048576: true; the input reads as it did. -/
def fnExactSaveContextUptoRow : OpenClaim := { program := "ytejlhpmmgjfllaa", sum := "fa2516ac742d0f94e206584c7733e0128b998c96e635d8d9f9d94ae898866216", func := "loop.example/g00843/laws.FnExactSaveContext", spec := "fnExactSaveContext", unfollowed := true, recurses := true, apart := false, narrowed := true }
def FnExactSaveContextUptoSaid : Prop := fnExactSaveContextUptoRow.holds Try.pinned (OpenSpec.upto fnExactSaveContextSpec)

/-- 'laws.FnExactChangedWords', WHERE WHAT IT READS IS OF BULK AT MOST 1048576: true; the input reads as it did. -/
def fnExactChangedWordsUptoRow : OpenClaim := { program := "ytejlhpmmgjfllaa", sum := "fa2516ac742d0f94e206584c7733e0128b998c96e635d8d9f9d94ae898866216", func := "loop.example/g00843/laws.FnExactChangedWords", spec := "fnExactChangedWords", unfollowed := true, recurses := true, apart := false, narrowed := true }
def FnExactChangedWordsUptoSaid : Prop := fnExactChangedWordsUptoRow.holds Try.pinned (OpenSpec.upto fnExactChangedWordsSpec)

/-- 'laws.FnExactRunnableGuests', WHERE WHAT IT READS IS OF BULK AT MOST 1048576: true; the input reads as it did. -/
def fnExactRunnableGuestsUptoRow : OpenClaim := { program := "ytejlhpmmgjfllaa", sum := "fa2516ac742d0f94e206584c7733e0128b998c96e635d8d9f9d94ae898866216", func := "loop.example/g00843/laws.FnExactRunnableGuests", spec := "fnExactRunnableGuests", unfollowed := true, recurses := true, apart := false, narrowed := true }
def FnExactRunnableGuestsUptoSaid : Prop := fnExactRunnableGuestsUptoRow.holds Try.pinned (OpenSpec.upto fnExactRunnableGuestsSpec)

/-- 'laws.FnExactWithPending', WHERE WHAT IT READS IS OF BULK AT MOST 1048576: true; the input reads as it did. -/
def fnExactWithPendingUptoRow : OpenClaim := { program := "ytejlhpmmgjfllaa", sum := "fa2516ac742d0f94e206584c7733e0128b998c96e635d8d9f9d94ae898866216", func := "loop.example/g00843/laws.FnExactWithPending", spec := "fnExactWithPending", unfollowed := true, recurses := true, apart := false, narrowed := true }
def FnExactWithPendingUptoSaid : Prop := fnExactWithPendingUptoRow.holds Try.pinned (OpenSpec.upto fnExactWithPendingSpec)

/-- 'laws.FnExactRaisePending', WHERE WHAT IT READS IS OF BULK AT MOST 1048576: true; the input reads as it did. -/
def fnExactRaisePendingUptoRow : OpenClaim := { program := "ytejlhpmmgjfllaa", sum := "fa2516ac742d0f94e206584c7733e0128b998c96e635d8d9f9d94ae898866216", func := "loop.example/g00843/laws.FnExactRaisePending", spec := "fnExactRaisePending", unfollowed := true, recurses := true, apart := false, narrowed := true }
def FnExactRaisePendingUptoSaid : Prop := fnExactRaisePendingUptoRow.holds Try.pinned (OpenSpec.upto fnExactRaisePendingSpec)

/-- 'laws.FnExactSwapImages', WHERE WHAT IT READS IS OF BULK AT MOST 1048576: true; the input reads as it did. -/
def fnExactSwapImagesUptoRow : OpenClaim := { program := "ytejlhpmmgjfllaa", sum := "fa2516ac742d0f94e206584c7733e0128b998c96e635d8d9f9d94ae898866216", func := "loop.example/g00843/laws.FnExactSwapImages", spec := "fnExactSwapImages", unfollowed := true, recurses := true, apart := false, narrowed := true }
def FnExactSwapImagesUptoSaid : Prop := fnExactSwapImagesUptoRow.holds Try.pinned (OpenSpec.upto fnExactSwapImagesSpec)

/-- 'laws.FnContexts', WHERE WHAT IT READS IS OF BULK AT MOST 1048576: true; the input reads as it did. -/
def fnContextsUptoRow : OpenClaim := { program := "ytejlhpmmgjfllaa", sum := "fa2516ac742d0f94e206584c7733e0128b998c96e635d8d9f9d94ae898866216", func := "loop.example/g00843/laws.FnContexts", spec := "fnContexts", unfollowed := true, recurses := true, apart := false, narrowed := true }
def FnContextsUptoSaid : Prop := fnContextsUptoRow.holds Try.pinned (OpenSpec.upto fnContextsSpec)

/-- 'laws.FnSwitches', WHERE WHAT IT READS IS OF BULK AT MOST 1048576: true; the input reads as it did. -/
def fnSwitchesUptoRow : OpenClaim := { program := "ytejlhpmmgjfllaa", sum := "fa2516ac742d0f94e206584c7733e0128b998c96e635d8d9f9d94ae898866216", func := "loop.example/g00843/laws.FnSwitches", spec := "fnSwitches", inPlace := ["slices.overlaps[loop.example/g00843/impl.Context]"], unfollowed := true, recurses := true, apart := false, narrowed := true }
def FnSwitchesUptoSaid : Prop := fnSwitchesUptoRow.holds Try.pinned (OpenSpec.upto fnSwitchesSpec)

/-- 'laws.FnExactSwitchTo', WHERE WHAT IT READS IS OF BULK AT MOST 1048576: true; the input reads as it did. -/
def fnExactSwitchToUptoRow : OpenClaim := { program := "ytejlhpmmgjfllaa", sum := "fa2516ac742d0f94e206584c7733e0128b998c96e635d8d9f9d94ae898866216", func := "loop.example/g00843/laws.FnExactSwitchTo", spec := "fnExactSwitchTo", inPlace := ["slices.overlaps[loop.example/g00843/impl.Context]"], unfollowed := true, recurses := true, apart := false, narrowed := true }
def FnExactSwitchToUptoSaid : Prop := fnExactSwitchToUptoRow.holds Try.pinned (OpenSpec.upto fnExactSwitchToSpec)

end Rows
end Go.Proofs.Ytejlhpmmgjfllaa
