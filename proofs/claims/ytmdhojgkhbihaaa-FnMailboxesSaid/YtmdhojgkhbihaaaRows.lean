/-
  No cell of these rows narrows 'for every input' (looked for: loops, veiled, ifaces, maps, wideKeys, modest, calm, conditions, laid).
  DERIVED. THE GIVEN ROWS OF THIS SEAT. 3 by the template 'for every input the law returns true; each argument reads behind the call as it read before'; 0 by the template 'total and deterministic' (their statements: YtmdhojgkhbihaaaTotals.lean).
  GIVEN WITH THE SEED: the statements are not yours to turn. If you find one false, say at which input.
  Laid BY PROGRAM, IN A SANDBOX (cutbox-rows.mjs): the forced cells as the released guide's own fill.sh prints them over the translation ab0c8867d0af9c83… (all of the seat's roots in one cut). By AI agents, Wed Nov 11 2026. No macro, syntax, notation, axiom, sorry.
-/
import Derived.Test.YtmdhojgkhbihaaaChecked
import GoSem.Claim
import GoSem.ClaimJoined
import GoSem.ClaimMapViews
import Derived.JoinedTies
import Derived.KernelRfl
namespace Go.Proofs.Ytmdhojgkhbihaaa
/- THE CELL 'sum', in the pinned program and in every row, IS THE sha256 OF THE DUMP (.gsa) THAT YtmdhojgkhbihaaaProg.lean LOADS. Nothing in Lean hashes anything: it is a label: what it is worth is what the hold of that sum in a sandbox is worth. -/
noncomputable def Try.pinned : Pinned := { name := "ytmdhojgkhbihaaa", sum := "ab0c8867d0af9c835e4b4b3031a5b21dc47df24dedfc3af4168a455286bbec4a", checked := Try.checked }
namespace Rows
def none {H : Type} : Left H := { results := [], args := [] }

/-- 'laws.FnMail': WHATEVER THE INPUT: true; the input reads as it did. -/
def fnMailSpec : ChangeSpec := { name := "fnMail", fn := fun _ => fun
  | [d] => { results := [.lit (.bool true)], args := [d] }
  | _ => none }
def fnMailRow : OpenClaim := { program := "ytmdhojgkhbihaaa", sum := "ab0c8867d0af9c835e4b4b3031a5b21dc47df24dedfc3af4168a455286bbec4a", func := "loop.example/g00843/laws.FnMail", spec := "fnMail", apart := false }
def FnMailSaid : Prop := fnMailRow.holds Try.pinned (OpenSpec.ofChange fnMailSpec)

/-- ITS FALSE NEIGHBOUR: 'it returns false'. Refute it at one input. -/
def fnMailWrong : ChangeSpec := { name := "fnMail", fn := fun _ => fun
  | [d] => { results := [.lit (.bool false)], args := [d] }
  | _ => none }
def FnMailWrongFalsely : Prop := fnMailRow.holds Try.pinned (OpenSpec.ofChange fnMailWrong)

/-- 'laws.FnMailboxes': WHATEVER THE INPUT: true; the input reads as it did. -/
def fnMailboxesSpec : ChangeSpec := { name := "fnMailboxes", fn := fun _ => fun
  | [d] => { results := [.lit (.bool true)], args := [d] }
  | _ => none }
def fnMailboxesRow : OpenClaim := { program := "ytmdhojgkhbihaaa", sum := "ab0c8867d0af9c835e4b4b3031a5b21dc47df24dedfc3af4168a455286bbec4a", func := "loop.example/g00843/laws.FnMailboxes", spec := "fnMailboxes", unfollowed := true, recurses := true, apart := false }
def FnMailboxesSaid : Prop := fnMailboxesRow.holds Try.pinned (OpenSpec.ofChange fnMailboxesSpec)

/-- ITS FALSE NEIGHBOUR: 'it returns false'. Refute it at one input. -/
def fnMailboxesWrong : ChangeSpec := { name := "fnMailboxes", fn := fun _ => fun
  | [d] => { results := [.lit (.bool false)], args := [d] }
  | _ => none }
def FnMailboxesWrongFalsely : Prop := fnMailboxesRow.holds Try.pinned (OpenSpec.ofChange fnMailboxesWrong)

/-- 'laws.FnExactDeliverAll': WHATEVER THE INPUT: true; the input reads as it did. -/
def fnExactDeliverAllSpec : ChangeSpec := { name := "fnExactDeliverAll", fn := fun _ => fun
  | [d] => { results := [.lit (.bool true)], args := [d] }
  | _ => none }
def fnExactDeliverAllRow : OpenClaim := { program := "ytmdhojgkhbihaaa", sum := "ab0c8867d0af9c835e4b4b3031a5b21dc47df24dedfc3af4168a455286bbec4a", func := "loop.example/g00843/laws.FnExactDeliverAll", spec := "fnExactDeliverAll", apart := false }
def FnExactDeliverAllSaid : Prop := fnExactDeliverAllRow.holds Try.pinned (OpenSpec.ofChange fnExactDeliverAllSpec)

/-- ITS FALSE NEIGHBOUR: 'it returns false'. Refute it at one input. -/
def fnExactDeliverAllWrong : ChangeSpec := { name := "fnExactDeliverAll", fn := fun _ => fun
  | [d] => { results := [.lit (.bool false)], args := [d] }
  | _ => none }
def FnExactDeliverAllWrongFalsely : Prop := fnExactDeliverAllRow.holds Try.pinned (OpenSpec.ofChange fnExactDeliverAllWrong)

/- THE SECOND FORM. 'bulk': how many values and letters a reading holds, each counted each time it is reached (what is shared counts as often as it is met; a slice's spare places count too). A statement '..UptoSaid' is the law's where the arguments, and the package variables that the reading takes, are together of bulk at most 1048576: NARROWER than '..Said'. Prove '..Said' where nothing that the law and all that it calls make is longer than what came in: it says more and counts as full. Else prove '..UptoSaid'. A law counts once. -/
mutual
def uptoBulk {H : Type} : DataW H → Nat
  | .lit (.string bytes) => bytes.length + 1
  | .lit _ => 1
  | .nil => 1
  | .ptr d => uptoBulk d + 1
  | .slice elems spare => uptoBulkAll elems + uptoBulkAll spare + 1
  | .agg parts => uptoBulkAll parts + 1
  | .iface _ d => uptoBulk d + 1
  | .map entries => uptoBulkEntries entries + 1
  | .held _ => 1
def uptoBulkAll {H : Type} : List (DataW H) → Nat
  | [] => 0
  | d :: r => uptoBulk d + uptoBulkAll r
def uptoBulkEntries {H : Type} : List (Lit × DataW H) → Nat
  | [] => 0
  | x :: r => uptoBulkEntry x + uptoBulkEntries r
def uptoBulkEntry {H : Type} : Lit × DataW H → Nat
  | (.string bytes, d) => bytes.length + uptoBulk d + 1
  | (_, d) => uptoBulk d + 1
 end
def uptoSmall : (H : Type) → List (DataW H) → Bool := fun _ ds => decide (uptoBulkAll ds ≤ 1048576)
def OpenSpec.upto (s : _root_.Go.ChangeSpec) : _root_.Go.OpenSpec := { _root_.Go.OpenSpec.ofChange s with cond := some uptoSmall }

/-- 'laws.FnMail', WHERE WHAT IT READS IS OF BULK AT MOST 1048576: true; the input reads as it did. -/
def fnMailUptoRow : OpenClaim := { program := "ytmdhojgkhbihaaa", sum := "ab0c8867d0af9c835e4b4b3031a5b21dc47df24dedfc3af4168a455286bbec4a", func := "loop.example/g00843/laws.FnMail", spec := "fnMail", apart := false, narrowed := true }
def FnMailUptoSaid : Prop := fnMailUptoRow.holds Try.pinned (OpenSpec.upto fnMailSpec)

/-- 'laws.FnMailboxes', WHERE WHAT IT READS IS OF BULK AT MOST 1048576: true; the input reads as it did. -/
def fnMailboxesUptoRow : OpenClaim := { program := "ytmdhojgkhbihaaa", sum := "ab0c8867d0af9c835e4b4b3031a5b21dc47df24dedfc3af4168a455286bbec4a", func := "loop.example/g00843/laws.FnMailboxes", spec := "fnMailboxes", unfollowed := true, recurses := true, apart := false, narrowed := true }
def FnMailboxesUptoSaid : Prop := fnMailboxesUptoRow.holds Try.pinned (OpenSpec.upto fnMailboxesSpec)

/-- 'laws.FnExactDeliverAll', WHERE WHAT IT READS IS OF BULK AT MOST 1048576: true; the input reads as it did. -/
def fnExactDeliverAllUptoRow : OpenClaim := { program := "ytmdhojgkhbihaaa", sum := "ab0c8867d0af9c835e4b4b3031a5b21dc47df24dedfc3af4168a455286bbec4a", func := "loop.example/g00843/laws.FnExactDeliverAll", spec := "fnExactDeliverAll", apart := false, narrowed := true }
def FnExactDeliverAllUptoSaid : Prop := fnExactDeliverAllUptoRow.holds Try.pinned (OpenSpec.upto fnExactDeliverAllSpec)

end Rows
end Go.Proofs.Ytmdhojgkhbihaaa
