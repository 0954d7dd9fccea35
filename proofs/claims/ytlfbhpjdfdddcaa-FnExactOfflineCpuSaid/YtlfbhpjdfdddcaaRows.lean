/-
  No cell of these rows narrows 'for every input' (looked for: loops, veiled, ifaces, maps, wideKeys, modest, calm, conditions, laid).
  DERIVED. THE GIVEN ROWS OF THIS SEAT. 12 by the template 'for every input the law returns true; each argument reads behind the call as it read before'; 0 by the template 'total and deterministic' (their statements: YtlfbhpjdfdddcaaTotals.lean).
  GIVEN WITH THE SEED: the statements are not yours to turn. If you find one false, say at which input.
  Laid BY PROGRAM, IN A SANDBOX (cutbox-rows.mjs): the forced cells as the released guide's own fill.sh prints them over the translation 20ade91154402cc8… (all of the seat's roots in one cut). By AI agents, Wed Nov 11 2026. No macro, syntax, notation, axiom, sorry.
-/
import Derived.Test.YtlfbhpjdfdddcaaChecked
import GoSem.Claim
import GoSem.ClaimJoined
import GoSem.ClaimMapViews
import Derived.JoinedTies
import Derived.KernelRfl
namespace Go.Proofs.Ytlfbhpjdfdddcaa
/- THE CELL 'sum', in the pinned program and in every row, IS THE sha256 OF THE DUMP (.gsa) THAT YtlfbhpjdfdddcaaProg.lean LOADS. Nothing in Lean hashes anything: it is a label: what it is worth is what the hold of that sum in a sandbox is worth. -/
noncomputable def Try.pinned : Pinned := { name := "ytlfbhpjdfdddcaa", sum := "20ade91154402cc8fd8a3c411e2d3381256f6a2701a48fcfa4d49b19f3bfbde8", checked := Try.checked }
namespace Rows
def none {H : Type} : Left H := { results := [], args := [] }

/-- 'laws.FnExactIsMail': WHATEVER THE INPUT: true; the input reads as it did. -/
def fnExactIsMailSpec : ChangeSpec := { name := "fnExactIsMail", fn := fun _ => fun
  | [d] => { results := [.lit (.bool true)], args := [d] }
  | _ => none }
def fnExactIsMailRow : OpenClaim := { program := "ytlfbhpjdfdddcaa", sum := "20ade91154402cc8fd8a3c411e2d3381256f6a2701a48fcfa4d49b19f3bfbde8", func := "loop.example/g00843/laws.FnExactIsMail", spec := "fnExactIsMail", apart := false }
def FnExactIsMailSaid : Prop := fnExactIsMailRow.holds Try.pinned (OpenSpec.ofChange fnExactIsMailSpec)

/-- ITS FALSE NEIGHBOUR: 'it returns false'. Refute it at one input. -/
def fnExactIsMailWrong : ChangeSpec := { name := "fnExactIsMail", fn := fun _ => fun
  | [d] => { results := [.lit (.bool false)], args := [d] }
  | _ => none }
def FnExactIsMailWrongFalsely : Prop := fnExactIsMailRow.holds Try.pinned (OpenSpec.ofChange fnExactIsMailWrong)

/-- 'laws.FnExactIsBox': WHATEVER THE INPUT: true; the input reads as it did. -/
def fnExactIsBoxSpec : ChangeSpec := { name := "fnExactIsBox", fn := fun _ => fun
  | [d] => { results := [.lit (.bool true)], args := [d] }
  | _ => none }
def fnExactIsBoxRow : OpenClaim := { program := "ytlfbhpjdfdddcaa", sum := "20ade91154402cc8fd8a3c411e2d3381256f6a2701a48fcfa4d49b19f3bfbde8", func := "loop.example/g00843/laws.FnExactIsBox", spec := "fnExactIsBox", apart := false }
def FnExactIsBoxSaid : Prop := fnExactIsBoxRow.holds Try.pinned (OpenSpec.ofChange fnExactIsBoxSpec)

/-- ITS FALSE NEIGHBOUR: 'it returns false'. Refute it at one input. -/
def fnExactIsBoxWrong : ChangeSpec := { name := "fnExactIsBox", fn := fun _ => fun
  | [d] => { results := [.lit (.bool false)], args := [d] }
  | _ => none }
def FnExactIsBoxWrongFalsely : Prop := fnExactIsBoxRow.holds Try.pinned (OpenSpec.ofChange fnExactIsBoxWrong)

/-- 'laws.FnExactQuietCpus': WHATEVER THE INPUT: true; the input reads as it did. -/
def fnExactQuietCpusSpec : ChangeSpec := { name := "fnExactQuietCpus", fn := fun _ => fun
  | [d] => { results := [.lit (.bool true)], args := [d] }
  | _ => none }
def fnExactQuietCpusRow : OpenClaim := { program := "ytlfbhpjdfdddcaa", sum := "20ade91154402cc8fd8a3c411e2d3381256f6a2701a48fcfa4d49b19f3bfbde8", func := "loop.example/g00843/laws.FnExactQuietCpus", spec := "fnExactQuietCpus", apart := false }
def FnExactQuietCpusSaid : Prop := fnExactQuietCpusRow.holds Try.pinned (OpenSpec.ofChange fnExactQuietCpusSpec)

/-- ITS FALSE NEIGHBOUR: 'it returns false'. Refute it at one input. -/
def fnExactQuietCpusWrong : ChangeSpec := { name := "fnExactQuietCpus", fn := fun _ => fun
  | [d] => { results := [.lit (.bool false)], args := [d] }
  | _ => none }
def FnExactQuietCpusWrongFalsely : Prop := fnExactQuietCpusRow.holds Try.pinned (OpenSpec.ofChange fnExactQuietCpusWrong)

/-- 'laws.FnExactSendMail': WHATEVER THE INPUT: true; the input reads as it did. -/
def fnExactSendMailSpec : ChangeSpec := { name := "fnExactSendMail", fn := fun _ => fun
  | [d1, d2] => { results := [.lit (.bool true)], args := [d1, d2] }
  | _ => none }
def fnExactSendMailRow : OpenClaim := { program := "ytlfbhpjdfdddcaa", sum := "20ade91154402cc8fd8a3c411e2d3381256f6a2701a48fcfa4d49b19f3bfbde8", func := "loop.example/g00843/laws.FnExactSendMail", spec := "fnExactSendMail", apart := false }
def FnExactSendMailSaid : Prop := fnExactSendMailRow.holds Try.pinned (OpenSpec.ofChange fnExactSendMailSpec)

/-- ITS FALSE NEIGHBOUR: 'it returns false'. Refute it at one input. -/
def fnExactSendMailWrong : ChangeSpec := { name := "fnExactSendMail", fn := fun _ => fun
  | [d1, d2] => { results := [.lit (.bool false)], args := [d1, d2] }
  | _ => none }
def FnExactSendMailWrongFalsely : Prop := fnExactSendMailRow.holds Try.pinned (OpenSpec.ofChange fnExactSendMailWrong)

/-- 'laws.FnExactMailFor': WHATEVER THE INPUT: true; the input reads as it did. -/
def fnExactMailForSpec : ChangeSpec := { name := "fnExactMailFor", fn := fun _ => fun
  | [d1, d2] => { results := [.lit (.bool true)], args := [d1, d2] }
  | _ => none }
def fnExactMailForRow : OpenClaim := { program := "ytlfbhpjdfdddcaa", sum := "20ade91154402cc8fd8a3c411e2d3381256f6a2701a48fcfa4d49b19f3bfbde8", func := "loop.example/g00843/laws.FnExactMailFor", spec := "fnExactMailFor", apart := false }
def FnExactMailForSaid : Prop := fnExactMailForRow.holds Try.pinned (OpenSpec.ofChange fnExactMailForSpec)

/-- ITS FALSE NEIGHBOUR: 'it returns false'. Refute it at one input. -/
def fnExactMailForWrong : ChangeSpec := { name := "fnExactMailFor", fn := fun _ => fun
  | [d1, d2] => { results := [.lit (.bool false)], args := [d1, d2] }
  | _ => none }
def FnExactMailForWrongFalsely : Prop := fnExactMailForRow.holds Try.pinned (OpenSpec.ofChange fnExactMailForWrong)

/-- 'laws.FnExactOfflineCpu': WHATEVER THE INPUT: true; the input reads as it did. -/
def fnExactOfflineCpuSpec : ChangeSpec := { name := "fnExactOfflineCpu", fn := fun _ => fun
  | [d1, d2] => { results := [.lit (.bool true)], args := [d1, d2] }
  | _ => none }
def fnExactOfflineCpuRow : OpenClaim := { program := "ytlfbhpjdfdddcaa", sum := "20ade91154402cc8fd8a3c411e2d3381256f6a2701a48fcfa4d49b19f3bfbde8", func := "loop.example/g00843/laws.FnExactOfflineCpu", spec := "fnExactOfflineCpu", unfollowed := true, recurses := true, apart := false }
def FnExactOfflineCpuSaid : Prop := fnExactOfflineCpuRow.holds Try.pinned (OpenSpec.ofChange fnExactOfflineCpuSpec)

/-- ITS FALSE NEIGHBOUR: 'it returns false'. Refute it at one input. -/
def fnExactOfflineCpuWrong : ChangeSpec := { name := "fnExactOfflineCpu", fn := fun _ => fun
  | [d1, d2] => { results := [.lit (.bool false)], args := [d1, d2] }
  | _ => none }
def FnExactOfflineCpuWrongFalsely : Prop := fnExactOfflineCpuRow.holds Try.pinned (OpenSpec.ofChange fnExactOfflineCpuWrong)

/-- 'laws.FnExactSendToSet': WHATEVER THE INPUT: true; the input reads as it did. -/
def fnExactSendToSetSpec : ChangeSpec := { name := "fnExactSendToSet", fn := fun _ => fun
  | [d1, d2, d3, d4] => { results := [.lit (.bool true)], args := [d1, d2, d3, d4] }
  | _ => none }
def fnExactSendToSetRow : OpenClaim := { program := "ytlfbhpjdfdddcaa", sum := "20ade91154402cc8fd8a3c411e2d3381256f6a2701a48fcfa4d49b19f3bfbde8", func := "loop.example/g00843/laws.FnExactSendToSet", spec := "fnExactSendToSet", apart := false }
def FnExactSendToSetSaid : Prop := fnExactSendToSetRow.holds Try.pinned (OpenSpec.ofChange fnExactSendToSetSpec)

/-- ITS FALSE NEIGHBOUR: 'it returns false'. Refute it at one input. -/
def fnExactSendToSetWrong : ChangeSpec := { name := "fnExactSendToSet", fn := fun _ => fun
  | [d1, d2, d3, d4] => { results := [.lit (.bool false)], args := [d1, d2, d3, d4] }
  | _ => none }
def FnExactSendToSetWrongFalsely : Prop := fnExactSendToSetRow.holds Try.pinned (OpenSpec.ofChange fnExactSendToSetWrong)

/-- 'laws.FnExactSendToOthers': WHATEVER THE INPUT: true; the input reads as it did. -/
def fnExactSendToOthersSpec : ChangeSpec := { name := "fnExactSendToOthers", fn := fun _ => fun
  | [d1, d2, d3] => { results := [.lit (.bool true)], args := [d1, d2, d3] }
  | _ => none }
def fnExactSendToOthersRow : OpenClaim := { program := "ytlfbhpjdfdddcaa", sum := "20ade91154402cc8fd8a3c411e2d3381256f6a2701a48fcfa4d49b19f3bfbde8", func := "loop.example/g00843/laws.FnExactSendToOthers", spec := "fnExactSendToOthers", apart := false }
def FnExactSendToOthersSaid : Prop := fnExactSendToOthersRow.holds Try.pinned (OpenSpec.ofChange fnExactSendToOthersSpec)

/-- ITS FALSE NEIGHBOUR: 'it returns false'. Refute it at one input. -/
def fnExactSendToOthersWrong : ChangeSpec := { name := "fnExactSendToOthers", fn := fun _ => fun
  | [d1, d2, d3] => { results := [.lit (.bool false)], args := [d1, d2, d3] }
  | _ => none }
def FnExactSendToOthersWrongFalsely : Prop := fnExactSendToOthersRow.holds Try.pinned (OpenSpec.ofChange fnExactSendToOthersWrong)

/-- 'laws.FnExactTakeMail': WHATEVER THE INPUT: true; the input reads as it did. -/
def fnExactTakeMailSpec : ChangeSpec := { name := "fnExactTakeMail", fn := fun _ => fun
  | [d1, d2] => { results := [.lit (.bool true)], args := [d1, d2] }
  | _ => none }
def fnExactTakeMailRow : OpenClaim := { program := "ytlfbhpjdfdddcaa", sum := "20ade91154402cc8fd8a3c411e2d3381256f6a2701a48fcfa4d49b19f3bfbde8", func := "loop.example/g00843/laws.FnExactTakeMail", spec := "fnExactTakeMail", apart := false }
def FnExactTakeMailSaid : Prop := fnExactTakeMailRow.holds Try.pinned (OpenSpec.ofChange fnExactTakeMailSpec)

/-- ITS FALSE NEIGHBOUR: 'it returns false'. Refute it at one input. -/
def fnExactTakeMailWrong : ChangeSpec := { name := "fnExactTakeMail", fn := fun _ => fun
  | [d1, d2] => { results := [.lit (.bool false)], args := [d1, d2] }
  | _ => none }
def FnExactTakeMailWrongFalsely : Prop := fnExactTakeMailRow.holds Try.pinned (OpenSpec.ofChange fnExactTakeMailWrong)

/-- 'laws.FnExactDeliverAll': WHATEVER THE INPUT: true; the input reads as it did. -/
def fnExactDeliverAllSpec : ChangeSpec := { name := "fnExactDeliverAll", fn := fun _ => fun
  | [d] => { results := [.lit (.bool true)], args := [d] }
  | _ => none }
def fnExactDeliverAllRow : OpenClaim := { program := "ytlfbhpjdfdddcaa", sum := "20ade91154402cc8fd8a3c411e2d3381256f6a2701a48fcfa4d49b19f3bfbde8", func := "loop.example/g00843/laws.FnExactDeliverAll", spec := "fnExactDeliverAll", apart := false }
def FnExactDeliverAllSaid : Prop := fnExactDeliverAllRow.holds Try.pinned (OpenSpec.ofChange fnExactDeliverAllSpec)

/-- ITS FALSE NEIGHBOUR: 'it returns false'. Refute it at one input. -/
def fnExactDeliverAllWrong : ChangeSpec := { name := "fnExactDeliverAll", fn := fun _ => fun
  | [d] => { results := [.lit (.bool false)], args := [d] }
  | _ => none }
def FnExactDeliverAllWrongFalsely : Prop := fnExactDeliverAllRow.holds Try.pinned (OpenSpec.ofChange fnExactDeliverAllWrong)

/-- 'laws.FnMail': WHATEVER THE INPUT: true; the input reads as it did. -/
def fnMailSpec : ChangeSpec := { name := "fnMail", fn := fun _ => fun
  | [d] => { results := [.lit (.bool true)], args := [d] }
  | _ => none }
def fnMailRow : OpenClaim := { program := "ytlfbhpjdfdddcaa", sum := "20ade91154402cc8fd8a3c411e2d3381256f6a2701a48fcfa4d49b19f3bfbde8", func := "loop.example/g00843/laws.FnMail", spec := "fnMail", apart := false }
def FnMailSaid : Prop := fnMailRow.holds Try.pinned (OpenSpec.ofChange fnMailSpec)

/-- ITS FALSE NEIGHBOUR: 'it returns false'. Refute it at one input. -/
def fnMailWrong : ChangeSpec := { name := "fnMail", fn := fun _ => fun
  | [d] => { results := [.lit (.bool false)], args := [d] }
  | _ => none }
def FnMailWrongFalsely : Prop := fnMailRow.holds Try.pinned (OpenSpec.ofChange fnMailWrong)

/-- 'laws.FnMailboxes': WHATEVER THE INPUT: true; the input reads as it did. -/
def fnMailboxesSpec : ChangeSpec := { name := "fnMailboxes", fn := fun _ => fun
  | [d] => { results := [.lit (.bool true)], args := [d] }
  | _ => none }
def fnMailboxesRow : OpenClaim := { program := "ytlfbhpjdfdddcaa", sum := "20ade91154402cc8fd8a3c411e2d3381256f6a2701a48fcfa4d49b19f3bfbde8", func := "loop.example/g00843/laws.FnMailboxes", spec := "fnMailboxes", unfollowed := true, recurses := true, apart := false }
def FnMailboxesSaid : Prop := fnMailboxesRow.holds Try.pinned (OpenSpec.ofChange fnMailboxesSpec)

/-- ITS FALSE NEIGHBOUR: 'it returns false'. Refute it at one input. -/
def fnMailboxesWrong : ChangeSpec := { name := "fnMailboxes", fn := fun _ => fun
  | [d] => { results := [.lit (.bool false)], args := [d] }
  | _ => none }
def FnMailboxesWrongFalsely : Prop := fnMailboxesRow.holds Try.pinned (OpenSpec.ofChange fnMailboxesWrong)

/- THE SECOND FORM. 'bulk': how many values and letters a reading holds, each counted each time it is reached (what is shared counts as often as it is met; a slice's spare places count too). A statement '..UptoSaid' is the law's where the arguments, and the package variables that the reading takes, are together of bulk at most 1048576: NARROWER than '..Said'. Prove '..Said' where nothing that the law and all that it calls make is longer than what came in: it says more and counts as full. Else prove '..UptoSaid'. A law counts once. -/
mutual
def uptoBulk {H : Type} : DataW H → Nat
  | .lit (.string bytes) => bytes.length + 1
  | .lit _ => 1
  | .nil => 1
  | .ptr d => uptoBulk d + 1
  | .slice elems spare => uptoBulkAll elems + uptoBulkAll spare + 1
  | .agg parts => uptoBulkAll parts + 1
  | .iface _ d => uptoBulk d + 1
  | .map entries => uptoBulkEntries entries + 1
  | .held _ => 1
def uptoBulkAll {H : Type} : List (DataW H) → Nat
  | [] => 0
  | d :: r => uptoBulk d + uptoBulkAll r
def uptoBulkEntries {H : Type} : List (Lit × DataW H) → Nat
  | [] => 0
  | x :: r => uptoBulkEntry x + uptoBulkEntries r
def uptoBulkEntry {H : Type} : Lit × DataW H → Nat
  | (.string bytes, d) => bytes.length + uptoBulk d + 1
  | (_, d) => uptoBulk d + 1
 end
def uptoSmall : (H : Type) → List (DataW H) → Bool := fun _ ds => decide (uptoBulkAll ds ≤ 1048576)
def OpenSpec.upto (s : _root_.Go.ChangeSpec) : _root_.Go.OpenSpec := { _root_.Go.OpenSpec.ofChange s with cond := some uptoSmall }

/-- 'laws.FnExactIsMail', WHERE WHAT IT READS IS OF BULK AT MOST 1048576: true; the input reads as it did. -/
def fnExactIsMailUptoRow : OpenClaim := { program := "ytlfbhpjdfdddcaa", sum := "20ade91154402cc8fd8a3c411e2d3381256f6a2701a48fcfa4d49b19f3bfbde8", func := "loop.example/g00843/laws.FnExactIsMail", spec := "fnExactIsMail", apart := false, narrowed := true }
def FnExactIsMailUptoSaid : Prop := fnExactIsMailUptoRow.holds Try.pinned (OpenSpec.upto fnExactIsMailSpec)

/-- 'laws.FnExactIsBox', WHERE WHAT IT READS IS OF BULK AT MOST 1048576: true; the input reads as it did. -/
def fnExactIsBoxUptoRow : OpenClaim := { program := "ytlfbhpjdfdddcaa", sum := "20ade91154402cc8fd8a3c411e2d3381256f6a2701a48fcfa4d49b19f3bfbde8", func := "loop.example/g00843/laws.FnExactIsBox", spec := "fnExactIsBox", apart := false, narrowed := true }
def FnExactIsBoxUptoSaid : Prop := fnExactIsBoxUptoRow.holds Try.pinned (OpenSpec.upto fnExactIsBoxSpec)

/-- 'laws.FnExactQuietCpus', WHERE WHAT IT READS IS OF BULK AT MOST 1048576: true; the input reads as it did. -/
def fnExactQuietCpusUptoRow : OpenClaim := { program := "ytlfbhpjdfdddcaa", sum := "20ade91154402cc8fd8a3c411e2d3381256f6a2701a48fcfa4d49b19f3bfbde8", func := "loop.example/g00843/laws.FnExactQuietCpus", spec := "fnExactQuietCpus", apart := false, narrowed := true }
def FnExactQuietCpusUptoSaid : Prop := fnExactQuietCpusUptoRow.holds Try.pinned (OpenSpec.upto fnExactQuietCpusSpec)

/-- 'laws.FnExactSendMail', WHERE WHAT IT READS IS OF BULK AT MOST 1048576: true; the input reads as it did. -/
def fnExactSendMailUptoRow : OpenClaim := { program := "ytlfbhpjdfdddcaa", sum := "20ade91154402cc8fd8a3c411e2d3381256f6a2701a48fcfa4d49b19f3bfbde8", func := "loop.example/g00843/laws.FnExactSendMail", spec := "fnExactSendMail", apart := false, narrowed := true }
def FnExactSendMailUptoSaid : Prop := fnExactSendMailUptoRow.holds Try.pinned (OpenSpec.upto fnExactSendMailSpec)

/-- 'laws.FnExactMailFor', WHERE WHAT IT READS IS OF BULK AT MOST 1048576: true; the input reads as it did. -/
def fnExactMailForUptoRow : OpenClaim := { program := "ytlfbhpjdfdddcaa", sum := "20ade91154402cc8fd8a3c411e2d3381256f6a2701a48fcfa4d49b19f3bfbde8", func := "loop.example/g00843/laws.FnExactMailFor", spec := "fnExactMailFor", apart := false, narrowed := true }
def FnExactMailForUptoSaid : Prop := fnExactMailForUptoRow.holds Try.pinned (OpenSpec.upto fnExactMailForSpec)

/-- 'laws.FnExactOfflineCpu', WHERE WHAT IT READS IS OF BULK AT MOST 1048576: true; the input reads as it did. -/
def fnExactOfflineCpuUptoRow : OpenClaim := { program := "ytlfbhpjdfdddcaa", sum := "20ade91154402cc8fd8a3c411e2d3381256f6a2701a48fcfa4d49b19f3bfbde8", func := "loop.example/g00843/laws.FnExactOfflineCpu", spec := "fnExactOfflineCpu", unfollowed := true, recurses := true, apart := false, narrowed := true }
def FnExactOfflineCpuUptoSaid : Prop := fnExactOfflineCpuUptoRow.holds Try.pinned (OpenSpec.upto fnExactOfflineCpuSpec)

/-- 'laws.FnExactSendToSet', WHERE WHAT IT READS IS OF BULK AT MOST 1048576: true; the input reads as it did. -/
def fnExactSendToSetUptoRow : OpenClaim := { program := "ytlfbhpjdfdddcaa", sum := "20ade91154402cc8fd8a3c411e2d3381256f6a2701a48fcfa4d49b19f3bfbde8", func := "loop.example/g00843/laws.FnExactSendToSet", spec := "fnExactSendToSet", apart := false, narrowed := true }
def FnExactSendToSetUptoSaid : Prop := fnExactSendToSetUptoRow.holds Try.pinned (OpenSpec.upto fnExactSendToSetSpec)

/-- 'laws.FnExactSendToOthers', WHERE WHAT IT READS IS OF BULK AT MOST 1048576: true; the input reads as it did. -/
def fnExactSendToOthersUptoRow : OpenClaim := { program := "ytlfbhpjdfdddcaa", sum := "20ade91154402cc8fd8a3c411e2d3381256f6a2701a48fcfa4d49b19f3bfbde8", func := "loop.example/g00843/laws.FnExactSendToOthers", spec := "fnExactSendToOthers", apart := false, narrowed := true }
def FnExactSendToOthersUptoSaid : Prop := fnExactSendToOthersUptoRow.holds Try.pinned (OpenSpec.upto fnExactSendToOthersSpec)

/-- 'laws.FnExactTakeMail', WHERE WHAT IT READS IS OF BULK AT MOST 1048576: true; the input reads as it did. -/
def fnExactTakeMailUptoRow : OpenClaim := { program := "ytlfbhpjdfdddcaa", sum := "20ade91154402cc8fd8a3c411e2d3381256f6a2701a48fcfa4d49b19f3bfbde8", func := "loop.example/g00843/laws.FnExactTakeMail", spec := "fnExactTakeMail", apart := false, narrowed := true }
def FnExactTakeMailUptoSaid : Prop := fnExactTakeMailUptoRow.holds Try.pinned (OpenSpec.upto fnExactTakeMailSpec)

/-- 'laws.FnExactDeliverAll', WHERE WHAT IT READS IS OF BULK AT MOST 1048576: true; the input reads as it did. -/
def fnExactDeliverAllUptoRow : OpenClaim := { program := "ytlfbhpjdfdddcaa", sum := "20ade91154402cc8fd8a3c411e2d3381256f6a2701a48fcfa4d49b19f3bfbde8", func := "loop.example/g00843/laws.FnExactDeliverAll", spec := "fnExactDeliverAll", apart := false, narrowed := true }
def FnExactDeliverAllUptoSaid : Prop := fnExactDeliverAllUptoRow.holds Try.pinned (OpenSpec.upto fnExactDeliverAllSpec)

/-- 'laws.FnMail', WHERE WHAT IT READS IS OF BULK AT MOST 1048576: true; the input reads as it did. -/
def fnMailUptoRow : OpenClaim := { program := "ytlfbhpjdfdddcaa", sum := "20ade91154402cc8fd8a3c411e2d3381256f6a2701a48fcfa4d49b19f3bfbde8", func := "loop.example/g00843/laws.FnMail", spec := "fnMail", apart := false, narrowed := true }
def FnMailUptoSaid : Prop := fnMailUptoRow.holds Try.pinned (OpenSpec.upto fnMailSpec)

/-- 'laws.FnMailboxes', WHERE WHAT IT READS IS OF BULK AT MOST 1048576: true; the input reads as it did. -/
def fnMailboxesUptoRow : OpenClaim := { program := "ytlfbhpjdfdddcaa", sum := "20ade91154402cc8fd8a3c411e2d3381256f6a2701a48fcfa4d49b19f3bfbde8", func := "loop.example/g00843/laws.FnMailboxes", spec := "fnMailboxes", unfollowed := true, recurses := true, apart := false, narrowed := true }
def FnMailboxesUptoSaid : Prop := fnMailboxesUptoRow.holds Try.pinned (OpenSpec.upto fnMailboxesSpec)

end Rows
end Go.Proofs.Ytlfbhpjdfdddcaa
