/-
  No cell of these rows narrows 'for every input' (looked for: loops, veiled, ifaces, maps, wideKeys, modest, calm, conditions, laid).
  DERIVED. THE GIVEN ROWS OF THIS SEAT. 12 by the template 'for every input the law returns true; each argument reads behind the call as it read before'; 0 by the template 'total and deterministic' (their statements: YtinbacenkbfifaaTotals.lean).
  GIVEN WITH THE SEED: the statements are not yours to turn. If you find one false, say at which input.
  Laid BY PROGRAM, IN A SANDBOX (cutbox-rows.mjs): the forced cells as the released guide's own fill.sh prints them over the translation a6b290a8e3acc6cf… (all of the seat's roots in one cut). By AI agents, Wed Nov 11 2026. No macro, syntax, notation, axiom, sorry.
-/
import Derived.Test.YtinbacenkbfifaaChecked
import GoSem.Claim
import GoSem.ClaimJoined
import GoSem.ClaimMapViews
import Derived.JoinedTies
import Derived.KernelRfl
namespace Go.Proofs.Ytinbacenkbfifaa
/- THE CELL 'sum', in the pinned program and in every row, IS THE sha256 OF THE DUMP (.gsa) THAT YtinbacenkbfifaaProg.lean LOADS. Nothing in Lean hashes anything: it is a label: what it is worth is what the hold of that sum in a sandbox is worth. -/
noncomputable def Try.pinned : Pinned := { name := "ytinbacenkbfifaa", sum := "a6b290a8e3acc6cf534f76c8ff7212d3a5e1ca864f697998586110f3626ca2d9", checked := Try.checked }
namespace Rows
def none {H : Type} : Left H := { results := [], args := [] }

/-- 'laws.FnExactIsCounter': WHATEVER THE INPUT: true; the input reads as it did. -/
def fnExactIsCounterSpec : ChangeSpec := { name := "fnExactIsCounter", fn := fun _ => fun
  | [d] => { results := [.lit (.bool true)], args := [d] }
  | _ => none }
def fnExactIsCounterRow : OpenClaim := { program := "ytinbacenkbfifaa", sum := "a6b290a8e3acc6cf534f76c8ff7212d3a5e1ca864f697998586110f3626ca2d9", func := "loop.example/g00843/laws.FnExactIsCounter", spec := "fnExactIsCounter", apart := false }
def FnExactIsCounterSaid : Prop := fnExactIsCounterRow.holds Try.pinned (OpenSpec.ofChange fnExactIsCounterSpec)

/-- ITS FALSE NEIGHBOUR: 'it returns false'. Refute it at one input. -/
def fnExactIsCounterWrong : ChangeSpec := { name := "fnExactIsCounter", fn := fun _ => fun
  | [d] => { results := [.lit (.bool false)], args := [d] }
  | _ => none }
def FnExactIsCounterWrongFalsely : Prop := fnExactIsCounterRow.holds Try.pinned (OpenSpec.ofChange fnExactIsCounterWrong)

/-- 'laws.FnExactStepsToIrq': WHATEVER THE INPUT: true; the input reads as it did. -/
def fnExactStepsToIrqSpec : ChangeSpec := { name := "fnExactStepsToIrq", fn := fun _ => fun
  | [d] => { results := [.lit (.bool true)], args := [d] }
  | _ => none }
def fnExactStepsToIrqRow : OpenClaim := { program := "ytinbacenkbfifaa", sum := "a6b290a8e3acc6cf534f76c8ff7212d3a5e1ca864f697998586110f3626ca2d9", func := "loop.example/g00843/laws.FnExactStepsToIrq", spec := "fnExactStepsToIrq", apart := false }
def FnExactStepsToIrqSaid : Prop := fnExactStepsToIrqRow.holds Try.pinned (OpenSpec.ofChange fnExactStepsToIrqSpec)

/-- ITS FALSE NEIGHBOUR: 'it returns false'. Refute it at one input. -/
def fnExactStepsToIrqWrong : ChangeSpec := { name := "fnExactStepsToIrq", fn := fun _ => fun
  | [d] => { results := [.lit (.bool false)], args := [d] }
  | _ => none }
def FnExactStepsToIrqWrongFalsely : Prop := fnExactStepsToIrqRow.holds Try.pinned (OpenSpec.ofChange fnExactStepsToIrqWrong)

/-- 'laws.FnExactClearCounter': WHATEVER THE INPUT: true; the input reads as it did. -/
def fnExactClearCounterSpec : ChangeSpec := { name := "fnExactClearCounter", fn := fun _ => fun
  | [d] => { results := [.lit (.bool true)], args := [d] }
  | _ => none }
def fnExactClearCounterRow : OpenClaim := { program := "ytinbacenkbfifaa", sum := "a6b290a8e3acc6cf534f76c8ff7212d3a5e1ca864f697998586110f3626ca2d9", func := "loop.example/g00843/laws.FnExactClearCounter", spec := "fnExactClearCounter", apart := false }
def FnExactClearCounterSaid : Prop := fnExactClearCounterRow.holds Try.pinned (OpenSpec.ofChange fnExactClearCounterSpec)

/-- ITS FALSE NEIGHBOUR: 'it returns false'. Refute it at one input. -/
def fnExactClearCounterWrong : ChangeSpec := { name := "fnExactClearCounter", fn := fun _ => fun
  | [d] => { results := [.lit (.bool false)], args := [d] }
  | _ => none }
def FnExactClearCounterWrongFalsely : Prop := fnExactClearCounterRow.holds Try.pinned (OpenSpec.ofChange fnExactClearCounterWrong)

/-- 'laws.FnExactCountSteps': WHATEVER THE INPUT: true; the input reads as it did. -/
def fnExactCountStepsSpec : ChangeSpec := { name := "fnExactCountSteps", fn := fun _ => fun
  | [d1, d2] => { results := [.lit (.bool true)], args := [d1, d2] }
  | _ => none }
def fnExactCountStepsRow : OpenClaim := { program := "ytinbacenkbfifaa", sum := "a6b290a8e3acc6cf534f76c8ff7212d3a5e1ca864f697998586110f3626ca2d9", func := "loop.example/g00843/laws.FnExactCountSteps", spec := "fnExactCountSteps", apart := false }
def FnExactCountStepsSaid : Prop := fnExactCountStepsRow.holds Try.pinned (OpenSpec.ofChange fnExactCountStepsSpec)

/-- ITS FALSE NEIGHBOUR: 'it returns false'. Refute it at one input. -/
def fnExactCountStepsWrong : ChangeSpec := { name := "fnExactCountSteps", fn := fun _ => fun
  | [d1, d2] => { results := [.lit (.bool false)], args := [d1, d2] }
  | _ => none }
def FnExactCountStepsWrongFalsely : Prop := fnExactCountStepsRow.holds Try.pinned (OpenSpec.ofChange fnExactCountStepsWrong)

/-- 'laws.FnExactIsPort': WHATEVER THE INPUT: true; the input reads as it did. -/
def fnExactIsPortSpec : ChangeSpec := { name := "fnExactIsPort", fn := fun _ => fun
  | [d] => { results := [.lit (.bool true)], args := [d] }
  | _ => none }
def fnExactIsPortRow : OpenClaim := { program := "ytinbacenkbfifaa", sum := "a6b290a8e3acc6cf534f76c8ff7212d3a5e1ca864f697998586110f3626ca2d9", func := "loop.example/g00843/laws.FnExactIsPort", spec := "fnExactIsPort", unfollowed := true, recurses := true, apart := false }
def FnExactIsPortSaid : Prop := fnExactIsPortRow.holds Try.pinned (OpenSpec.ofChange fnExactIsPortSpec)

/-- ITS FALSE NEIGHBOUR: 'it returns false'. Refute it at one input. -/
def fnExactIsPortWrong : ChangeSpec := { name := "fnExactIsPort", fn := fun _ => fun
  | [d] => { results := [.lit (.bool false)], args := [d] }
  | _ => none }
def FnExactIsPortWrongFalsely : Prop := fnExactIsPortRow.holds Try.pinned (OpenSpec.ofChange fnExactIsPortWrong)

/-- 'laws.FnCounters': WHATEVER THE INPUT: true; the input reads as it did. -/
def fnCountersSpec : ChangeSpec := { name := "fnCounters", fn := fun _ => fun
  | [d] => { results := [.lit (.bool true)], args := [d] }
  | _ => none }
def fnCountersRow : OpenClaim := { program := "ytinbacenkbfifaa", sum := "a6b290a8e3acc6cf534f76c8ff7212d3a5e1ca864f697998586110f3626ca2d9", func := "loop.example/g00843/laws.FnCounters", spec := "fnCounters", apart := false }
def FnCountersSaid : Prop := fnCountersRow.holds Try.pinned (OpenSpec.ofChange fnCountersSpec)

/-- ITS FALSE NEIGHBOUR: 'it returns false'. Refute it at one input. -/
def fnCountersWrong : ChangeSpec := { name := "fnCounters", fn := fun _ => fun
  | [d] => { results := [.lit (.bool false)], args := [d] }
  | _ => none }
def FnCountersWrongFalsely : Prop := fnCountersRow.holds Try.pinned (OpenSpec.ofChange fnCountersWrong)

/-- 'laws.FnExactReadPort': WHATEVER THE INPUT: true; the input reads as it did. -/
def fnExactReadPortSpec : ChangeSpec := { name := "fnExactReadPort", fn := fun _ => fun
  | [d] => { results := [.lit (.bool true)], args := [d] }
  | _ => none }
def fnExactReadPortRow : OpenClaim := { program := "ytinbacenkbfifaa", sum := "a6b290a8e3acc6cf534f76c8ff7212d3a5e1ca864f697998586110f3626ca2d9", func := "loop.example/g00843/laws.FnExactReadPort", spec := "fnExactReadPort", unfollowed := true, recurses := true, apart := false }
def FnExactReadPortSaid : Prop := fnExactReadPortRow.holds Try.pinned (OpenSpec.ofChange fnExactReadPortSpec)

/-- ITS FALSE NEIGHBOUR: 'it returns false'. Refute it at one input. -/
def fnExactReadPortWrong : ChangeSpec := { name := "fnExactReadPort", fn := fun _ => fun
  | [d] => { results := [.lit (.bool false)], args := [d] }
  | _ => none }
def FnExactReadPortWrongFalsely : Prop := fnExactReadPortRow.holds Try.pinned (OpenSpec.ofChange fnExactReadPortWrong)

/-- 'laws.FnExactReceiveByte': WHATEVER THE INPUT: true; the input reads as it did. -/
def fnExactReceiveByteSpec : ChangeSpec := { name := "fnExactReceiveByte", fn := fun _ => fun
  | [d1, d2] => { results := [.lit (.bool true)], args := [d1, d2] }
  | _ => none }
def fnExactReceiveByteRow : OpenClaim := { program := "ytinbacenkbfifaa", sum := "a6b290a8e3acc6cf534f76c8ff7212d3a5e1ca864f697998586110f3626ca2d9", func := "loop.example/g00843/laws.FnExactReceiveByte", spec := "fnExactReceiveByte", unfollowed := true, recurses := true, apart := false }
def FnExactReceiveByteSaid : Prop := fnExactReceiveByteRow.holds Try.pinned (OpenSpec.ofChange fnExactReceiveByteSpec)

/-- ITS FALSE NEIGHBOUR: 'it returns false'. Refute it at one input. -/
def fnExactReceiveByteWrong : ChangeSpec := { name := "fnExactReceiveByte", fn := fun _ => fun
  | [d1, d2] => { results := [.lit (.bool false)], args := [d1, d2] }
  | _ => none }
def FnExactReceiveByteWrongFalsely : Prop := fnExactReceiveByteRow.holds Try.pinned (OpenSpec.ofChange fnExactReceiveByteWrong)

/-- 'laws.FnExactWritePort': WHATEVER THE INPUT: true; the input reads as it did. -/
def fnExactWritePortSpec : ChangeSpec := { name := "fnExactWritePort", fn := fun _ => fun
  | [d1, d2] => { results := [.lit (.bool true)], args := [d1, d2] }
  | _ => none }
def fnExactWritePortRow : OpenClaim := { program := "ytinbacenkbfifaa", sum := "a6b290a8e3acc6cf534f76c8ff7212d3a5e1ca864f697998586110f3626ca2d9", func := "loop.example/g00843/laws.FnExactWritePort", spec := "fnExactWritePort", unfollowed := true, recurses := true, apart := false }
def FnExactWritePortSaid : Prop := fnExactWritePortRow.holds Try.pinned (OpenSpec.ofChange fnExactWritePortSpec)

/-- ITS FALSE NEIGHBOUR: 'it returns false'. Refute it at one input. -/
def fnExactWritePortWrong : ChangeSpec := { name := "fnExactWritePort", fn := fun _ => fun
  | [d1, d2] => { results := [.lit (.bool false)], args := [d1, d2] }
  | _ => none }
def FnExactWritePortWrongFalsely : Prop := fnExactWritePortRow.holds Try.pinned (OpenSpec.ofChange fnExactWritePortWrong)

/-- 'laws.FnExactSendBytes': WHATEVER THE INPUT: true; the input reads as it did. -/
def fnExactSendBytesSpec : ChangeSpec := { name := "fnExactSendBytes", fn := fun _ => fun
  | [d1, d2] => { results := [.lit (.bool true)], args := [d1, d2] }
  | _ => none }
def fnExactSendBytesRow : OpenClaim := { program := "ytinbacenkbfifaa", sum := "a6b290a8e3acc6cf534f76c8ff7212d3a5e1ca864f697998586110f3626ca2d9", func := "loop.example/g00843/laws.FnExactSendBytes", spec := "fnExactSendBytes", unfollowed := true, recurses := true, apart := false }
def FnExactSendBytesSaid : Prop := fnExactSendBytesRow.holds Try.pinned (OpenSpec.ofChange fnExactSendBytesSpec)

/-- ITS FALSE NEIGHBOUR: 'it returns false'. Refute it at one input. -/
def fnExactSendBytesWrong : ChangeSpec := { name := "fnExactSendBytes", fn := fun _ => fun
  | [d1, d2] => { results := [.lit (.bool false)], args := [d1, d2] }
  | _ => none }
def FnExactSendBytesWrongFalsely : Prop := fnExactSendBytesRow.holds Try.pinned (OpenSpec.ofChange fnExactSendBytesWrong)

/-- 'laws.FnExactLoopPorts': WHATEVER THE INPUT: true; the input reads as it did. -/
def fnExactLoopPortsSpec : ChangeSpec := { name := "fnExactLoopPorts", fn := fun _ => fun
  | [d1, d2] => { results := [.lit (.bool true)], args := [d1, d2] }
  | _ => none }
def fnExactLoopPortsRow : OpenClaim := { program := "ytinbacenkbfifaa", sum := "a6b290a8e3acc6cf534f76c8ff7212d3a5e1ca864f697998586110f3626ca2d9", func := "loop.example/g00843/laws.FnExactLoopPorts", spec := "fnExactLoopPorts", unfollowed := true, recurses := true, apart := false }
def FnExactLoopPortsSaid : Prop := fnExactLoopPortsRow.holds Try.pinned (OpenSpec.ofChange fnExactLoopPortsSpec)

/-- ITS FALSE NEIGHBOUR: 'it returns false'. Refute it at one input. -/
def fnExactLoopPortsWrong : ChangeSpec := { name := "fnExactLoopPorts", fn := fun _ => fun
  | [d1, d2] => { results := [.lit (.bool false)], args := [d1, d2] }
  | _ => none }
def FnExactLoopPortsWrongFalsely : Prop := fnExactLoopPortsRow.holds Try.pinned (OpenSpec.ofChange fnExactLoopPortsWrong)

/-- 'laws.FnPorts': WHATEVER THE INPUT: true; the input reads as it did. -/
def fnPortsSpec : ChangeSpec := { name := "fnPorts", fn := fun _ => fun
  | [d] => { results := [.lit (.bool true)], args := [d] }
  | _ => none }
def fnPortsRow : OpenClaim := { program := "ytinbacenkbfifaa", sum := "a6b290a8e3acc6cf534f76c8ff7212d3a5e1ca864f697998586110f3626ca2d9", func := "loop.example/g00843/laws.FnPorts", spec := "fnPorts", unfollowed := true, recurses := true, apart := false }
def FnPortsSaid : Prop := fnPortsRow.holds Try.pinned (OpenSpec.ofChange fnPortsSpec)

/-- ITS FALSE NEIGHBOUR: 'it returns false'. Refute it at one input. -/
def fnPortsWrong : ChangeSpec := { name := "fnPorts", fn := fun _ => fun
  | [d] => { results := [.lit (.bool false)], args := [d] }
  | _ => none }
def FnPortsWrongFalsely : Prop := fnPortsRow.holds Try.pinned (OpenSpec.ofChange fnPortsWrong)

/- THE SECOND FORM. 'bulk': how many values and letters a reading holds, each counted each time it is reached (what is shared counts as often as it is met; a slice's spare places count too). A statement '..UptoSaid' is the law's where the arguments, and the package variables that the reading takes, are together of bulk at most 1048576: NARROWER than '..Said'. Prove '..Said' where nothing that the law and all that it calls make is longer than what came in: it says more and counts as full. Else prove '..UptoSaid'. A law counts once. -/
mutual
def uptoBulk {H : Type} : DataW H → Nat
  | .lit (.string bytes) => bytes.length + 1
  | .lit _ => 1
  | .nil => 1
  | .ptr d => uptoBulk d + 1
  | .slice elems spare => uptoBulkAll elems + uptoBulkAll spare + 1
  | .agg parts => uptoBulkAll parts + 1
  | .iface _ d => uptoBulk d + 1
  | .map entries => uptoBulkEntries entries + 1
  | .held _ => 1
def uptoBulkAll {H : Type} : List (DataW H) → Nat
  | [] => 0
  | d :: r => uptoBulk d + uptoBulkAll r
def uptoBulkEntries {H : Type} : List (Lit × DataW H) → Nat
  | [] => 0
  | x :: r => uptoBulkEntry x + uptoBulkEntries r
def uptoBulkEntry {H : Type} : Lit × DataW H → Nat
  | (.string bytes, d) => bytes.length + uptoBulk d + 1
  | (_, d) => uptoBulk d + 1
 end
def uptoSmall : (H : Type) → List (DataW H) → Bool := fun _ ds => decide (uptoBulkAll ds ≤ 1048576)
def OpenSpec.upto (s : _root_.Go.ChangeSpec) : _root_.Go.OpenSpec := { _root_.Go.OpenSpec.ofChange s with cond := some uptoSmall }

/-- 'laws.FnExactIsCounter', WHERE WHAT IT READS IS OF BULK AT MOST 1048576: true; the input reads as it did. -/
def fnExactIsCounterUptoRow : OpenClaim := { program := "ytinbacenkbfifaa", sum := "a6b290a8e3acc6cf534f76c8ff7212d3a5e1ca864f697998586110f3626ca2d9", func := "loop.example/g00843/laws.FnExactIsCounter", spec := "fnExactIsCounter", apart := false, narrowed := true }
def FnExactIsCounterUptoSaid : Prop := fnExactIsCounterUptoRow.holds Try.pinned (OpenSpec.upto fnExactIsCounterSpec)

/-- 'laws.FnExactStepsToIrq', WHERE WHAT IT READS IS OF BULK AT MOST 1048576: true; the input reads as it did. -/
def fnExactStepsToIrqUptoRow : OpenClaim := { program := "ytinbacenkbfifaa", sum := "a6b290a8e3acc6cf534f76c8ff7212d3a5e1ca864f697998586110f3626ca2d9", func := "loop.example/g00843/laws.FnExactStepsToIrq", spec := "fnExactStepsToIrq", apart := false, narrowed := true }
def FnExactStepsToIrqUptoSaid : Prop := fnExactStepsToIrqUptoRow.holds Try.pinned (OpenSpec.upto fnExactStepsToIrqSpec)

/-- 'laws.FnExactClearCounter', WHERE WHAT IT READS IS OF BULK AT MOST 1048576: true; the input reads as it did. -/
def fnExactClearCounterUptoRow : OpenClaim := { program := "ytinbacenkbfifaa", sum := "a6b290a8e3acc6cf534f76c8ff7212d3a5e1ca864f697998586110f3626ca2d9", func := "loop.example/g00843/laws.FnExactClearCounter", spec := "fnExactClearCounter", apart := false, narrowed := true }
def FnExactClearCounterUptoSaid : Prop := fnExactClearCounterUptoRow.holds Try.pinned (OpenSpec.upto fnExactClearCounterSpec)

/-- 'laws.FnExactCountSteps', WHERE WHAT IT READS IS OF BULK AT MOST 1048576: true; the input reads as it did. -/
def fnExactCountStepsUptoRow : OpenClaim := { program := "ytinbacenkbfifaa", sum := "a6b290a8e3acc6cf534f76c8ff7212d3a5e1ca864f697998586110f3626ca2d9", func := "loop.example/g00843/laws.FnExactCountSteps", spec := "fnExactCountSteps", apart := false, narrowed := true }
def FnExactCountStepsUptoSaid : Prop := fnExactCountStepsUptoRow.holds Try.pinned (OpenSpec.upto fnExactCountStepsSpec)

/-- 'laws.FnExactIsPort', WHERE WHAT IT READS IS OF BULK AT MOST 1048576: true; the input reads as it did. -/
def fnExactIsPortUptoRow : OpenClaim := { program := "ytinbacenkbfifaa", sum := "a6b290a8e3acc6cf534f76c8ff7212d3a5e1ca864f697998586110f3626ca2d9", func := "loop.example/g00843/laws.FnExactIsPort", spec := "fnExactIsPort", unfollowed := true, recurses := true, apart := false, narrowed := true }
def FnExactIsPortUptoSaid : Prop := fnExactIsPortUptoRow.holds Try.pinned (OpenSpec.upto fnExactIsPortSpec)

/-- 'laws.FnCounters', WHERE WHAT IT READS IS OF BULK AT MOST 1048576: true; the input reads as it did. -/
def fnCountersUptoRow : OpenClaim := { program := "ytinbacenkbfifaa", sum := "a6b290a8e3acc6cf534f76c8ff7212d3a5e1ca864f697998586110f3626ca2d9", func := "loop.example/g00843/laws.FnCounters", spec := "fnCounters", apart := false, narrowed := true }
def FnCountersUptoSaid : Prop := fnCountersUptoRow.holds Try.pinned (OpenSpec.upto fnCountersSpec)

/-- 'laws.FnExactReadPort', WHERE WHAT IT READS IS OF BULK AT MOST 1048576: true; the input reads as it did. -/
def fnExactReadPortUptoRow : OpenClaim := { program := "ytinbacenkbfifaa", sum := "a6b290a8e3acc6cf534f76c8ff7212d3a5e1ca864f697998586110f3626ca2d9", func := "loop.example/g00843/laws.FnExactReadPort", spec := "fnExactReadPort", unfollowed := true, recurses := true, apart := false, narrowed := true }
def FnExactReadPortUptoSaid : Prop := fnExactReadPortUptoRow.holds Try.pinned (OpenSpec.upto fnExactReadPortSpec)

/-- 'laws.FnExactReceiveByte', WHERE WHAT IT READS IS OF BULK AT MOST 1048576: true; the input reads as it did. -/
def fnExactReceiveByteUptoRow : OpenClaim := { program := "ytinbacenkbfifaa", sum := "a6b290a8e3acc6cf534f76c8ff7212d3a5e1ca864f697998586110f3626ca2d9", func := "loop.example/g00843/laws.FnExactReceiveByte", spec := "fnExactReceiveByte", unfollowed := true, recurses := true, apart := false, narrowed := true }
def FnExactReceiveByteUptoSaid : Prop := fnExactReceiveByteUptoRow.holds Try.pinned (OpenSpec.upto fnExactReceiveByteSpec)

/-- 'laws.FnExactWritePort', WHERE WHAT IT READS IS OF BULK AT MOST 1048576: true; the input reads as it did. -/
def fnExactWritePortUptoRow : OpenClaim := { program := "ytinbacenkbfifaa", sum := "a6b290a8e3acc6cf534f76c8ff7212d3a5e1ca864f697998586110f3626ca2d9", func := "loop.example/g00843/laws.FnExactWritePort", spec := "fnExactWritePort", unfollowed := true, recurses := true, apart := false, narrowed := true }
def FnExactWritePortUptoSaid : Prop := fnExactWritePortUptoRow.holds Try.pinned (OpenSpec.upto fnExactWritePortSpec)

/-- 'laws.FnExactSendBytes', WHERE WHAT IT READS IS OF BULK AT MOST 1048576: true; the input reads as it did. -/
def fnExactSendBytesUptoRow : OpenClaim := { program := "ytinbacenkbfifaa", sum := "a6b290a8e3acc6cf534f76c8ff7212d3a5e1ca864f697998586110f3626ca2d9", func := "loop.example/g00843/laws.FnExactSendBytes", spec := "fnExactSendBytes", unfollowed := true, recurses := true, apart := false, narrowed := true }
def FnExactSendBytesUptoSaid : Prop := fnExactSendBytesUptoRow.holds Try.pinned (OpenSpec.upto fnExactSendBytesSpec)

/-- 'laws.FnExactLoopPorts', WHERE WHAT IT READS IS OF BULK AT MOST 1048576: true; the input reads as it did. -/
def fnExactLoopPortsUptoRow : OpenClaim := { program := "ytinbacenkbfifaa", sum := "a6b290a8e3acc6cf534f76c8ff7212d3a5e1ca864f697998586110f3626ca2d9", func := "loop.example/g00843/laws.FnExactLoopPorts", spec := "fnExactLoopPorts", unfollowed := true, recurses := true, apart := false, narrowed := true }
def FnExactLoopPortsUptoSaid : Prop := fnExactLoopPortsUptoRow.holds Try.pinned (OpenSpec.upto fnExactLoopPortsSpec)

/-- 'laws.FnPorts', WHERE WHAT IT READS IS OF BULK AT MOST 1048576: true; the input reads as it did. -/
def fnPortsUptoRow : OpenClaim := { program := "ytinbacenkbfifaa", sum := "a6b290a8e3acc6cf534f76c8ff7212d3a5e1ca864f697998586110f3626ca2d9", func := "loop.example/g00843/laws.FnPorts", spec := "fnPorts", unfollowed := true, recurses := true, apart := false, narrowed := true }
def FnPortsUptoSaid : Prop := fnPortsUptoRow.holds Try.pinned (OpenSpec.upto fnPortsSpec)

end Rows
end Go.Proofs.Ytinbacenkbfifaa
