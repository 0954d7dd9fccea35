/-
  No cell of these rows narrows 'for every input' (looked for: loops, veiled, ifaces, maps, wideKeys, modest, calm, conditions, laid).
  DERIVED. THE GIVEN ROWS OF THIS SEAT. 15 by the template 'for every input the law returns true; each argument reads behind the call as it read before'; 0 by the template 'total and deterministic' (their statements: YtkgnhpilpmbheaaTotals.lean).
  GIVEN WITH THE SEED: the statements are not yours to turn. If you find one false, say at which input.
  Laid BY PROGRAM, IN A SANDBOX (cutbox-rows.mjs): the forced cells as the released guide's own fill.sh prints them over the translation f5e062100572fb4f… (all of the seat's roots in one cut). By AI agents, Wed Nov 11 2026. No macro, syntax, notation, axiom, sorry.
-/
import Derived.Test.YtkgnhpilpmbheaaChecked
import GoSem.Claim
import GoSem.ClaimJoined
import GoSem.ClaimMapViews
import Derived.JoinedTies
import Derived.KernelRfl
namespace Go.Proofs.Ytkgnhpilpmbheaa
/- THE CELL 'sum', in the pinned program and in every row, IS THE sha256 OF THE DUMP (.gsa) THAT YtkgnhpilpmbheaaProg.lean LOADS. Nothing in Lean hashes anything: it is a label: what it is worth is what the hold of that sum in a sandbox is worth. -/
noncomputable def Try.pinned : Pinned := { name := "ytkgnhpilpmbheaa", sum := "f5e062100572fb4fa5dd48ea5351ccb47237dfbc4f90175c43017fc614b9177b", checked := Try.checked }
namespace Rows
def none {H : Type} : Left H := { results := [], args := [] }

/-- 'laws.FnExactTickVcpus': WHATEVER THE INPUT: true; the input reads as it did. -/
def fnExactTickVcpusSpec : ChangeSpec := { name := "fnExactTickVcpus", fn := fun _ => fun
  | [d] => { results := [.lit (.bool true)], args := [d] }
  | _ => none }
def fnExactTickVcpusRow : OpenClaim := { program := "ytkgnhpilpmbheaa", sum := "f5e062100572fb4fa5dd48ea5351ccb47237dfbc4f90175c43017fc614b9177b", func := "loop.example/g00843/laws.FnExactTickVcpus", spec := "fnExactTickVcpus", unfollowed := true, recurses := true, apart := false }
def FnExactTickVcpusSaid : Prop := fnExactTickVcpusRow.holds Try.pinned (OpenSpec.ofChange fnExactTickVcpusSpec)

/-- ITS FALSE NEIGHBOUR: 'it returns false'. Refute it at one input. -/
def fnExactTickVcpusWrong : ChangeSpec := { name := "fnExactTickVcpus", fn := fun _ => fun
  | [d] => { results := [.lit (.bool false)], args := [d] }
  | _ => none }
def FnExactTickVcpusWrongFalsely : Prop := fnExactTickVcpusRow.holds Try.pinned (OpenSpec.ofChange fnExactTickVcpusWrong)

/-- 'laws.FnExactLongestWait': WHATEVER THE INPUT: true; the input reads as it did. -/
def fnExactLongestWaitSpec : ChangeSpec := { name := "fnExactLongestWait", fn := fun _ => fun
  | [d1, d2] => { results := [.lit (.bool true)], args := [d1, d2] }
  | _ => none }
def fnExactLongestWaitRow : OpenClaim := { program := "ytkgnhpilpmbheaa", sum := "f5e062100572fb4fa5dd48ea5351ccb47237dfbc4f90175c43017fc614b9177b", func := "loop.example/g00843/laws.FnExactLongestWait", spec := "fnExactLongestWait", unfollowed := true, recurses := true, apart := false }
def FnExactLongestWaitSaid : Prop := fnExactLongestWaitRow.holds Try.pinned (OpenSpec.ofChange fnExactLongestWaitSpec)

/-- ITS FALSE NEIGHBOUR: 'it returns false'. Refute it at one input. -/
def fnExactLongestWaitWrong : ChangeSpec := { name := "fnExactLongestWait", fn := fun _ => fun
  | [d1, d2] => { results := [.lit (.bool false)], args := [d1, d2] }
  | _ => none }
def FnExactLongestWaitWrongFalsely : Prop := fnExactLongestWaitRow.holds Try.pinned (OpenSpec.ofChange fnExactLongestWaitWrong)

/-- 'laws.FnExactTickShares': WHATEVER THE INPUT: true; the input reads as it did. -/
def fnExactTickSharesSpec : ChangeSpec := { name := "fnExactTickShares", fn := fun _ => fun
  | [d1, d2] => { results := [.lit (.bool true)], args := [d1, d2] }
  | _ => none }
def fnExactTickSharesRow : OpenClaim := { program := "ytkgnhpilpmbheaa", sum := "f5e062100572fb4fa5dd48ea5351ccb47237dfbc4f90175c43017fc614b9177b", func := "loop.example/g00843/laws.FnExactTickShares", spec := "fnExactTickShares", unfollowed := true, recurses := true, apart := false }
def FnExactTickSharesSaid : Prop := fnExactTickSharesRow.holds Try.pinned (OpenSpec.ofChange fnExactTickSharesSpec)

/-- ITS FALSE NEIGHBOUR: 'it returns false'. Refute it at one input. -/
def fnExactTickSharesWrong : ChangeSpec := { name := "fnExactTickShares", fn := fun _ => fun
  | [d1, d2] => { results := [.lit (.bool false)], args := [d1, d2] }
  | _ => none }
def FnExactTickSharesWrongFalsely : Prop := fnExactTickSharesRow.holds Try.pinned (OpenSpec.ofChange fnExactTickSharesWrong)

/-- 'laws.FnExactRunTicks': WHATEVER THE INPUT: true; the input reads as it did. -/
def fnExactRunTicksSpec : ChangeSpec := { name := "fnExactRunTicks", fn := fun _ => fun
  | [d1, d2] => { results := [.lit (.bool true)], args := [d1, d2] }
  | _ => none }
def fnExactRunTicksRow : OpenClaim := { program := "ytkgnhpilpmbheaa", sum := "f5e062100572fb4fa5dd48ea5351ccb47237dfbc4f90175c43017fc614b9177b", func := "loop.example/g00843/laws.FnExactRunTicks", spec := "fnExactRunTicks", unfollowed := true, recurses := true, apart := false }
def FnExactRunTicksSaid : Prop := fnExactRunTicksRow.holds Try.pinned (OpenSpec.ofChange fnExactRunTicksSpec)

/-- ITS FALSE NEIGHBOUR: 'it returns false'. Refute it at one input. -/
def fnExactRunTicksWrong : ChangeSpec := { name := "fnExactRunTicks", fn := fun _ => fun
  | [d1, d2] => { results := [.lit (.bool false)], args := [d1, d2] }
  | _ => none }
def FnExactRunTicksWrongFalsely : Prop := fnExactRunTicksRow.holds Try.pinned (OpenSpec.ofChange fnExactRunTicksWrong)

/-- 'laws.FnCredits': WHATEVER THE INPUT: true; the input reads as it did. -/
def fnCreditsSpec : ChangeSpec := { name := "fnCredits", fn := fun _ => fun
  | [d] => { results := [.lit (.bool true)], args := [d] }
  | _ => none }
def fnCreditsRow : OpenClaim := { program := "ytkgnhpilpmbheaa", sum := "f5e062100572fb4fa5dd48ea5351ccb47237dfbc4f90175c43017fc614b9177b", func := "loop.example/g00843/laws.FnCredits", spec := "fnCredits", unfollowed := true, recurses := true, apart := false }
def FnCreditsSaid : Prop := fnCreditsRow.holds Try.pinned (OpenSpec.ofChange fnCreditsSpec)

/-- ITS FALSE NEIGHBOUR: 'it returns false'. Refute it at one input. -/
def fnCreditsWrong : ChangeSpec := { name := "fnCredits", fn := fun _ => fun
  | [d] => { results := [.lit (.bool false)], args := [d] }
  | _ => none }
def FnCreditsWrongFalsely : Prop := fnCreditsRow.holds Try.pinned (OpenSpec.ofChange fnCreditsWrong)

/-- 'laws.FnShares': WHATEVER THE INPUT: true; the input reads as it did. -/
def fnSharesSpec : ChangeSpec := { name := "fnShares", fn := fun _ => fun
  | [d] => { results := [.lit (.bool true)], args := [d] }
  | _ => none }
def fnSharesRow : OpenClaim := { program := "ytkgnhpilpmbheaa", sum := "f5e062100572fb4fa5dd48ea5351ccb47237dfbc4f90175c43017fc614b9177b", func := "loop.example/g00843/laws.FnShares", spec := "fnShares", unfollowed := true, recurses := true, apart := false }
def FnSharesSaid : Prop := fnSharesRow.holds Try.pinned (OpenSpec.ofChange fnSharesSpec)

/-- ITS FALSE NEIGHBOUR: 'it returns false'. Refute it at one input. -/
def fnSharesWrong : ChangeSpec := { name := "fnShares", fn := fun _ => fun
  | [d] => { results := [.lit (.bool false)], args := [d] }
  | _ => none }
def FnSharesWrongFalsely : Prop := fnSharesRow.holds Try.pinned (OpenSpec.ofChange fnSharesWrong)

/-- 'laws.FnExactWakesOf': WHATEVER THE INPUT: true; the input reads as it did. -/
def fnExactWakesOfSpec : ChangeSpec := { name := "fnExactWakesOf", fn := fun _ => fun
  | [d1, d2, d3] => { results := [.lit (.bool true)], args := [d1, d2, d3] }
  | _ => none }
def fnExactWakesOfRow : OpenClaim := { program := "ytkgnhpilpmbheaa", sum := "f5e062100572fb4fa5dd48ea5351ccb47237dfbc4f90175c43017fc614b9177b", func := "loop.example/g00843/laws.FnExactWakesOf", spec := "fnExactWakesOf", unfollowed := true, recurses := true, apart := false }
def FnExactWakesOfSaid : Prop := fnExactWakesOfRow.holds Try.pinned (OpenSpec.ofChange fnExactWakesOfSpec)

/-- ITS FALSE NEIGHBOUR: 'it returns false'. Refute it at one input. -/
def fnExactWakesOfWrong : ChangeSpec := { name := "fnExactWakesOf", fn := fun _ => fun
  | [d1, d2, d3] => { results := [.lit (.bool false)], args := [d1, d2, d3] }
  | _ => none }
def FnExactWakesOfWrongFalsely : Prop := fnExactWakesOfRow.holds Try.pinned (OpenSpec.ofChange fnExactWakesOfWrong)

/-- 'laws.FnExactRunHall': WHATEVER THE INPUT: true; the input reads as it did. -/
def fnExactRunHallSpec : ChangeSpec := { name := "fnExactRunHall", fn := fun _ => fun
  | [d1, d2] => { results := [.lit (.bool true)], args := [d1, d2] }
  | _ => none }
def fnExactRunHallRow : OpenClaim := { program := "ytkgnhpilpmbheaa", sum := "f5e062100572fb4fa5dd48ea5351ccb47237dfbc4f90175c43017fc614b9177b", func := "loop.example/g00843/laws.FnExactRunHall", spec := "fnExactRunHall", unfollowed := true, recurses := true, apart := false }
def FnExactRunHallSaid : Prop := fnExactRunHallRow.holds Try.pinned (OpenSpec.ofChange fnExactRunHallSpec)

/-- ITS FALSE NEIGHBOUR: 'it returns false'. Refute it at one input. -/
def fnExactRunHallWrong : ChangeSpec := { name := "fnExactRunHall", fn := fun _ => fun
  | [d1, d2] => { results := [.lit (.bool false)], args := [d1, d2] }
  | _ => none }
def FnExactRunHallWrongFalsely : Prop := fnExactRunHallRow.holds Try.pinned (OpenSpec.ofChange fnExactRunHallWrong)

/-- 'laws.FnExactBlockedIds': WHATEVER THE INPUT: true; the input reads as it did. -/
def fnExactBlockedIdsSpec : ChangeSpec := { name := "fnExactBlockedIds", fn := fun _ => fun
  | [d] => { results := [.lit (.bool true)], args := [d] }
  | _ => none }
def fnExactBlockedIdsRow : OpenClaim := { program := "ytkgnhpilpmbheaa", sum := "f5e062100572fb4fa5dd48ea5351ccb47237dfbc4f90175c43017fc614b9177b", func := "loop.example/g00843/laws.FnExactBlockedIds", spec := "fnExactBlockedIds", unfollowed := true, recurses := true, apart := false }
def FnExactBlockedIdsSaid : Prop := fnExactBlockedIdsRow.holds Try.pinned (OpenSpec.ofChange fnExactBlockedIdsSpec)

/-- ITS FALSE NEIGHBOUR: 'it returns false'. Refute it at one input. -/
def fnExactBlockedIdsWrong : ChangeSpec := { name := "fnExactBlockedIds", fn := fun _ => fun
  | [d] => { results := [.lit (.bool false)], args := [d] }
  | _ => none }
def FnExactBlockedIdsWrongFalsely : Prop := fnExactBlockedIdsRow.holds Try.pinned (OpenSpec.ofChange fnExactBlockedIdsWrong)

/-- 'laws.FnExactEventIds': WHATEVER THE INPUT: true; the input reads as it did. -/
def fnExactEventIdsSpec : ChangeSpec := { name := "fnExactEventIds", fn := fun _ => fun
  | [d] => { results := [.lit (.bool true)], args := [d] }
  | _ => none }
def fnExactEventIdsRow : OpenClaim := { program := "ytkgnhpilpmbheaa", sum := "f5e062100572fb4fa5dd48ea5351ccb47237dfbc4f90175c43017fc614b9177b", func := "loop.example/g00843/laws.FnExactEventIds", spec := "fnExactEventIds", unfollowed := true, recurses := true, apart := false }
def FnExactEventIdsSaid : Prop := fnExactEventIdsRow.holds Try.pinned (OpenSpec.ofChange fnExactEventIdsSpec)

/-- ITS FALSE NEIGHBOUR: 'it returns false'. Refute it at one input. -/
def fnExactEventIdsWrong : ChangeSpec := { name := "fnExactEventIds", fn := fun _ => fun
  | [d] => { results := [.lit (.bool false)], args := [d] }
  | _ => none }
def FnExactEventIdsWrongFalsely : Prop := fnExactEventIdsRow.holds Try.pinned (OpenSpec.ofChange fnExactEventIdsWrong)

/-- 'laws.FnExactSignalVcpu': WHATEVER THE INPUT: true; the input reads as it did. -/
def fnExactSignalVcpuSpec : ChangeSpec := { name := "fnExactSignalVcpu", fn := fun _ => fun
  | [d1, d2] => { results := [.lit (.bool true)], args := [d1, d2] }
  | _ => none }
def fnExactSignalVcpuRow : OpenClaim := { program := "ytkgnhpilpmbheaa", sum := "f5e062100572fb4fa5dd48ea5351ccb47237dfbc4f90175c43017fc614b9177b", func := "loop.example/g00843/laws.FnExactSignalVcpu", spec := "fnExactSignalVcpu", unfollowed := true, recurses := true, apart := false }
def FnExactSignalVcpuSaid : Prop := fnExactSignalVcpuRow.holds Try.pinned (OpenSpec.ofChange fnExactSignalVcpuSpec)

/-- ITS FALSE NEIGHBOUR: 'it returns false'. Refute it at one input. -/
def fnExactSignalVcpuWrong : ChangeSpec := { name := "fnExactSignalVcpu", fn := fun _ => fun
  | [d1, d2] => { results := [.lit (.bool false)], args := [d1, d2] }
  | _ => none }
def FnExactSignalVcpuWrongFalsely : Prop := fnExactSignalVcpuRow.holds Try.pinned (OpenSpec.ofChange fnExactSignalVcpuWrong)

/-- 'laws.FnExactWaitVcpu': WHATEVER THE INPUT: true; the input reads as it did. -/
def fnExactWaitVcpuSpec : ChangeSpec := { name := "fnExactWaitVcpu", fn := fun _ => fun
  | [d1, d2] => { results := [.lit (.bool true)], args := [d1, d2] }
  | _ => none }
def fnExactWaitVcpuRow : OpenClaim := { program := "ytkgnhpilpmbheaa", sum := "f5e062100572fb4fa5dd48ea5351ccb47237dfbc4f90175c43017fc614b9177b", func := "loop.example/g00843/laws.FnExactWaitVcpu", spec := "fnExactWaitVcpu", unfollowed := true, recurses := true, apart := false }
def FnExactWaitVcpuSaid : Prop := fnExactWaitVcpuRow.holds Try.pinned (OpenSpec.ofChange fnExactWaitVcpuSpec)

/-- ITS FALSE NEIGHBOUR: 'it returns false'. Refute it at one input. -/
def fnExactWaitVcpuWrong : ChangeSpec := { name := "fnExactWaitVcpu", fn := fun _ => fun
  | [d1, d2] => { results := [.lit (.bool false)], args := [d1, d2] }
  | _ => none }
def FnExactWaitVcpuWrongFalsely : Prop := fnExactWaitVcpuRow.holds Try.pinned (OpenSpec.ofChange fnExactWaitVcpuWrong)

/-- 'laws.FnExactTickHall': WHATEVER THE INPUT: true; the input reads as it did. -/
def fnExactTickHallSpec : ChangeSpec := { name := "fnExactTickHall", fn := fun _ => fun
  | [d] => { results := [.lit (.bool true)], args := [d] }
  | _ => none }
def fnExactTickHallRow : OpenClaim := { program := "ytkgnhpilpmbheaa", sum := "f5e062100572fb4fa5dd48ea5351ccb47237dfbc4f90175c43017fc614b9177b", func := "loop.example/g00843/laws.FnExactTickHall", spec := "fnExactTickHall", unfollowed := true, recurses := true, apart := false }
def FnExactTickHallSaid : Prop := fnExactTickHallRow.holds Try.pinned (OpenSpec.ofChange fnExactTickHallSpec)

/-- ITS FALSE NEIGHBOUR: 'it returns false'. Refute it at one input. -/
def fnExactTickHallWrong : ChangeSpec := { name := "fnExactTickHall", fn := fun _ => fun
  | [d] => { results := [.lit (.bool false)], args := [d] }
  | _ => none }
def FnExactTickHallWrongFalsely : Prop := fnExactTickHallRow.holds Try.pinned (OpenSpec.ofChange fnExactTickHallWrong)

/-- 'laws.FnWakes': WHATEVER THE INPUT: true; the input reads as it did. -/
def fnWakesSpec : ChangeSpec := { name := "fnWakes", fn := fun _ => fun
  | [d] => { results := [.lit (.bool true)], args := [d] }
  | _ => none }
def fnWakesRow : OpenClaim := { program := "ytkgnhpilpmbheaa", sum := "f5e062100572fb4fa5dd48ea5351ccb47237dfbc4f90175c43017fc614b9177b", func := "loop.example/g00843/laws.FnWakes", spec := "fnWakes", unfollowed := true, recurses := true, apart := false }
def FnWakesSaid : Prop := fnWakesRow.holds Try.pinned (OpenSpec.ofChange fnWakesSpec)

/-- ITS FALSE NEIGHBOUR: 'it returns false'. Refute it at one input. -/
def fnWakesWrong : ChangeSpec := { name := "fnWakes", fn := fun _ => fun
  | [d] => { results := [.lit (.bool false)], args := [d] }
  | _ => none }
def FnWakesWrongFalsely : Prop := fnWakesRow.holds Try.pinned (OpenSpec.ofChange fnWakesWrong)

/-- 'laws.FnHalls': WHATEVER THE INPUT: true; the input reads as it did. -/
def fnHallsSpec : ChangeSpec := { name := "fnHalls", fn := fun _ => fun
  | [d] => { results := [.lit (.bool true)], args := [d] }
  | _ => none }
def fnHallsRow : OpenClaim := { program := "ytkgnhpilpmbheaa", sum := "f5e062100572fb4fa5dd48ea5351ccb47237dfbc4f90175c43017fc614b9177b", func := "loop.example/g00843/laws.FnHalls", spec := "fnHalls", unfollowed := true, recurses := true, apart := false }
def FnHallsSaid : Prop := fnHallsRow.holds Try.pinned (OpenSpec.ofChange fnHallsSpec)

/-- ITS FALSE NEIGHBOUR: 'it returns false'. Refute it at one input. -/
def fnHallsWrong : ChangeSpec := { name := "fnHalls", fn := fun _ => fun
  | [d] => { results := [.lit (.bool false)], args := [d] }
  | _ => none }
def FnHallsWrongFalsely : Prop := fnHallsRow.holds Try.pinned (OpenSpec.ofChange fnHallsWrong)

/- THE SECOND FORM. 'bulk': how many values and letters a reading holds, each counted each time it is reached (what is shared counts as often as it is met; a slice's spare places count too). A statement '..UptoSaid' is the law's where the arguments, and the package variables that the reading takes, are together of bulk at most 1048576: NARROWER than '..Said'. Prove '..Said' where nothing that the law and all that it calls make is longer than what came in: it says more and counts as full. Else prove '..UptoSaid'. A law counts once. -/
mutual
def uptoBulk {H : Type} : DataW H → Nat
  | .lit (.string bytes) => bytes.length + 1
  | .lit _ => 1
  | .nil => 1
  | .ptr d => uptoBulk d + 1
  | .slice elems spare => uptoBulkAll elems + uptoBulkAll spare + 1
  | .agg parts => uptoBulkAll parts + 1
  | .iface _ d => uptoBulk d + 1
  | .map entries => uptoBulkEntries entries + 1
  | .held _ => 1
def uptoBulkAll {H : Type} : List (DataW H) → Nat
  | [] => 0
  | d :: r => uptoBulk d + uptoBulkAll r
def uptoBulkEntries {H : Type} : List (Lit × DataW H) → Nat
  | [] => 0
  | x :: r => uptoBulkEntry x + uptoBulkEntries r
def uptoBulkEntry {H : Type} : Lit × DataW H → Nat
  | (.string bytes, d) => bytes.length + uptoBulk d + 1
  | (_, d) => uptoBulk d + 1
 end
def uptoSmall : (H : Type) → List (DataW H) → Bool := fun _ ds => decide (uptoBulkAll ds ≤ 1048576)
def OpenSpec.upto (s : _root_.Go.ChangeSpec) : _root_.Go.OpenSpec := { _root_.Go.OpenSpec.ofChange s with cond := some uptoSmall }

/-- 'laws.FnExactTickVcpus', WHERE WHAT IT READS IS OF BULK AT MOST 1048576: true; the input reads as it did. -/
def fnExactTickVcpusUptoRow : OpenClaim := { program := "ytkgnhpilpmbheaa", sum := "f5e062100572fb4fa5dd48ea5351ccb47237dfbc4f90175c43017fc614b9177b", func := "loop.example/g00843/laws.FnExactTickVcpus", spec := "fnExactTickVcpus", unfollowed := true, recurses := true, apart := false, narrowed := true }
def FnExactTickVcpusUptoSaid : Prop := fnExactTickVcpusUptoRow.holds Try.pinned (OpenSpec.upto fnExactTickVcpusSpec)

/-- 'laws.FnExactLongestWait', WHERE WHAT IT READS IS OF BULK AT MOST 1048576: true; the input reads as it did. -/
def fnExactLongestWaitUptoRow : OpenClaim := { program := "ytkgnhpilpmbheaa", sum := "f5e062100572fb4fa5dd48ea5351ccb47237dfbc4f90175c43017fc614b9177b", func := "loop.example/g00843/laws.FnExactLongestWait", spec := "fnExactLongestWait", unfollowed := true, recurses := true, apart := false, narrowed := true }
def FnExactLongestWaitUptoSaid : Prop := fnExactLongestWaitUptoRow.holds Try.pinned (OpenSpec.upto fnExactLongestWaitSpec)

/-- 'laws.FnExactTickShares', WHERE WHAT IT READS IS OF BULK AT MOST 1048576: true; the input reads as it did. -/
def fnExactTickSharesUptoRow : OpenClaim := { program := "ytkgnhpilpmbheaa", sum := "f5e062100572fb4fa5dd48ea5351ccb47237dfbc4f90175c43017fc614b9177b", func := "loop.example/g00843/laws.FnExactTickShares", spec := "fnExactTickShares", unfollowed := true, recurses := true, apart := false, narrowed := true }
def FnExactTickSharesUptoSaid : Prop := fnExactTickSharesUptoRow.holds Try.pinned (OpenSpec.upto fnExactTickSharesSpec)

/-- 'laws.FnExactRunTicks', WHERE WHAT IT READS IS OF BULK AT MOST 1048576: true; the input reads as it did. -/
def fnExactRunTicksUptoRow : OpenClaim := { program := "ytkgnhpilpmbheaa", sum := "f5e062100572fb4fa5dd48ea5351ccb47237dfbc4f90175c43017fc614b9177b", func := "loop.example/g00843/laws.FnExactRunTicks", spec := "fnExactRunTicks", unfollowed := true, recurses := true, apart := false, narrowed := true }
def FnExactRunTicksUptoSaid : Prop := fnExactRunTicksUptoRow.holds Try.pinned (OpenSpec.upto fnExactRunTicksSpec)

/-- 'laws.FnCredits', WHERE WHAT IT READS IS OF BULK AT MOST 1048576: true; the input reads as it did. -/
def fnCreditsUptoRow : OpenClaim := { program := "ytkgnhpilpmbheaa", sum := "f5e062100572fb4fa5dd48ea5351ccb47237dfbc4f90175c43017fc614b9177b", func := "loop.example/g00843/laws.FnCredits", spec := "fnCredits", unfollowed := true, recurses := true, apart := false, narrowed := true }
def FnCreditsUptoSaid : Prop := fnCreditsUptoRow.holds Try.pinned (OpenSpec.upto fnCreditsSpec)

/-- 'laws.FnShares', WHERE WHAT IT READS IS OF BULK AT MOST 1048576: true; the input reads as it did. -/
def fnSharesUptoRow : OpenClaim := { program := "ytkgnhpilpmbheaa", sum := "f5e062100572fb4fa5dd48ea5351ccb47237dfbc4f90175c43017fc614b9177b", func := "loop.example/g00843/laws.FnShares", spec := "fnShares", unfollowed := true, recurses := true, apart := false, narrowed := true }
def FnSharesUptoSaid : Prop := fnSharesUptoRow.holds Try.pinned (OpenSpec.upto fnSharesSpec)

/-- 'laws.FnExactWakesOf', WHERE WHAT IT READS IS OF BULK AT MOST 1048576: true; the input reads as it did. -/
def fnExactWakesOfUptoRow : OpenClaim := { program := "ytkgnhpilpmbheaa", sum := "f5e062100572fb4fa5dd48ea5351ccb47237dfbc4f90175c43017fc614b9177b", func := "loop.example/g00843/laws.FnExactWakesOf", spec := "fnExactWakesOf", unfollowed := true, recurses := true, apart := false, narrowed := true }
def FnExactWakesOfUptoSaid : Prop := fnExactWakesOfUptoRow.holds Try.pinned (OpenSpec.upto fnExactWakesOfSpec)

/-- 'laws.FnExactRunHall', WHERE WHAT IT READS IS OF BULK AT MOST 1048576: true; the input reads as it did. -/
def fnExactRunHallUptoRow : OpenClaim := { program := "ytkgnhpilpmbheaa", sum := "f5e062100572fb4fa5dd48ea5351ccb47237dfbc4f90175c43017fc614b9177b", func := "loop.example/g00843/laws.FnExactRunHall", spec := "fnExactRunHall", unfollowed := true, recurses := true, apart := false, narrowed := true }
def FnExactRunHallUptoSaid : Prop := fnExactRunHallUptoRow.holds Try.pinned (OpenSpec.upto fnExactRunHallSpec)

/-- 'laws.FnExactBlockedIds', WHERE WHAT IT READS IS OF BULK AT MOST 1048576: true; the input reads as it did. -/
def fnExactBlockedIdsUptoRow : OpenClaim := { program := "ytkgnhpilpmbheaa", sum := "f5e062100572fb4fa5dd48ea5351ccb47237dfbc4f90175c43017fc614b9177b", func := "loop.example/g00843/laws.FnExactBlockedIds", spec := "fnExactBlockedIds", unfollowed := true, recurses := true, apart := false, narrowed := true }
def FnExactBlockedIdsUptoSaid : Prop := fnExactBlockedIdsUptoRow.holds Try.pinned (OpenSpec.upto fnExactBlockedIdsSpec)

/-- 'laws.FnExactEventIds', WHERE WHAT IT READS IS OF BULK AT MOST 1048576: true; the input reads as it did. -/
def fnExactEventIdsUptoRow : OpenClaim := { program := "ytkgnhpilpmbheaa", sum := "f5e062100572fb4fa5dd48ea5351ccb47237dfbc4f90175c43017fc614b9177b", func := "loop.example/g00843/laws.FnExactEventIds", spec := "fnExactEventIds", unfollowed := true, recurses := true, apart := false, narrowed := true }
def FnExactEventIdsUptoSaid : Prop := fnExactEventIdsUptoRow.holds Try.pinned (OpenSpec.upto fnExactEventIdsSpec)

/-- 'laws.FnExactSignalVcpu', WHERE WHAT IT READS IS OF BULK AT MOST 1048576: true; the input reads as it did. -/
def fnExactSignalVcpuUptoRow : OpenClaim := { program := "ytkgnhpilpmbheaa", sum := "f5e062100572fb4fa5dd48ea5351ccb47237dfbc4f90175c43017fc614b9177b", func := "loop.example/g00843/laws.FnExactSignalVcpu", spec := "fnExactSignalVcpu", unfollowed := true, recurses := true, apart := false, narrowed := true }
def FnExactSignalVcpuUptoSaid : Prop := fnExactSignalVcpuUptoRow.holds Try.pinned (OpenSpec.upto fnExactSignalVcpuSpec)

/-- 'laws.FnExactWaitVcpu', WHERE WHAT IT READS IS OF BULK AT MOST 1048576: true; the input reads as it did. -/
def fnExactWaitVcpuUptoRow : OpenClaim := { program := "ytkgnhpilpmbheaa", sum := "f5e062100572fb4fa5dd48ea5351ccb47237dfbc4f90175c43017fc614b9177b", func := "loop.example/g00843/laws.FnExactWaitVcpu", spec := "fnExactWaitVcpu", unfollowed := true, recurses := true, apart := false, narrowed := true }
def FnExactWaitVcpuUptoSaid : Prop := fnExactWaitVcpuUptoRow.holds Try.pinned (OpenSpec.upto fnExactWaitVcpuSpec)

/-- 'laws.FnExactTickHall', WHERE WHAT IT READS IS OF BULK AT MOST 1048576: true; the input reads as it did. -/
def fnExactTickHallUptoRow : OpenClaim := { program := "ytkgnhpilpmbheaa", sum := "f5e062100572fb4fa5dd48ea5351ccb47237dfbc4f90175c43017fc614b9177b", func := "loop.example/g00843/laws.FnExactTickHall", spec := "fnExactTickHall", unfollowed := true, recurses := true, apart := false, narrowed := true }
def FnExactTickHallUptoSaid : Prop := fnExactTickHallUptoRow.holds Try.pinned (OpenSpec.upto fnExactTickHallSpec)

/-- 'laws.FnWakes', WHERE WHAT IT READS IS OF BULK AT MOST 1048576: true; the input reads as it did. -/
def fnWakesUptoRow : OpenClaim := { program := "ytkgnhpilpmbheaa", sum := "f5e062100572fb4fa5dd48ea5351ccb47237dfbc4f90175c43017fc614b9177b", func := "loop.example/g00843/laws.FnWakes", spec := "fnWakes", unfollowed := true, recurses := true, apart := false, narrowed := true }
def FnWakesUptoSaid : Prop := fnWakesUptoRow.holds Try.pinned (OpenSpec.upto fnWakesSpec)

/-- 'laws.FnHalls', WHERE WHAT IT READS IS OF BULK AT MOST 1048576: true; the input reads as it did. -/
def fnHallsUptoRow : OpenClaim := { program := "ytkgnhpilpmbheaa", sum := "f5e062100572fb4fa5dd48ea5351ccb47237dfbc4f90175c43017fc614b9177b", func := "loop.example/g00843/laws.FnHalls", spec := "fnHalls", unfollowed := true, recurses := true, apart := false, narrowed := true }
def FnHallsUptoSaid : Prop := fnHallsUptoRow.holds Try.pinned (OpenSpec.upto fnHallsSpec)

end Rows
end Go.Proofs.Ytkgnhpilpmbheaa
