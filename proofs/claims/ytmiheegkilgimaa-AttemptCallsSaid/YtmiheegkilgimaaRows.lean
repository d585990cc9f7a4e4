/-
  No cell of these rows narrows 'for every input' (looked for: loops, veiled, ifaces, maps, wideKeys, modest, calm, conditions, laid).
  DERIVED. THE GIVEN ROWS OF THIS SEAT. 5 by the template 'for every input the law returns true; each argument reads behind the call as it read before'; 0 by the template 'total and deterministic' (their statements: YtmiheegkilgimaaTotals.lean).
  GIVEN WITH THE SEED: the statements are not yours to turn. If you find one false, say at which input.
  Laid BY PROGRAM, IN A SANDBOX (cutbox-rows.mjs): the forced cells as the released guide's own fill.sh prints them over the translation e53b830c76c68292… (all of the seat's roots in one cut). By AI agents, Wed Nov 11 2026. No macro, syntax, notation, axiom, sorry.
-/
import Derived.Test.YtmiheegkilgimaaChecked
import GoSem.Claim
import GoSem.ClaimJoined
import GoSem.ClaimMapViews
import Derived.JoinedTies
import Derived.KernelRfl
namespace Go.Proofs.Ytmiheegkilgimaa
/- THE CELL 'sum', in the pinned program and in every row, IS THE sha256 OF THE DUMP (.gsa) THAT YtmiheegkilgimaaProg.lean LOADS. Nothing in Lean hashes anything: it is a label: what it is worth is what the hold of that sum in a sandbox is worth. -/
noncomputable def Try.pinned : Pinned := { name := "ytmiheegkilgimaa", sum := "e53b830c76c68292193feab8ebe36945172413930c684b70ce1eecbe6e55cab6", checked := Try.checked }
namespace Rows
def none {H : Type} : Left H := { results := [], args := [] }

/-- 'halfwayhouselaw27.AttemptStops': WHATEVER THE INPUT: true; the input reads as it did. -/
def attemptStopsSpec : ChangeSpec := { name := "attemptStops", fn := fun _ => fun
  | [d1, d2, d3] => { results := [.lit (.bool true)], args := [d1, d2, d3] }
  | _ => none }
def attemptStopsRow : OpenClaim := { program := "ytmiheegkilgimaa", sum := "e53b830c76c68292193feab8ebe36945172413930c684b70ce1eecbe6e55cab6", func := "halfwayhouse/halfwayhouselaw27.AttemptStops", spec := "attemptStops", unfollowed := true, recurses := true, apart := false }
def AttemptStopsSaid : Prop := attemptStopsRow.holds Try.pinned (OpenSpec.ofChange attemptStopsSpec)

/-- ITS FALSE NEIGHBOUR: 'it returns false'. Refute it at one input. -/
def attemptStopsWrong : ChangeSpec := { name := "attemptStops", fn := fun _ => fun
  | [d1, d2, d3] => { results := [.lit (.bool false)], args := [d1, d2, d3] }
  | _ => none }
def AttemptStopsWrongFalsely : Prop := attemptStopsRow.holds Try.pinned (OpenSpec.ofChange attemptStopsWrong)

/-- 'halfwayhouselaw27.AttemptAmong': WHATEVER THE INPUT: true; the input reads as it did. -/
def attemptAmongSpec : ChangeSpec := { name := "attemptAmong", fn := fun _ => fun
  | [d1, d2] => { results := [.lit (.bool true)], args := [d1, d2] }
  | _ => none }
def attemptAmongRow : OpenClaim := { program := "ytmiheegkilgimaa", sum := "e53b830c76c68292193feab8ebe36945172413930c684b70ce1eecbe6e55cab6", func := "halfwayhouse/halfwayhouselaw27.AttemptAmong", spec := "attemptAmong", unfollowed := true, recurses := true, apart := false }
def AttemptAmongSaid : Prop := attemptAmongRow.holds Try.pinned (OpenSpec.ofChange attemptAmongSpec)

/-- ITS FALSE NEIGHBOUR: 'it returns false'. Refute it at one input. -/
def attemptAmongWrong : ChangeSpec := { name := "attemptAmong", fn := fun _ => fun
  | [d1, d2] => { results := [.lit (.bool false)], args := [d1, d2] }
  | _ => none }
def AttemptAmongWrongFalsely : Prop := attemptAmongRow.holds Try.pinned (OpenSpec.ofChange attemptAmongWrong)

/-- 'halfwayhouselaw27.AttemptOnce': WHATEVER THE INPUT: true; the input reads as it did. -/
def attemptOnceSpec : ChangeSpec := { name := "attemptOnce", fn := fun _ => fun
  | [d1, d2, d3] => { results := [.lit (.bool true)], args := [d1, d2, d3] }
  | _ => none }
def attemptOnceRow : OpenClaim := { program := "ytmiheegkilgimaa", sum := "e53b830c76c68292193feab8ebe36945172413930c684b70ce1eecbe6e55cab6", func := "halfwayhouse/halfwayhouselaw27.AttemptOnce", spec := "attemptOnce", unfollowed := true, recurses := true, apart := false }
def AttemptOnceSaid : Prop := attemptOnceRow.holds Try.pinned (OpenSpec.ofChange attemptOnceSpec)

/-- ITS FALSE NEIGHBOUR: 'it returns false'. Refute it at one input. -/
def attemptOnceWrong : ChangeSpec := { name := "attemptOnce", fn := fun _ => fun
  | [d1, d2, d3] => { results := [.lit (.bool false)], args := [d1, d2, d3] }
  | _ => none }
def AttemptOnceWrongFalsely : Prop := attemptOnceRow.holds Try.pinned (OpenSpec.ofChange attemptOnceWrong)

/-- 'halfwayhouselaw27.AttemptNames': WHATEVER THE INPUT: true; the input reads as it did. -/
def attemptNamesSpec : ChangeSpec := { name := "attemptNames", fn := fun _ => fun
  | [] => { results := [.lit (.bool true)], args := [] }
  | _ => none }
def attemptNamesRow : OpenClaim := { program := "ytmiheegkilgimaa", sum := "e53b830c76c68292193feab8ebe36945172413930c684b70ce1eecbe6e55cab6", func := "halfwayhouse/halfwayhouselaw27.AttemptNames", spec := "attemptNames", unfollowed := true, recurses := true, apart := false }
def AttemptNamesSaid : Prop := attemptNamesRow.holds Try.pinned (OpenSpec.ofChange attemptNamesSpec)

/-- ITS FALSE NEIGHBOUR: 'it returns false'. Refute it at one input. -/
def attemptNamesWrong : ChangeSpec := { name := "attemptNames", fn := fun _ => fun
  | [] => { results := [.lit (.bool false)], args := [] }
  | _ => none }
def AttemptNamesWrongFalsely : Prop := attemptNamesRow.holds Try.pinned (OpenSpec.ofChange attemptNamesWrong)

/-- 'halfwayhouselaw27.AttemptCalls': WHATEVER THE INPUT: true; the input reads as it did. -/
def attemptCallsSpec : ChangeSpec := { name := "attemptCalls", fn := fun _ => fun
  | [d1, d2, d3, d4] => { results := [.lit (.bool true)], args := [d1, d2, d3, d4] }
  | _ => none }
def attemptCallsRow : OpenClaim := { program := "ytmiheegkilgimaa", sum := "e53b830c76c68292193feab8ebe36945172413930c684b70ce1eecbe6e55cab6", func := "halfwayhouse/halfwayhouselaw27.AttemptCalls", spec := "attemptCalls", unfollowed := true, recurses := true, apart := false }
def AttemptCallsSaid : Prop := attemptCallsRow.holds Try.pinned (OpenSpec.ofChange attemptCallsSpec)

/-- ITS FALSE NEIGHBOUR: 'it returns false'. Refute it at one input. -/
def attemptCallsWrong : ChangeSpec := { name := "attemptCalls", fn := fun _ => fun
  | [d1, d2, d3, d4] => { results := [.lit (.bool false)], args := [d1, d2, d3, d4] }
  | _ => none }
def AttemptCallsWrongFalsely : Prop := attemptCallsRow.holds Try.pinned (OpenSpec.ofChange attemptCallsWrong)

/- THE SECOND FORM. 'bulk': how many values and letters a reading holds, each counted each time it is reached (what is shared counts as often as it is met; a slice's spare places count too). A statement '..UptoSaid' is the law's where the arguments, and the package variables that the reading takes, are together of bulk at most 1048576: NARROWER than '..Said'. Prove '..Said' where nothing that the law and all that it calls make is longer than what came in: it says more and counts as full. Else prove '..UptoSaid'. A law counts once. -/
mutual
def uptoBulk {H : Type} : DataW H → Nat
  | .lit (.string bytes) => bytes.length + 1
  | .lit _ => 1
  | .nil => 1
  | .ptr d => uptoBulk d + 1
  | .slice elems spare => uptoBulkAll elems + uptoBulkAll spare + 1
  | .agg parts => uptoBulkAll parts + 1
  | .iface _ d => uptoBulk d + 1
  | .map entries => uptoBulkEntries entries + 1
  | .held _ => 1
def uptoBulkAll {H : Type} : List (DataW H) → Nat
  | [] => 0
  | d :: r => uptoBulk d + uptoBulkAll r
def uptoBulkEntries {H : Type} : List (Lit × DataW H) → Nat
  | [] => 0
  | x :: r => uptoBulkEntry x + uptoBulkEntries r
def uptoBulkEntry {H : Type} : Lit × DataW H → Nat
  | (.string bytes, d) => bytes.length + uptoBulk d + 1
  | (_, d) => uptoBulk d + 1
 end
def uptoSmall : (H : Type) → List (DataW H) → Bool := fun _ ds => decide (uptoBulkAll ds ≤ 1048576)
def OpenSpec.upto (s : _root_.Go.ChangeSpec) : _root_.Go.OpenSpec := { _root_.Go.OpenSpec.ofChange s with cond := some uptoSmall }

/-- 'halfwayhouselaw27.AttemptStops', WHERE WHAT IT READS IS OF BULK AT MOST 1048576: true; the input reads as it did. -/
def attemptStopsUptoRow : OpenClaim := { program := "ytmiheegkilgimaa", sum := "e53b830c76c68292193feab8ebe36945172413930c684b70ce1eecbe6e55cab6", func := "halfwayhouse/halfwayhouselaw27.AttemptStops", spec := "attemptStops", unfollowed := true, recurses := true, apart := false, narrowed := true }
def AttemptStopsUptoSaid : Prop := attemptStopsUptoRow.holds Try.pinned (OpenSpec.upto attemptStopsSpec)

/-- 'halfwayhouselaw27.AttemptAmong', WHERE WHAT IT READS IS OF BULK AT MOST 1048576: true; the input reads as it did. -/
def attemptAmongUptoRow : OpenClaim := { program := "ytmiheegkilgimaa", sum := "e53b830c76c68292193feab8ebe36945172413930c684b70ce1eecbe6e55cab6", func := "halfwayhouse/halfwayhouselaw27.AttemptAmong", spec := "attemptAmong", unfollowed := true, recurses := true, apart := false, narrowed := true }
def AttemptAmongUptoSaid : Prop := attemptAmongUptoRow.holds Try.pinned (OpenSpec.upto attemptAmongSpec)

/-- 'halfwayhouselaw27.AttemptOnce', WHERE WHAT IT READS IS OF BULK AT MOST 1048576: true; the input reads as it did. -/
def attemptOnceUptoRow : OpenClaim := { program := "ytmiheegkilgimaa", sum := "e53b830c76c68292193feab8ebe36945172413930c684b70ce1eecbe6e55cab6", func := "halfwayhouse/halfwayhouselaw27.AttemptOnce", spec := "attemptOnce", unfollowed := true, recurses := true, apart := false, narrowed := true }
def AttemptOnceUptoSaid : Prop := attemptOnceUptoRow.holds Try.pinned (OpenSpec.upto attemptOnceSpec)

/-- 'halfwayhouselaw27.AttemptNames', WHERE WHAT IT READS IS OF BULK AT MOST 1048576: true; the input reads as it did. -/
def attemptNamesUptoRow : OpenClaim := { program := "ytmiheegkilgimaa", sum := "e53b830c76c68292193feab8ebe36945172413930c684b70ce1eecbe6e55cab6", func := "halfwayhouse/halfwayhouselaw27.AttemptNames", spec := "attemptNames", unfollowed := true, recurses := true, apart := false, narrowed := true }
def AttemptNamesUptoSaid : Prop := attemptNamesUptoRow.holds Try.pinned (OpenSpec.upto attemptNamesSpec)

/-- 'halfwayhouselaw27.AttemptCalls', WHERE WHAT IT READS IS OF BULK AT MOST 1048576: true; the input reads as it did. -/
def attemptCallsUptoRow : OpenClaim := { program := "ytmiheegkilgimaa", sum := "e53b830c76c68292193feab8ebe36945172413930c684b70ce1eecbe6e55cab6", func := "halfwayhouse/halfwayhouselaw27.AttemptCalls", spec := "attemptCalls", unfollowed := true, recurses := true, apart := false, narrowed := true }
def AttemptCallsUptoSaid : Prop := attemptCallsUptoRow.holds Try.pinned (OpenSpec.upto attemptCallsSpec)

end Rows
end Go.Proofs.Ytmiheegkilgimaa
