/-
  No cell of these rows narrows 'for every input' (looked for: loops, veiled, ifaces, maps, wideKeys, modest, calm, conditions, laid).
  DERIVED. THE GIVEN ROWS OF THIS SEAT. 5 by the template 'for every input the law returns true; each argument reads behind the call as it read before'; 0 by the template 'total and deterministic' (their statements: YtbmgigbcilgieaaTotals.lean).
  GIVEN WITH THE SEED: the statements are not yours to turn. If you find one false, say at which input.
  Laid BY PROGRAM, IN A SANDBOX (cutbox-rows.mjs): the forced cells as the released guide's own fill.sh prints them over the translation d483190f9136ed73… (all of the seat's roots in one cut). By AI agents, Wed Nov 11 2026. No macro, syntax, notation, axiom, sorry.
-/
import Derived.Test.YtbmgigbcilgieaaChecked
import GoSem.Claim
import GoSem.ClaimJoined
import GoSem.ClaimMapViews
import Derived.JoinedTies
import Derived.KernelRfl
namespace Go.Proofs.Ytbmgigbcilgieaa
/- THE CELL 'sum', in the pinned program and in every row, IS THE sha256 OF THE DUMP (.gsa) THAT YtbmgigbcilgieaaProg.lean LOADS. Nothing in Lean hashes anything: it is a label: what it is worth is what the hold of that sum in a sandbox is worth. -/
noncomputable def Try.pinned : Pinned := { name := "ytbmgigbcilgieaa", sum := "d483190f9136ed739bed507dcc44c0bd30a086e9014bbe26be52c48a95cbc5d7", checked := Try.checked }
namespace Rows
def none {H : Type} : Left H := { results := [], args := [] }

/-- 'halfwayhouselaw21.ProbeTurns': WHATEVER THE INPUT: true; the input reads as it did. -/
def probeTurnsSpec : ChangeSpec := { name := "probeTurns", fn := fun _ => fun
  | [d1, d2] => { results := [.lit (.bool true)], args := [d1, d2] }
  | _ => none }
def probeTurnsRow : OpenClaim := { program := "ytbmgigbcilgieaa", sum := "d483190f9136ed739bed507dcc44c0bd30a086e9014bbe26be52c48a95cbc5d7", func := "halfwayhouse/halfwayhouselaw21.ProbeTurns", spec := "probeTurns", unfollowed := true, recurses := true, apart := false }
def ProbeTurnsSaid : Prop := probeTurnsRow.holds Try.pinned (OpenSpec.ofChange probeTurnsSpec)

/-- ITS FALSE NEIGHBOUR: 'it returns false'. Refute it at one input. -/
def probeTurnsWrong : ChangeSpec := { name := "probeTurns", fn := fun _ => fun
  | [d1, d2] => { results := [.lit (.bool false)], args := [d1, d2] }
  | _ => none }
def ProbeTurnsWrongFalsely : Prop := probeTurnsRow.holds Try.pinned (OpenSpec.ofChange probeTurnsWrong)

/-- 'halfwayhouselaw21.ProbeNames': WHATEVER THE INPUT: true; the input reads as it did. -/
def probeNamesSpec : ChangeSpec := { name := "probeNames", fn := fun _ => fun
  | [] => { results := [.lit (.bool true)], args := [] }
  | _ => none }
def probeNamesRow : OpenClaim := { program := "ytbmgigbcilgieaa", sum := "d483190f9136ed739bed507dcc44c0bd30a086e9014bbe26be52c48a95cbc5d7", func := "halfwayhouse/halfwayhouselaw21.ProbeNames", spec := "probeNames", unfollowed := true, recurses := true, apart := false }
def ProbeNamesSaid : Prop := probeNamesRow.holds Try.pinned (OpenSpec.ofChange probeNamesSpec)

/-- ITS FALSE NEIGHBOUR: 'it returns false'. Refute it at one input. -/
def probeNamesWrong : ChangeSpec := { name := "probeNames", fn := fun _ => fun
  | [] => { results := [.lit (.bool false)], args := [] }
  | _ => none }
def ProbeNamesWrongFalsely : Prop := probeNamesRow.holds Try.pinned (OpenSpec.ofChange probeNamesWrong)

/-- 'halfwayhouselaw21.ProbeCalls': WHATEVER THE INPUT: true; the input reads as it did. -/
def probeCallsSpec : ChangeSpec := { name := "probeCalls", fn := fun _ => fun
  | [d1, d2, d3, d4, d5] => { results := [.lit (.bool true)], args := [d1, d2, d3, d4, d5] }
  | _ => none }
def probeCallsRow : OpenClaim := { program := "ytbmgigbcilgieaa", sum := "d483190f9136ed739bed507dcc44c0bd30a086e9014bbe26be52c48a95cbc5d7", func := "halfwayhouse/halfwayhouselaw21.ProbeCalls", spec := "probeCalls", unfollowed := true, recurses := true, apart := false }
def ProbeCallsSaid : Prop := probeCallsRow.holds Try.pinned (OpenSpec.ofChange probeCallsSpec)

/-- ITS FALSE NEIGHBOUR: 'it returns false'. Refute it at one input. -/
def probeCallsWrong : ChangeSpec := { name := "probeCalls", fn := fun _ => fun
  | [d1, d2, d3, d4, d5] => { results := [.lit (.bool false)], args := [d1, d2, d3, d4, d5] }
  | _ => none }
def ProbeCallsWrongFalsely : Prop := probeCallsRow.holds Try.pinned (OpenSpec.ofChange probeCallsWrong)

/-- 'halfwayhouselaw21.ProbeEvery': WHATEVER THE INPUT: true; the input reads as it did. -/
def probeEverySpec : ChangeSpec := { name := "probeEvery", fn := fun _ => fun
  | [d1, d2, d3] => { results := [.lit (.bool true)], args := [d1, d2, d3] }
  | _ => none }
def probeEveryRow : OpenClaim := { program := "ytbmgigbcilgieaa", sum := "d483190f9136ed739bed507dcc44c0bd30a086e9014bbe26be52c48a95cbc5d7", func := "halfwayhouse/halfwayhouselaw21.ProbeEvery", spec := "probeEvery", unfollowed := true, recurses := true, apart := false }
def ProbeEverySaid : Prop := probeEveryRow.holds Try.pinned (OpenSpec.ofChange probeEverySpec)

/-- ITS FALSE NEIGHBOUR: 'it returns false'. Refute it at one input. -/
def probeEveryWrong : ChangeSpec := { name := "probeEvery", fn := fun _ => fun
  | [d1, d2, d3] => { results := [.lit (.bool false)], args := [d1, d2, d3] }
  | _ => none }
def ProbeEveryWrongFalsely : Prop := probeEveryRow.holds Try.pinned (OpenSpec.ofChange probeEveryWrong)

/-- 'halfwayhouselaw21.ProbeLater': WHATEVER THE INPUT: true; the input reads as it did. -/
def probeLaterSpec : ChangeSpec := { name := "probeLater", fn := fun _ => fun
  | [d1, d2, d3, d4, d5] => { results := [.lit (.bool true)], args := [d1, d2, d3, d4, d5] }
  | _ => none }
def probeLaterRow : OpenClaim := { program := "ytbmgigbcilgieaa", sum := "d483190f9136ed739bed507dcc44c0bd30a086e9014bbe26be52c48a95cbc5d7", func := "halfwayhouse/halfwayhouselaw21.ProbeLater", spec := "probeLater", unfollowed := true, recurses := true, apart := false }
def ProbeLaterSaid : Prop := probeLaterRow.holds Try.pinned (OpenSpec.ofChange probeLaterSpec)

/-- ITS FALSE NEIGHBOUR: 'it returns false'. Refute it at one input. -/
def probeLaterWrong : ChangeSpec := { name := "probeLater", fn := fun _ => fun
  | [d1, d2, d3, d4, d5] => { results := [.lit (.bool false)], args := [d1, d2, d3, d4, d5] }
  | _ => none }
def ProbeLaterWrongFalsely : Prop := probeLaterRow.holds Try.pinned (OpenSpec.ofChange probeLaterWrong)

/- THE SECOND FORM. 'bulk': how many values and letters a reading holds, each counted each time it is reached (what is shared counts as often as it is met; a slice's spare places count too). A statement '..UptoSaid' is the law's where the arguments, and the package variables that the reading takes, are together of bulk at most 1048576: NARROWER than '..Said'. Prove '..Said' where nothing that the law and all that it calls make is longer than what came in: it says more and counts as full. Else prove '..UptoSaid'. A law counts once. -/
mutual
def uptoBulk {H : Type} : DataW H → Nat
  | .lit (.string bytes) => bytes.length + 1
  | .lit _ => 1
  | .nil => 1
  | .ptr d => uptoBulk d + 1
  | .slice elems spare => uptoBulkAll elems + uptoBulkAll spare + 1
  | .agg parts => uptoBulkAll parts + 1
  | .iface _ d => uptoBulk d + 1
  | .map entries => uptoBulkEntries entries + 1
  | .held _ => 1
def uptoBulkAll {H : Type} : List (DataW H) → Nat
  | [] => 0
  | d :: r => uptoBulk d + uptoBulkAll r
def uptoBulkEntries {H : Type} : List (Lit × DataW H) → Nat
  | [] => 0
  | x :: r => uptoBulkEntry x + uptoBulkEntries r
def uptoBulkEntry {H : Type} : Lit × DataW H → Nat
  | (.string bytes, d) => bytes.length + uptoBulk d + 1
  | (_, d) => uptoBulk d + 1
 end
def uptoSmall : (H : Type) → List (DataW H) → Bool := fun _ ds => decide (uptoBulkAll ds ≤ 1048576)
def OpenSpec.upto (s : _root_.Go.ChangeSpec) : _root_.Go.OpenSpec := { _root_.Go.OpenSpec.ofChange s with cond := some uptoSmall }

/-- 'halfwayhouselaw21.ProbeTurns', WHERE WHAT IT READS IS OF BULK AT MOST 1048576: true; the input reads as it did. -/
def probeTurnsUptoRow : OpenClaim := { program := "ytbmgigbcilgieaa", sum := "d483190f9136ed739bed507dcc44c0bd30a086e9014bbe26be52c48a95cbc5d7", func := "halfwayhouse/halfwayhouselaw21.ProbeTurns", spec := "probeTurns", unfollowed := true, recurses := true, apart := false, narrowed := true }
def ProbeTurnsUptoSaid : Prop := probeTurnsUptoRow.holds Try.pinned (OpenSpec.upto probeTurnsSpec)

/-- 'halfwayhouselaw21.ProbeNames', WHERE WHAT IT READS IS OF BULK AT MOST 1048576: true; the input reads as it did. -/
def probeNamesUptoRow : OpenClaim := { program := "ytbmgigbcilgieaa", sum := "d483190f9136ed739bed507dcc44c0bd30a086e9014bbe26be52c48a95cbc5d7", func := "halfwayhouse/halfwayhouselaw21.ProbeNames", spec := "probeNames", unfollowed := true, recurses := true, apart := false, narrowed := true }
def ProbeNamesUptoSaid : Prop := probeNamesUptoRow.holds Try.pinned (OpenSpec.upto probeNamesSpec)

/-- 'halfwayhouselaw21.ProbeCalls', WHERE WHAT IT READS IS OF BULK AT MOST 1048576: true; the input reads as it did. -/
def probeCallsUptoRow : OpenClaim := { program := "ytbmgigbcilgieaa", sum := "d483190f9136ed739bed507dcc44c0bd30a086e9014bbe26be52c48a95cbc5d7", func := "halfwayhouse/halfwayhouselaw21.ProbeCalls", spec := "probeCalls", unfollowed := true, recurses := true, apart := false, narrowed := true }
def ProbeCallsUptoSaid : Prop := probeCallsUptoRow.holds Try.pinned (OpenSpec.upto probeCallsSpec)

/-- 'halfwayhouselaw21.ProbeEvery', WHERE WHAT IT READS IS OF BULK AT MOST 1048576: true; the input reads as it did. -/
def probeEveryUptoRow : OpenClaim := { program := "ytbmgigbcilgieaa", sum := "d483190f9136ed739bed507dcc44c0bd30a086e9014bbe26be52c48a95cbc5d7", func := "halfwayhouse/halfwayhouselaw21.ProbeEvery", spec := "probeEvery", unfollowed := true, recurses := true, apart := false, narrowed := true }
def ProbeEveryUptoSaid : Prop := probeEveryUptoRow.holds Try.pinned (OpenSpec.upto probeEverySpec)

/-- 'halfwayhouselaw21.ProbeLater', WHERE WHAT IT READS IS OF BULK AT MOST 1048576: true; the input reads as it did. -/
def probeLaterUptoRow : OpenClaim := { program := "ytbmgigbcilgieaa", sum := "d483190f9136ed739bed507dcc44c0bd30a086e9014bbe26be52c48a95cbc5d7", func := "halfwayhouse/halfwayhouselaw21.ProbeLater", spec := "probeLater", unfollowed := true, recurses := true, apart := false, narrowed := true }
def ProbeLaterUptoSaid : Prop := probeLaterUptoRow.holds Try.pinned (OpenSpec.upto probeLaterSpec)

end Rows
end Go.Proofs.Ytbmgigbcilgieaa
