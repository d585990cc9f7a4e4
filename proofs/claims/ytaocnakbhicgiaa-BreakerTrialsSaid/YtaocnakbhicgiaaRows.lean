/-
  No cell of these rows narrows 'for every input' (looked for: loops, veiled, ifaces, maps, wideKeys, modest, calm, conditions, laid).
  DERIVED. THE GIVEN ROWS OF THIS SEAT. 4 by the template 'for every input the law returns true; each argument reads behind the call as it read before'; 0 by the template 'total and deterministic' (their statements: YtaocnakbhicgiaaTotals.lean).
  GIVEN WITH THE SEED: the statements are not yours to turn. If you find one false, say at which input.
  Laid BY PROGRAM, IN A SANDBOX (cutbox-rows.mjs): the forced cells as the released guide's own fill.sh prints them over the translation cf1ca009bc4d863d… (all of the seat's roots in one cut). By AI agents, Wed Nov 11 2026. No macro, syntax, notation, axiom, sorry.
-/
import Derived.Test.YtaocnakbhicgiaaChecked
import GoSem.Claim
import GoSem.ClaimJoined
import GoSem.ClaimMapViews
import Derived.JoinedTies
import Derived.KernelRfl
namespace Go.Proofs.Ytaocnakbhicgiaa
/- THE CELL 'sum', in the pinned program and in every row, IS THE sha256 OF THE DUMP (.gsa) THAT YtaocnakbhicgiaaProg.lean LOADS. Nothing in Lean hashes anything: it is a label: what it is worth is what the hold of that sum in a sandbox is worth. -/
noncomputable def Try.pinned : Pinned := { name := "ytaocnakbhicgiaa", sum := "cf1ca009bc4d863dad106ebd46f46a19237610a281375b97caaa7ef9f2b2b649", checked := Try.checked }
namespace Rows
def none {H : Type} : Left H := { results := [], args := [] }

/-- 'halfwayhouselaw19.BreakerOpens': WHATEVER THE INPUT: true; the input reads as it did. -/
def breakerOpensSpec : ChangeSpec := { name := "breakerOpens", fn := fun _ => fun
  | [d1, d2] => { results := [.lit (.bool true)], args := [d1, d2] }
  | _ => none }
def breakerOpensRow : OpenClaim := { program := "ytaocnakbhicgiaa", sum := "cf1ca009bc4d863dad106ebd46f46a19237610a281375b97caaa7ef9f2b2b649", func := "halfwayhouse/halfwayhouselaw19.BreakerOpens", spec := "breakerOpens", apart := false }
def BreakerOpensSaid : Prop := breakerOpensRow.holds Try.pinned (OpenSpec.ofChange breakerOpensSpec)

/-- ITS FALSE NEIGHBOUR: 'it returns false'. Refute it at one input. -/
def breakerOpensWrong : ChangeSpec := { name := "breakerOpens", fn := fun _ => fun
  | [d1, d2] => { results := [.lit (.bool false)], args := [d1, d2] }
  | _ => none }
def BreakerOpensWrongFalsely : Prop := breakerOpensRow.holds Try.pinned (OpenSpec.ofChange breakerOpensWrong)

/-- 'halfwayhouselaw19.BreakerTrials': WHATEVER THE INPUT: true; the input reads as it did. -/
def breakerTrialsSpec : ChangeSpec := { name := "breakerTrials", fn := fun _ => fun
  | [d1, d2] => { results := [.lit (.bool true)], args := [d1, d2] }
  | _ => none }
def breakerTrialsRow : OpenClaim := { program := "ytaocnakbhicgiaa", sum := "cf1ca009bc4d863dad106ebd46f46a19237610a281375b97caaa7ef9f2b2b649", func := "halfwayhouse/halfwayhouselaw19.BreakerTrials", spec := "breakerTrials", apart := false }
def BreakerTrialsSaid : Prop := breakerTrialsRow.holds Try.pinned (OpenSpec.ofChange breakerTrialsSpec)

/-- ITS FALSE NEIGHBOUR: 'it returns false'. Refute it at one input. -/
def breakerTrialsWrong : ChangeSpec := { name := "breakerTrials", fn := fun _ => fun
  | [d1, d2] => { results := [.lit (.bool false)], args := [d1, d2] }
  | _ => none }
def BreakerTrialsWrongFalsely : Prop := breakerTrialsRow.holds Try.pinned (OpenSpec.ofChange breakerTrialsWrong)

/-- 'halfwayhouselaw19.BreakerLate': WHATEVER THE INPUT: true; the input reads as it did. -/
def breakerLateSpec : ChangeSpec := { name := "breakerLate", fn := fun _ => fun
  | [d1, d2, d3] => { results := [.lit (.bool true)], args := [d1, d2, d3] }
  | _ => none }
def breakerLateRow : OpenClaim := { program := "ytaocnakbhicgiaa", sum := "cf1ca009bc4d863dad106ebd46f46a19237610a281375b97caaa7ef9f2b2b649", func := "halfwayhouse/halfwayhouselaw19.BreakerLate", spec := "breakerLate", apart := false }
def BreakerLateSaid : Prop := breakerLateRow.holds Try.pinned (OpenSpec.ofChange breakerLateSpec)

/-- ITS FALSE NEIGHBOUR: 'it returns false'. Refute it at one input. -/
def breakerLateWrong : ChangeSpec := { name := "breakerLate", fn := fun _ => fun
  | [d1, d2, d3] => { results := [.lit (.bool false)], args := [d1, d2, d3] }
  | _ => none }
def BreakerLateWrongFalsely : Prop := breakerLateRow.holds Try.pinned (OpenSpec.ofChange breakerLateWrong)

/-- 'halfwayhouselaw19.BreakerNames': WHATEVER THE INPUT: true; the input reads as it did. -/
def breakerNamesSpec : ChangeSpec := { name := "breakerNames", fn := fun _ => fun
  | [] => { results := [.lit (.bool true)], args := [] }
  | _ => none }
def breakerNamesRow : OpenClaim := { program := "ytaocnakbhicgiaa", sum := "cf1ca009bc4d863dad106ebd46f46a19237610a281375b97caaa7ef9f2b2b649", func := "halfwayhouse/halfwayhouselaw19.BreakerNames", spec := "breakerNames", apart := false }
def BreakerNamesSaid : Prop := breakerNamesRow.holds Try.pinned (OpenSpec.ofChange breakerNamesSpec)

/-- ITS FALSE NEIGHBOUR: 'it returns false'. Refute it at one input. -/
def breakerNamesWrong : ChangeSpec := { name := "breakerNames", fn := fun _ => fun
  | [] => { results := [.lit (.bool false)], args := [] }
  | _ => none }
def BreakerNamesWrongFalsely : Prop := breakerNamesRow.holds Try.pinned (OpenSpec.ofChange breakerNamesWrong)

/- THE SECOND FORM. 'bulk': how many values and letters a reading holds, each counted each time it is reached (what is shared counts as often as it is met; a slice's spare places count too). A statement '..UptoSaid' is the law's where the arguments, and the package variables that the reading takes, are together of bulk at most 1048576: NARROWER than '..Said'. Prove '..Said' where nothing that the law and all that it calls make is longer than what came in: it says more and counts as full. Else prove '..UptoSaid'. A law counts once. -/
mutual
def uptoBulk {H : Type} : DataW H → Nat
  | .lit (.string bytes) => bytes.length + 1
  | .lit _ => 1
  | .nil => 1
  | .ptr d => uptoBulk d + 1
  | .slice elems spare => uptoBulkAll elems + uptoBulkAll spare + 1
  | .agg parts => uptoBulkAll parts + 1
  | .iface _ d => uptoBulk d + 1
  | .map entries => uptoBulkEntries entries + 1
  | .held _ => 1
def uptoBulkAll {H : Type} : List (DataW H) → Nat
  | [] => 0
  | d :: r => uptoBulk d + uptoBulkAll r
def uptoBulkEntries {H : Type} : List (Lit × DataW H) → Nat
  | [] => 0
  | x :: r => uptoBulkEntry x + uptoBulkEntries r
def uptoBulkEntry {H : Type} : Lit × DataW H → Nat
  | (.string bytes, d) => bytes.length + uptoBulk d + 1
  | (_, d) => uptoBulk d + 1
 end
def uptoSmall : (H : Type) → List (DataW H) → Bool := fun _ ds => decide (uptoBulkAll ds ≤ 1048576)
def OpenSpec.upto (s : _root_.Go.ChangeSpec) : _root_.Go.OpenSpec := { _root_.Go.OpenSpec.ofChange s with cond := some uptoSmall }

/-- 'halfwayhouselaw19.BreakerOpens', WHERE WHAT IT READS IS OF BULK AT MOST 1048576: true; the input reads as it did. -/
def breakerOpensUptoRow : OpenClaim := { program := "ytaocnakbhicgiaa", sum := "cf1ca009bc4d863dad106ebd46f46a19237610a281375b97caaa7ef9f2b2b649", func := "halfwayhouse/halfwayhouselaw19.BreakerOpens", spec := "breakerOpens", apart := false, narrowed := true }
def BreakerOpensUptoSaid : Prop := breakerOpensUptoRow.holds Try.pinned (OpenSpec.upto breakerOpensSpec)

/-- 'halfwayhouselaw19.BreakerTrials', WHERE WHAT IT READS IS OF BULK AT MOST 1048576: true; the input reads as it did. -/
def breakerTrialsUptoRow : OpenClaim := { program := "ytaocnakbhicgiaa", sum := "cf1ca009bc4d863dad106ebd46f46a19237610a281375b97caaa7ef9f2b2b649", func := "halfwayhouse/halfwayhouselaw19.BreakerTrials", spec := "breakerTrials", apart := false, narrowed := true }
def BreakerTrialsUptoSaid : Prop := breakerTrialsUptoRow.holds Try.pinned (OpenSpec.upto breakerTrialsSpec)

/-- 'halfwayhouselaw19.BreakerLate', WHERE WHAT IT READS IS OF BULK AT MOST 1048576: true; the input reads as it did. -/
def breakerLateUptoRow : OpenClaim := { program := "ytaocnakbhicgiaa", sum := "cf1ca009bc4d863dad106ebd46f46a19237610a281375b97caaa7ef9f2b2b649", func := "halfwayhouse/halfwayhouselaw19.BreakerLate", spec := "breakerLate", apart := false, narrowed := true }
def BreakerLateUptoSaid : Prop := breakerLateUptoRow.holds Try.pinned (OpenSpec.upto breakerLateSpec)

/-- 'halfwayhouselaw19.BreakerNames', WHERE WHAT IT READS IS OF BULK AT MOST 1048576: true; the input reads as it did. -/
def breakerNamesUptoRow : OpenClaim := { program := "ytaocnakbhicgiaa", sum := "cf1ca009bc4d863dad106ebd46f46a19237610a281375b97caaa7ef9f2b2b649", func := "halfwayhouse/halfwayhouselaw19.BreakerNames", spec := "breakerNames", apart := false, narrowed := true }
def BreakerNamesUptoSaid : Prop := breakerNamesUptoRow.holds Try.pinned (OpenSpec.upto breakerNamesSpec)

end Rows
end Go.Proofs.Ytaocnakbhicgiaa
