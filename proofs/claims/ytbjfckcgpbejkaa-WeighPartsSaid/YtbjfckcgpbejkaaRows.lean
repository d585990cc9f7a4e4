/-
  No cell of these rows narrows 'for every input' (looked for: loops, veiled, ifaces, maps, wideKeys, modest, calm, conditions, laid).
  DERIVED. THE GIVEN ROWS OF THIS SEAT. 6 by the template 'for every input the law returns true; each argument reads behind the call as it read before'; 0 by the template 'total and deterministic' (their statements: YtbjfckcgpbejkaaTotals.lean).
  GIVEN WITH THE SEED: the statements are not yours to turn. If you find one false, say at which input.
  Laid BY PROGRAM, IN A SANDBOX (cutbox-rows.mjs): the forced cells as the released guide's own fill.sh prints them over the translation b3041363bd4561c1… (all of the seat's roots in one cut). By AI agents, Wed Nov 11 2026. No macro, syntax, notation, axiom, sorry.
-/
import Derived.Test.YtbjfckcgpbejkaaChecked
import GoSem.Claim
import GoSem.ClaimJoined
import GoSem.ClaimMapViews
import Derived.JoinedTies
import Derived.KernelRfl
namespace Go.Proofs.Ytbjfckcgpbejkaa
/- THE CELL 'sum', in the pinned program and in every row, IS THE sha256 OF THE DUMP (.gsa) THAT YtbjfckcgpbejkaaProg.lean LOADS. Nothing in Lean hashes anything: it is a label: what it is worth is what the hold of that sum in a sandbox is worth. -/
noncomputable def Try.pinned : Pinned := { name := "ytbjfckcgpbejkaa", sum := "b3041363bd4561c16bb21092198dd070b751129b8aa46a6677ce92be159fffc7", checked := Try.checked }
namespace Rows
def none {H : Type} : Left H := { results := [], args := [] }

/-- 'halfwayhouselaw24.WeighParts': WHATEVER THE INPUT: true; the input reads as it did. -/
def weighPartsSpec : ChangeSpec := { name := "weighParts", fn := fun _ => fun
  | [d] => { results := [.lit (.bool true)], args := [d] }
  | _ => none }
def weighPartsRow : OpenClaim := { program := "ytbjfckcgpbejkaa", sum := "b3041363bd4561c16bb21092198dd070b751129b8aa46a6677ce92be159fffc7", func := "halfwayhouse/halfwayhouselaw24.WeighParts", spec := "weighParts", inPlace := ["math.Float64bits"], apart := false }
def WeighPartsSaid : Prop := weighPartsRow.holds Try.pinned (OpenSpec.ofChange weighPartsSpec)

/-- ITS FALSE NEIGHBOUR: 'it returns false'. Refute it at one input. -/
def weighPartsWrong : ChangeSpec := { name := "weighParts", fn := fun _ => fun
  | [d] => { results := [.lit (.bool false)], args := [d] }
  | _ => none }
def WeighPartsWrongFalsely : Prop := weighPartsRow.holds Try.pinned (OpenSpec.ofChange weighPartsWrong)

/-- 'halfwayhouselaw24.WeighSums': WHATEVER THE INPUT: true; the input reads as it did. -/
def weighSumsSpec : ChangeSpec := { name := "weighSums", fn := fun _ => fun
  | [d1, d2] => { results := [.lit (.bool true)], args := [d1, d2] }
  | _ => none }
def weighSumsRow : OpenClaim := { program := "ytbjfckcgpbejkaa", sum := "b3041363bd4561c16bb21092198dd070b751129b8aa46a6677ce92be159fffc7", func := "halfwayhouse/halfwayhouselaw24.WeighSums", spec := "weighSums", inPlace := ["math.Float64bits"], apart := false }
def WeighSumsSaid : Prop := weighSumsRow.holds Try.pinned (OpenSpec.ofChange weighSumsSpec)

/-- ITS FALSE NEIGHBOUR: 'it returns false'. Refute it at one input. -/
def weighSumsWrong : ChangeSpec := { name := "weighSums", fn := fun _ => fun
  | [d1, d2] => { results := [.lit (.bool false)], args := [d1, d2] }
  | _ => none }
def WeighSumsWrongFalsely : Prop := weighSumsRow.holds Try.pinned (OpenSpec.ofChange weighSumsWrong)

/-- 'halfwayhouselaw24.WeighMoves': WHATEVER THE INPUT: true; the input reads as it did. -/
def weighMovesSpec : ChangeSpec := { name := "weighMoves", fn := fun _ => fun
  | [d1, d2, d3] => { results := [.lit (.bool true)], args := [d1, d2, d3] }
  | _ => none }
def weighMovesRow : OpenClaim := { program := "ytbjfckcgpbejkaa", sum := "b3041363bd4561c16bb21092198dd070b751129b8aa46a6677ce92be159fffc7", func := "halfwayhouse/halfwayhouselaw24.WeighMoves", spec := "weighMoves", inPlace := ["math.Float64bits"], unfollowed := true, recurses := true, apart := false }
def WeighMovesSaid : Prop := weighMovesRow.holds Try.pinned (OpenSpec.ofChange weighMovesSpec)

/-- ITS FALSE NEIGHBOUR: 'it returns false'. Refute it at one input. -/
def weighMovesWrong : ChangeSpec := { name := "weighMoves", fn := fun _ => fun
  | [d1, d2, d3] => { results := [.lit (.bool false)], args := [d1, d2, d3] }
  | _ => none }
def WeighMovesWrongFalsely : Prop := weighMovesRow.holds Try.pinned (OpenSpec.ofChange weighMovesWrong)

/-- 'halfwayhouselaw24.WeighLeast': WHATEVER THE INPUT: true; the input reads as it did. -/
def weighLeastSpec : ChangeSpec := { name := "weighLeast", fn := fun _ => fun
  | [d1, d2, d3] => { results := [.lit (.bool true)], args := [d1, d2, d3] }
  | _ => none }
def weighLeastRow : OpenClaim := { program := "ytbjfckcgpbejkaa", sum := "b3041363bd4561c16bb21092198dd070b751129b8aa46a6677ce92be159fffc7", func := "halfwayhouse/halfwayhouselaw24.WeighLeast", spec := "weighLeast", inPlace := ["math.Float64bits"], unfollowed := true, recurses := true, apart := false }
def WeighLeastSaid : Prop := weighLeastRow.holds Try.pinned (OpenSpec.ofChange weighLeastSpec)

/-- ITS FALSE NEIGHBOUR: 'it returns false'. Refute it at one input. -/
def weighLeastWrong : ChangeSpec := { name := "weighLeast", fn := fun _ => fun
  | [d1, d2, d3] => { results := [.lit (.bool false)], args := [d1, d2, d3] }
  | _ => none }
def WeighLeastWrongFalsely : Prop := weighLeastRow.holds Try.pinned (OpenSpec.ofChange weighLeastWrong)

/-- 'halfwayhouselaw24.WeighCalls': WHATEVER THE INPUT: true; the input reads as it did. -/
def weighCallsSpec : ChangeSpec := { name := "weighCalls", fn := fun _ => fun
  | [d1, d2, d3, d4, d5] => { results := [.lit (.bool true)], args := [d1, d2, d3, d4, d5] }
  | _ => none }
def weighCallsRow : OpenClaim := { program := "ytbjfckcgpbejkaa", sum := "b3041363bd4561c16bb21092198dd070b751129b8aa46a6677ce92be159fffc7", func := "halfwayhouse/halfwayhouselaw24.WeighCalls", spec := "weighCalls", inPlace := ["math.Float64bits"], unfollowed := true, recurses := true, apart := false }
def WeighCallsSaid : Prop := weighCallsRow.holds Try.pinned (OpenSpec.ofChange weighCallsSpec)

/-- ITS FALSE NEIGHBOUR: 'it returns false'. Refute it at one input. -/
def weighCallsWrong : ChangeSpec := { name := "weighCalls", fn := fun _ => fun
  | [d1, d2, d3, d4, d5] => { results := [.lit (.bool false)], args := [d1, d2, d3, d4, d5] }
  | _ => none }
def WeighCallsWrongFalsely : Prop := weighCallsRow.holds Try.pinned (OpenSpec.ofChange weighCallsWrong)

/-- 'halfwayhouselaw24.WeighNames': WHATEVER THE INPUT: true; the input reads as it did. -/
def weighNamesSpec : ChangeSpec := { name := "weighNames", fn := fun _ => fun
  | [] => { results := [.lit (.bool true)], args := [] }
  | _ => none }
def weighNamesRow : OpenClaim := { program := "ytbjfckcgpbejkaa", sum := "b3041363bd4561c16bb21092198dd070b751129b8aa46a6677ce92be159fffc7", func := "halfwayhouse/halfwayhouselaw24.WeighNames", spec := "weighNames", inPlace := ["math.Float64bits"], unfollowed := true, recurses := true, apart := false }
def WeighNamesSaid : Prop := weighNamesRow.holds Try.pinned (OpenSpec.ofChange weighNamesSpec)

/-- ITS FALSE NEIGHBOUR: 'it returns false'. Refute it at one input. -/
def weighNamesWrong : ChangeSpec := { name := "weighNames", fn := fun _ => fun
  | [] => { results := [.lit (.bool false)], args := [] }
  | _ => none }
def WeighNamesWrongFalsely : Prop := weighNamesRow.holds Try.pinned (OpenSpec.ofChange weighNamesWrong)

/- THE SECOND FORM. 'bulk': how many values and letters a reading holds, each counted each time it is reached (what is shared counts as often as it is met; a slice's spare places count too). A statement '..UptoSaid' is the law's where the arguments, and the package variables that the reading takes, are together of bulk at most 1048576: NARROWER than '..Said'. Prove '..Said' where nothing that the law and all that it calls make is longer than what came in: it says more and counts as full. Else prove '..UptoSaid'. A law counts once. -/
mutual
def uptoBulk {H : Type} : DataW H → Nat
  | .lit (.string bytes) => bytes.length + 1
  | .lit _ => 1
  | .nil => 1
  | .ptr d => uptoBulk d + 1
  | .slice elems spare => uptoBulkAll elems + uptoBulkAll spare + 1
  | .agg parts => uptoBulkAll parts + 1
  | .iface _ d => uptoBulk d + 1
  | .map entries => uptoBulkEntries entries + 1
  | .held _ => 1
def uptoBulkAll {H : Type} : List (DataW H) → Nat
  | [] => 0
  | d :: r => uptoBulk d + uptoBulkAll r
def uptoBulkEntries {H : Type} : List (Lit × DataW H) → Nat
  | [] => 0
  | x :: r => uptoBulkEntry x + uptoBulkEntries r
def uptoBulkEntry {H : Type} : Lit × DataW H → Nat
  | (.string bytes, d) => bytes.length + uptoBulk d + 1
  | (_, d) => uptoBulk d + 1
 end
def uptoSmall : (H : Type) → List (DataW H) → Bool := fun _ ds => decide (uptoBulkAll ds ≤ 1048576)
def OpenSpec.upto (s : _root_.Go.ChangeSpec) : _root_.Go.OpenSpec := { _root_.Go.OpenSpec.ofChange s with cond := some uptoSmall }

/-- 'halfwayhouselaw24.WeighParts', WHERE WHAT IT READS IS OF BULK AT MOST 1048576: true; the input reads as it did. -/
def weighPartsUptoRow : OpenClaim := { program := "ytbjfckcgpbejkaa", sum := "b3041363bd4561c16bb21092198dd070b751129b8aa46a6677ce92be159fffc7", func := "halfwayhouse/halfwayhouselaw24.WeighParts", spec := "weighParts", inPlace := ["math.Float64bits"], apart := false, narrowed := true }
def WeighPartsUptoSaid : Prop := weighPartsUptoRow.holds Try.pinned (OpenSpec.upto weighPartsSpec)

/-- 'halfwayhouselaw24.WeighSums', WHERE WHAT IT READS IS OF BULK AT MOST 1048576: true; the input reads as it did. -/
def weighSumsUptoRow : OpenClaim := { program := "ytbjfckcgpbejkaa", sum := "b3041363bd4561c16bb21092198dd070b751129b8aa46a6677ce92be159fffc7", func := "halfwayhouse/halfwayhouselaw24.WeighSums", spec := "weighSums", inPlace := ["math.Float64bits"], apart := false, narrowed := true }
def WeighSumsUptoSaid : Prop := weighSumsUptoRow.holds Try.pinned (OpenSpec.upto weighSumsSpec)

/-- 'halfwayhouselaw24.WeighMoves', WHERE WHAT IT READS IS OF BULK AT MOST 1048576: true; the input reads as it did. -/
def weighMovesUptoRow : OpenClaim := { program := "ytbjfckcgpbejkaa", sum := "b3041363bd4561c16bb21092198dd070b751129b8aa46a6677ce92be159fffc7", func := "halfwayhouse/halfwayhouselaw24.WeighMoves", spec := "weighMoves", inPlace := ["math.Float64bits"], unfollowed := true, recurses := true, apart := false, narrowed := true }
def WeighMovesUptoSaid : Prop := weighMovesUptoRow.holds Try.pinned (OpenSpec.upto weighMovesSpec)

/-- 'halfwayhouselaw24.WeighLeast', WHERE WHAT IT READS IS OF BULK AT MOST 1048576: true; the input reads as it did. -/
def weighLeastUptoRow : OpenClaim := { program := "ytbjfckcgpbejkaa", sum := "b3041363bd4561c16bb21092198dd070b751129b8aa46a6677ce92be159fffc7", func := "halfwayhouse/halfwayhouselaw24.WeighLeast", spec := "weighLeast", inPlace := ["math.Float64bits"], unfollowed := true, recurses := true, apart := false, narrowed := true }
def WeighLeastUptoSaid : Prop := weighLeastUptoRow.holds Try.pinned (OpenSpec.upto weighLeastSpec)

/-- 'halfwayhouselaw24.WeighCalls', WHERE WHAT IT READS IS OF BULK AT MOST 1048576: true; the input reads as it did. -/
def weighCallsUptoRow : OpenClaim := { program := "ytbjfckcgpbejkaa", sum := "b3041363bd4561c16bb21092198dd070b751129b8aa46a6677ce92be159fffc7", func := "halfwayhouse/halfwayhouselaw24.WeighCalls", spec := "weighCalls", inPlace := ["math.Float64bits"], unfollowed := true, recurses := true, apart := false, narrowed := true }
def WeighCallsUptoSaid : Prop := weighCallsUptoRow.holds Try.pinned (OpenSpec.upto weighCallsSpec)

/-- 'halfwayhouselaw24.WeighNames', WHERE WHAT IT READS IS OF BULK AT MOST 1048576: true; the input reads as it did. -/
def weighNamesUptoRow : OpenClaim := { program := "ytbjfckcgpbejkaa", sum := "b3041363bd4561c16bb21092198dd070b751129b8aa46a6677ce92be159fffc7", func := "halfwayhouse/halfwayhouselaw24.WeighNames", spec := "weighNames", inPlace := ["math.Float64bits"], unfollowed := true, recurses := true, apart := false, narrowed := true }
def WeighNamesUptoSaid : Prop := weighNamesUptoRow.holds Try.pinned (OpenSpec.upto weighNamesSpec)

end Rows
end Go.Proofs.Ytbjfckcgpbejkaa
