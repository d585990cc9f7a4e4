/-
  No cell of these rows narrows 'for every input' (looked for: loops, veiled, ifaces, maps, wideKeys, modest, calm, conditions, laid).
  DERIVED. THE GIVEN ROWS OF THIS SEAT. 4 by the template 'for every input the law returns true; each argument reads behind the call as it read before'; 0 by the template 'total and deterministic' (their statements: YtkdalfdfepipiaaTotals.lean).
  GIVEN WITH THE SEED: the statements are not yours to turn. If you find one false, say at which input.
  Laid BY PROGRAM, IN A SANDBOX (cutbox-rows.mjs): the forced cells as the released guide's own fill.sh prints them over the translation 5ad65f6b821c3d2c… (all of the seat's roots in one cut). By AI agents, Wed Nov 11 2026. No macro, syntax, notation, axiom, sorry.
-/
import Derived.Test.YtkdalfdfepipiaaChecked
import GoSem.Claim
import GoSem.ClaimJoined
import GoSem.ClaimMapViews
import Derived.JoinedTies
import Derived.KernelRfl
namespace Go.Proofs.Ytkdalfdfepipiaa
/- THE CELL 'sum', in the pinned program and in every row, IS THE sha256 OF THE DUMP (.gsa) THAT YtkdalfdfepipiaaProg.lean LOADS. Nothing in Lean hashes anything: it is a label: what it is worth is what the hold of that sum in a sandbox is worth. -/
noncomputable def Try.pinned : Pinned := { name := "ytkdalfdfepipiaa", sum := "5ad65f6b821c3d2c0b5533bb6fd381f351dcdc7384283a45174d21b1d905b910", checked := Try.checked }
namespace Rows
def none {H : Type} : Left H := { results := [], args := [] }

/-- 'halfwayhouselaw25.PoolFinds': WHATEVER THE INPUT: true; the input reads as it did. -/
def poolFindsSpec : ChangeSpec := { name := "poolFinds", fn := fun _ => fun
  | [d1, d2, d3, d4] => { results := [.lit (.bool true)], args := [d1, d2, d3, d4] }
  | _ => none }
def poolFindsRow : OpenClaim := { program := "ytkdalfdfepipiaa", sum := "5ad65f6b821c3d2c0b5533bb6fd381f351dcdc7384283a45174d21b1d905b910", func := "halfwayhouse/halfwayhouselaw25.PoolFinds", spec := "poolFinds", inPlace := ["internal/bytealg.IndexByteString", "internal/bytealg.IndexString", "math.Float64bits"], unfollowed := true, recurses := true, named := ["internal/bytealg.MaxLen"], apart := false }
def PoolFindsSaid : Prop := poolFindsRow.holds Try.pinned (OpenSpec.ofChange poolFindsSpec)

/-- ITS FALSE NEIGHBOUR: 'it returns false'. Refute it at one input. -/
def poolFindsWrong : ChangeSpec := { name := "poolFinds", fn := fun _ => fun
  | [d1, d2, d3, d4] => { results := [.lit (.bool false)], args := [d1, d2, d3, d4] }
  | _ => none }
def PoolFindsWrongFalsely : Prop := poolFindsRow.holds Try.pinned (OpenSpec.ofChange poolFindsWrong)

/-- 'halfwayhouselaw25.PoolCopies': WHATEVER THE INPUT: true; the input reads as it did. -/
def poolCopiesSpec : ChangeSpec := { name := "poolCopies", fn := fun _ => fun
  | [d1, d2] => { results := [.lit (.bool true)], args := [d1, d2] }
  | _ => none }
def poolCopiesRow : OpenClaim := { program := "ytkdalfdfepipiaa", sum := "5ad65f6b821c3d2c0b5533bb6fd381f351dcdc7384283a45174d21b1d905b910", func := "halfwayhouse/halfwayhouselaw25.PoolCopies", spec := "poolCopies", inPlace := ["internal/bytealg.IndexByteString", "internal/bytealg.IndexString", "math.Float64bits"], unfollowed := true, recurses := true, named := ["internal/bytealg.MaxLen"], apart := false }
def PoolCopiesSaid : Prop := poolCopiesRow.holds Try.pinned (OpenSpec.ofChange poolCopiesSpec)

/-- ITS FALSE NEIGHBOUR: 'it returns false'. Refute it at one input. -/
def poolCopiesWrong : ChangeSpec := { name := "poolCopies", fn := fun _ => fun
  | [d1, d2] => { results := [.lit (.bool false)], args := [d1, d2] }
  | _ => none }
def PoolCopiesWrongFalsely : Prop := poolCopiesRow.holds Try.pinned (OpenSpec.ofChange poolCopiesWrong)

/-- 'halfwayhouselaw25.PoolSpoils': WHATEVER THE INPUT: true; the input reads as it did. -/
def poolSpoilsSpec : ChangeSpec := { name := "poolSpoils", fn := fun _ => fun
  | [d1, d2, d3] => { results := [.lit (.bool true)], args := [d1, d2, d3] }
  | _ => none }
def poolSpoilsRow : OpenClaim := { program := "ytkdalfdfepipiaa", sum := "5ad65f6b821c3d2c0b5533bb6fd381f351dcdc7384283a45174d21b1d905b910", func := "halfwayhouse/halfwayhouselaw25.PoolSpoils", spec := "poolSpoils", inPlace := ["internal/bytealg.IndexByteString", "internal/bytealg.IndexString", "math.Float64bits", "math.Float64frombits"], unfollowed := true, recurses := true, named := ["internal/bytealg.MaxLen"], apart := false }
def PoolSpoilsSaid : Prop := poolSpoilsRow.holds Try.pinned (OpenSpec.ofChange poolSpoilsSpec)

/-- ITS FALSE NEIGHBOUR: 'it returns false'. Refute it at one input. -/
def poolSpoilsWrong : ChangeSpec := { name := "poolSpoils", fn := fun _ => fun
  | [d1, d2, d3] => { results := [.lit (.bool false)], args := [d1, d2, d3] }
  | _ => none }
def PoolSpoilsWrongFalsely : Prop := poolSpoilsRow.holds Try.pinned (OpenSpec.ofChange poolSpoilsWrong)

/-- 'halfwayhouselaw25.PoolNames': WHATEVER THE INPUT: true; the input reads as it did. -/
def poolNamesSpec : ChangeSpec := { name := "poolNames", fn := fun _ => fun
  | [] => { results := [.lit (.bool true)], args := [] }
  | _ => none }
def poolNamesRow : OpenClaim := { program := "ytkdalfdfepipiaa", sum := "5ad65f6b821c3d2c0b5533bb6fd381f351dcdc7384283a45174d21b1d905b910", func := "halfwayhouse/halfwayhouselaw25.PoolNames", spec := "poolNames", inPlace := ["internal/bytealg.IndexByteString", "internal/bytealg.IndexString", "math.Float64bits", "math.Float64frombits"], unfollowed := true, recurses := true, named := ["internal/bytealg.MaxLen"], apart := false }
def PoolNamesSaid : Prop := poolNamesRow.holds Try.pinned (OpenSpec.ofChange poolNamesSpec)

/-- ITS FALSE NEIGHBOUR: 'it returns false'. Refute it at one input. -/
def poolNamesWrong : ChangeSpec := { name := "poolNames", fn := fun _ => fun
  | [] => { results := [.lit (.bool false)], args := [] }
  | _ => none }
def PoolNamesWrongFalsely : Prop := poolNamesRow.holds Try.pinned (OpenSpec.ofChange poolNamesWrong)

/- THE SECOND FORM. 'bulk': how many values and letters a reading holds, each counted each time it is reached (what is shared counts as often as it is met; a slice's spare places count too). A statement '..UptoSaid' is the law's where the arguments, and the package variables that the reading takes, are together of bulk at most 1048576: NARROWER than '..Said'. Prove '..Said' where nothing that the law and all that it calls make is longer than what came in: it says more and counts as full. Else prove '..UptoSaid'. A law counts once. -/
mutual
def uptoBulk {H : Type} : DataW H → Nat
  | .lit (.string bytes) => bytes.length + 1
  | .lit _ => 1
  | .nil => 1
  | .ptr d => uptoBulk d + 1
  | .slice elems spare => uptoBulkAll elems + uptoBulkAll spare + 1
  | .agg parts => uptoBulkAll parts + 1
  | .iface _ d => uptoBulk d + 1
  | .map entries => uptoBulkEntries entries + 1
  | .held _ => 1
def uptoBulkAll {H : Type} : List (DataW H) → Nat
  | [] => 0
  | d :: r => uptoBulk d + uptoBulkAll r
def uptoBulkEntries {H : Type} : List (Lit × DataW H) → Nat
  | [] => 0
  | x :: r => uptoBulkEntry x + uptoBulkEntries r
def uptoBulkEntry {H : Type} : Lit × DataW H → Nat
  | (.string bytes, d) => bytes.length + uptoBulk d + 1
  | (_, d) => uptoBulk d + 1
 end
def uptoSmall : (H : Type) → List (DataW H) → Bool := fun _ ds => decide (uptoBulkAll ds ≤ 1048576)
def OpenSpec.upto (s : _root_.Go.ChangeSpec) : _root_.Go.OpenSpec := { _root_.Go.OpenSpec.ofChange s with cond := some uptoSmall }

/-- 'halfwayhouselaw25.PoolFinds', WHERE WHAT IT READS IS OF BULK AT MOST 1048576: true; the input reads as it did. -/
def poolFindsUptoRow : OpenClaim := { program := "ytkdalfdfepipiaa", sum := "5ad65f6b821c3d2c0b5533bb6fd381f351dcdc7384283a45174d21b1d905b910", func := "halfwayhouse/halfwayhouselaw25.PoolFinds", spec := "poolFinds", inPlace := ["internal/bytealg.IndexByteString", "internal/bytealg.IndexString", "math.Float64bits"], unfollowed := true, recurses := true, named := ["internal/bytealg.MaxLen"], apart := false, narrowed := true }
def PoolFindsUptoSaid : Prop := poolFindsUptoRow.holds Try.pinned (OpenSpec.upto poolFindsSpec)

/-- 'halfwayhouselaw25.PoolCopies', WHERE WHAT IT READS IS OF BULK AT MOST 1048576: true; the input reads as it did. -/
def poolCopiesUptoRow : OpenClaim := { program := "ytkdalfdfepipiaa", sum := "5ad65f6b821c3d2c0b5533bb6fd381f351dcdc7384283a45174d21b1d905b910", func := "halfwayhouse/halfwayhouselaw25.PoolCopies", spec := "poolCopies", inPlace := ["internal/bytealg.IndexByteString", "internal/bytealg.IndexString", "math.Float64bits"], unfollowed := true, recurses := true, named := ["internal/bytealg.MaxLen"], apart := false, narrowed := true }
def PoolCopiesUptoSaid : Prop := poolCopiesUptoRow.holds Try.pinned (OpenSpec.upto poolCopiesSpec)

/-- 'halfwayhouselaw25.PoolSpoils', WHERE WHAT IT READS IS OF BULK AT MOST 1048576: true; the input reads as it did. -/
def poolSpoilsUptoRow : OpenClaim := { program := "ytkdalfdfepipiaa", sum := "5ad65f6b821c3d2c0b5533bb6fd381f351dcdc7384283a45174d21b1d905b910", func := "halfwayhouse/halfwayhouselaw25.PoolSpoils", spec := "poolSpoils", inPlace := ["internal/bytealg.IndexByteString", "internal/bytealg.IndexString", "math.Float64bits", "math.Float64frombits"], unfollowed := true, recurses := true, named := ["internal/bytealg.MaxLen"], apart := false, narrowed := true }
def PoolSpoilsUptoSaid : Prop := poolSpoilsUptoRow.holds Try.pinned (OpenSpec.upto poolSpoilsSpec)

/-- 'halfwayhouselaw25.PoolNames', WHERE WHAT IT READS IS OF BULK AT MOST 1048576: true; the input reads as it did. -/
def poolNamesUptoRow : OpenClaim := { program := "ytkdalfdfepipiaa", sum := "5ad65f6b821c3d2c0b5533bb6fd381f351dcdc7384283a45174d21b1d905b910", func := "halfwayhouse/halfwayhouselaw25.PoolNames", spec := "poolNames", inPlace := ["internal/bytealg.IndexByteString", "internal/bytealg.IndexString", "math.Float64bits", "math.Float64frombits"], unfollowed := true, recurses := true, named := ["internal/bytealg.MaxLen"], apart := false, narrowed := true }
def PoolNamesUptoSaid : Prop := poolNamesUptoRow.holds Try.pinned (OpenSpec.upto poolNamesSpec)

end Rows
end Go.Proofs.Ytkdalfdfepipiaa
