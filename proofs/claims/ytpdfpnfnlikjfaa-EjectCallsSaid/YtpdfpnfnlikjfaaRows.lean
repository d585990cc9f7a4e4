/-
  No cell of these rows narrows 'for every input' (looked for: loops, veiled, ifaces, maps, wideKeys, modest, calm, conditions, laid).
  DERIVED. THE GIVEN ROWS OF THIS SEAT. 5 by the template 'for every input the law returns true; each argument reads behind the call as it read before'; 0 by the template 'total and deterministic' (their statements: YtpdfpnfnlikjfaaTotals.lean).
  GIVEN WITH THE SEED: the statements are not yours to turn. If you find one false, say at which input.
  Laid BY PROGRAM, IN A SANDBOX (cutbox-rows.mjs): the forced cells as the released guide's own fill.sh prints them over the translation 7eca06d8bf5c118d… (all of the seat's roots in one cut). By AI agents, Wed Nov 11 2026. No macro, syntax, notation, axiom, sorry.
-/
import Derived.Test.YtpdfpnfnlikjfaaChecked
import GoSem.Claim
import GoSem.ClaimJoined
import GoSem.ClaimMapViews
import Derived.JoinedTies
import Derived.KernelRfl
namespace Go.Proofs.Ytpdfpnfnlikjfaa
/- THE CELL 'sum', in the pinned program and in every row, IS THE sha256 OF THE DUMP (.gsa) THAT YtpdfpnfnlikjfaaProg.lean LOADS. Nothing in Lean hashes anything: it is a label: what it is worth is what the hold of that sum in a sandbox is worth. -/
noncomputable def Try.pinned : Pinned := { name := "ytpdfpnfnlikjfaa", sum := "7eca06d8bf5c118db238d93dda065a07168bab82b56476947cdacf4fe1793935", checked := Try.checked }
namespace Rows
def none {H : Type} : Left H := { results := [], args := [] }

/-- 'halfwayhouselaw20.EjectNames': WHATEVER THE INPUT: true; the input reads as it did. -/
def ejectNamesSpec : ChangeSpec := { name := "ejectNames", fn := fun _ => fun
  | [] => { results := [.lit (.bool true)], args := [] }
  | _ => none }
def ejectNamesRow : OpenClaim := { program := "ytpdfpnfnlikjfaa", sum := "7eca06d8bf5c118db238d93dda065a07168bab82b56476947cdacf4fe1793935", func := "halfwayhouse/halfwayhouselaw20.EjectNames", spec := "ejectNames", unfollowed := true, recurses := true, apart := false }
def EjectNamesSaid : Prop := ejectNamesRow.holds Try.pinned (OpenSpec.ofChange ejectNamesSpec)

/-- ITS FALSE NEIGHBOUR: 'it returns false'. Refute it at one input. -/
def ejectNamesWrong : ChangeSpec := { name := "ejectNames", fn := fun _ => fun
  | [] => { results := [.lit (.bool false)], args := [] }
  | _ => none }
def EjectNamesWrongFalsely : Prop := ejectNamesRow.holds Try.pinned (OpenSpec.ofChange ejectNamesWrong)

/-- 'halfwayhouselaw20.EjectCalls': WHATEVER THE INPUT: true; the input reads as it did. -/
def ejectCallsSpec : ChangeSpec := { name := "ejectCalls", fn := fun _ => fun
  | [d1, d2, d3, d4, d5, d6] => { results := [.lit (.bool true)], args := [d1, d2, d3, d4, d5, d6] }
  | _ => none }
def ejectCallsRow : OpenClaim := { program := "ytpdfpnfnlikjfaa", sum := "7eca06d8bf5c118db238d93dda065a07168bab82b56476947cdacf4fe1793935", func := "halfwayhouse/halfwayhouselaw20.EjectCalls", spec := "ejectCalls", unfollowed := true, recurses := true, apart := false }
def EjectCallsSaid : Prop := ejectCallsRow.holds Try.pinned (OpenSpec.ofChange ejectCallsSpec)

/-- ITS FALSE NEIGHBOUR: 'it returns false'. Refute it at one input. -/
def ejectCallsWrong : ChangeSpec := { name := "ejectCalls", fn := fun _ => fun
  | [d1, d2, d3, d4, d5, d6] => { results := [.lit (.bool false)], args := [d1, d2, d3, d4, d5, d6] }
  | _ => none }
def EjectCallsWrongFalsely : Prop := ejectCallsRow.holds Try.pinned (OpenSpec.ofChange ejectCallsWrong)

/-- 'halfwayhouselaw20.EjectPart': WHATEVER THE INPUT: true; the input reads as it did. -/
def ejectPartSpec : ChangeSpec := { name := "ejectPart", fn := fun _ => fun
  | [d1, d2, d3] => { results := [.lit (.bool true)], args := [d1, d2, d3] }
  | _ => none }
def ejectPartRow : OpenClaim := { program := "ytpdfpnfnlikjfaa", sum := "7eca06d8bf5c118db238d93dda065a07168bab82b56476947cdacf4fe1793935", func := "halfwayhouse/halfwayhouselaw20.EjectPart", spec := "ejectPart", unfollowed := true, recurses := true, apart := false }
def EjectPartSaid : Prop := ejectPartRow.holds Try.pinned (OpenSpec.ofChange ejectPartSpec)

/-- ITS FALSE NEIGHBOUR: 'it returns false'. Refute it at one input. -/
def ejectPartWrong : ChangeSpec := { name := "ejectPart", fn := fun _ => fun
  | [d1, d2, d3] => { results := [.lit (.bool false)], args := [d1, d2, d3] }
  | _ => none }
def EjectPartWrongFalsely : Prop := ejectPartRow.holds Try.pinned (OpenSpec.ofChange ejectPartWrong)

/-- 'halfwayhouselaw20.EjectLonger': WHATEVER THE INPUT: true; the input reads as it did. -/
def ejectLongerSpec : ChangeSpec := { name := "ejectLonger", fn := fun _ => fun
  | [d1, d2] => { results := [.lit (.bool true)], args := [d1, d2] }
  | _ => none }
def ejectLongerRow : OpenClaim := { program := "ytpdfpnfnlikjfaa", sum := "7eca06d8bf5c118db238d93dda065a07168bab82b56476947cdacf4fe1793935", func := "halfwayhouse/halfwayhouselaw20.EjectLonger", spec := "ejectLonger", unfollowed := true, recurses := true, apart := false }
def EjectLongerSaid : Prop := ejectLongerRow.holds Try.pinned (OpenSpec.ofChange ejectLongerSpec)

/-- ITS FALSE NEIGHBOUR: 'it returns false'. Refute it at one input. -/
def ejectLongerWrong : ChangeSpec := { name := "ejectLonger", fn := fun _ => fun
  | [d1, d2] => { results := [.lit (.bool false)], args := [d1, d2] }
  | _ => none }
def EjectLongerWrongFalsely : Prop := ejectLongerRow.holds Try.pinned (OpenSpec.ofChange ejectLongerWrong)

/-- 'halfwayhouselaw20.EjectWell': WHATEVER THE INPUT: true; the input reads as it did. -/
def ejectWellSpec : ChangeSpec := { name := "ejectWell", fn := fun _ => fun
  | [d1, d2, d3, d4] => { results := [.lit (.bool true)], args := [d1, d2, d3, d4] }
  | _ => none }
def ejectWellRow : OpenClaim := { program := "ytpdfpnfnlikjfaa", sum := "7eca06d8bf5c118db238d93dda065a07168bab82b56476947cdacf4fe1793935", func := "halfwayhouse/halfwayhouselaw20.EjectWell", spec := "ejectWell", unfollowed := true, recurses := true, apart := false }
def EjectWellSaid : Prop := ejectWellRow.holds Try.pinned (OpenSpec.ofChange ejectWellSpec)

/-- ITS FALSE NEIGHBOUR: 'it returns false'. Refute it at one input. -/
def ejectWellWrong : ChangeSpec := { name := "ejectWell", fn := fun _ => fun
  | [d1, d2, d3, d4] => { results := [.lit (.bool false)], args := [d1, d2, d3, d4] }
  | _ => none }
def EjectWellWrongFalsely : Prop := ejectWellRow.holds Try.pinned (OpenSpec.ofChange ejectWellWrong)

/- THE SECOND FORM. 'bulk': how many values and letters a reading holds, each counted each time it is reached (what is shared counts as often as it is met; a slice's spare places count too). A statement '..UptoSaid' is the law's where the arguments, and the package variables that the reading takes, are together of bulk at most 1048576: NARROWER than '..Said'. Prove '..Said' where nothing that the law and all that it calls make is longer than what came in: it says more and counts as full. Else prove '..UptoSaid'. A law counts once. -/
mutual
def uptoBulk {H : Type} : DataW H → Nat
  | .lit (.string bytes) => bytes.length + 1
  | .lit _ => 1
  | .nil => 1
  | .ptr d => uptoBulk d + 1
  | .slice elems spare => uptoBulkAll elems + uptoBulkAll spare + 1
  | .agg parts => uptoBulkAll parts + 1
  | .iface _ d => uptoBulk d + 1
  | .map entries => uptoBulkEntries entries + 1
  | .held _ => 1
def uptoBulkAll {H : Type} : List (DataW H) → Nat
  | [] => 0
  | d :: r => uptoBulk d + uptoBulkAll r
def uptoBulkEntries {H : Type} : List (Lit × DataW H) → Nat
  | [] => 0
  | x :: r => uptoBulkEntry x + uptoBulkEntries r
def uptoBulkEntry {H : Type} : Lit × DataW H → Nat
  | (.string bytes, d) => bytes.length + uptoBulk d + 1
  | (_, d) => uptoBulk d + 1
 end
def uptoSmall : (H : Type) → List (DataW H) → Bool := fun _ ds => decide (uptoBulkAll ds ≤ 1048576)
def OpenSpec.upto (s : _root_.Go.ChangeSpec) : _root_.Go.OpenSpec := { _root_.Go.OpenSpec.ofChange s with cond := some uptoSmall }

/-- 'halfwayhouselaw20.EjectNames', WHERE WHAT IT READS IS OF BULK AT MOST 1048576: true; the input reads as it did. -/
def ejectNamesUptoRow : OpenClaim := { program := "ytpdfpnfnlikjfaa", sum := "7eca06d8bf5c118db238d93dda065a07168bab82b56476947cdacf4fe1793935", func := "halfwayhouse/halfwayhouselaw20.EjectNames", spec := "ejectNames", unfollowed := true, recurses := true, apart := false, narrowed := true }
def EjectNamesUptoSaid : Prop := ejectNamesUptoRow.holds Try.pinned (OpenSpec.upto ejectNamesSpec)

/-- 'halfwayhouselaw20.EjectCalls', WHERE WHAT IT READS IS OF BULK AT MOST 1048576: true; the input reads as it did. -/
def ejectCallsUptoRow : OpenClaim := { program := "ytpdfpnfnlikjfaa", sum := "7eca06d8bf5c118db238d93dda065a07168bab82b56476947cdacf4fe1793935", func := "halfwayhouse/halfwayhouselaw20.EjectCalls", spec := "ejectCalls", unfollowed := true, recurses := true, apart := false, narrowed := true }
def EjectCallsUptoSaid : Prop := ejectCallsUptoRow.holds Try.pinned (OpenSpec.upto ejectCallsSpec)

/-- 'halfwayhouselaw20.EjectPart', WHERE WHAT IT READS IS OF BULK AT MOST 1048576: true; the input reads as it did. -/
def ejectPartUptoRow : OpenClaim := { program := "ytpdfpnfnlikjfaa", sum := "7eca06d8bf5c118db238d93dda065a07168bab82b56476947cdacf4fe1793935", func := "halfwayhouse/halfwayhouselaw20.EjectPart", spec := "ejectPart", unfollowed := true, recurses := true, apart := false, narrowed := true }
def EjectPartUptoSaid : Prop := ejectPartUptoRow.holds Try.pinned (OpenSpec.upto ejectPartSpec)

/-- 'halfwayhouselaw20.EjectLonger', WHERE WHAT IT READS IS OF BULK AT MOST 1048576: true; the input reads as it did. -/
def ejectLongerUptoRow : OpenClaim := { program := "ytpdfpnfnlikjfaa", sum := "7eca06d8bf5c118db238d93dda065a07168bab82b56476947cdacf4fe1793935", func := "halfwayhouse/halfwayhouselaw20.EjectLonger", spec := "ejectLonger", unfollowed := true, recurses := true, apart := false, narrowed := true }
def EjectLongerUptoSaid : Prop := ejectLongerUptoRow.holds Try.pinned (OpenSpec.upto ejectLongerSpec)

/-- 'halfwayhouselaw20.EjectWell', WHERE WHAT IT READS IS OF BULK AT MOST 1048576: true; the input reads as it did. -/
def ejectWellUptoRow : OpenClaim := { program := "ytpdfpnfnlikjfaa", sum := "7eca06d8bf5c118db238d93dda065a07168bab82b56476947cdacf4fe1793935", func := "halfwayhouse/halfwayhouselaw20.EjectWell", spec := "ejectWell", unfollowed := true, recurses := true, apart := false, narrowed := true }
def EjectWellUptoSaid : Prop := ejectWellUptoRow.holds Try.pinned (OpenSpec.upto ejectWellSpec)

end Rows
end Go.Proofs.Ytpdfpnfnlikjfaa
