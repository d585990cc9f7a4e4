/-
  No cell of these rows narrows 'for every input' (looked for: loops, veiled, ifaces, maps, wideKeys, modest, calm, conditions, laid).
  DERIVED. THE GIVEN ROWS OF THIS SEAT. 5 by the template 'for every input the law returns true; each argument reads behind the call as it read before'; 0 by the template 'total and deterministic' (their statements: YtadpnamooajpoaaTotals.lean).
  GIVEN WITH THE SEED: the statements are not yours to turn. If you find one false, say at which input.
  Laid BY PROGRAM, IN A SANDBOX (cutbox-rows.mjs): the forced cells as the released guide's own fill.sh prints them over the translation f35f8d9dc19bad6f… (all of the seat's roots in one cut). By AI agents, Wed Nov 11 2026. No macro, syntax, notation, axiom, sorry.
-/
import Derived.Test.YtadpnamooajpoaaChecked
import GoSem.Claim
import GoSem.ClaimJoined
import GoSem.ClaimMapViews
import Derived.JoinedTies
import Derived.KernelRfl
namespace Go.Proofs.Ytadpnamooajpoaa
/- THE CELL 'sum', in the pinned program and in every row, IS THE sha256 OF THE DUMP (.gsa) THAT YtadpnamooajpoaaProg.lean LOADS. Nothing in Lean hashes anything: it is a label: what it is worth is what the hold of that sum in a sandbox is worth. -/
noncomputable def Try.pinned : Pinned := { name := "ytadpnamooajpoaa", sum := "f35f8d9dc19bad6f4ace7f1ae3997a92fd197242d430ae43d0fc57ac884c2777", checked := Try.checked }
namespace Rows
def none {H : Type} : Left H := { results := [], args := [] }

/-- 'halfwayhouselaw22.HealthNever': WHATEVER THE INPUT: true; the input reads as it did. -/
def healthNeverSpec : ChangeSpec := { name := "healthNever", fn := fun _ => fun
  | [d1, d2, d3] => { results := [.lit (.bool true)], args := [d1, d2, d3] }
  | _ => none }
def healthNeverRow : OpenClaim := { program := "ytadpnamooajpoaa", sum := "f35f8d9dc19bad6f4ace7f1ae3997a92fd197242d430ae43d0fc57ac884c2777", func := "halfwayhouse/halfwayhouselaw22.HealthNever", spec := "healthNever", unfollowed := true, recurses := true, apart := false }
def HealthNeverSaid : Prop := healthNeverRow.holds Try.pinned (OpenSpec.ofChange healthNeverSpec)

/-- ITS FALSE NEIGHBOUR: 'it returns false'. Refute it at one input. -/
def healthNeverWrong : ChangeSpec := { name := "healthNever", fn := fun _ => fun
  | [d1, d2, d3] => { results := [.lit (.bool false)], args := [d1, d2, d3] }
  | _ => none }
def HealthNeverWrongFalsely : Prop := healthNeverRow.holds Try.pinned (OpenSpec.ofChange healthNeverWrong)

/-- 'halfwayhouselaw22.HealthApart': WHATEVER THE INPUT: true; the input reads as it did. -/
def healthApartSpec : ChangeSpec := { name := "healthApart", fn := fun _ => fun
  | [d1, d2, d3] => { results := [.lit (.bool true)], args := [d1, d2, d3] }
  | _ => none }
def healthApartRow : OpenClaim := { program := "ytadpnamooajpoaa", sum := "f35f8d9dc19bad6f4ace7f1ae3997a92fd197242d430ae43d0fc57ac884c2777", func := "halfwayhouse/halfwayhouselaw22.HealthApart", spec := "healthApart", unfollowed := true, recurses := true, apart := false }
def HealthApartSaid : Prop := healthApartRow.holds Try.pinned (OpenSpec.ofChange healthApartSpec)

/-- ITS FALSE NEIGHBOUR: 'it returns false'. Refute it at one input. -/
def healthApartWrong : ChangeSpec := { name := "healthApart", fn := fun _ => fun
  | [d1, d2, d3] => { results := [.lit (.bool false)], args := [d1, d2, d3] }
  | _ => none }
def HealthApartWrongFalsely : Prop := healthApartRow.holds Try.pinned (OpenSpec.ofChange healthApartWrong)

/-- 'halfwayhouselaw22.HealthNames': WHATEVER THE INPUT: true; the input reads as it did. -/
def healthNamesSpec : ChangeSpec := { name := "healthNames", fn := fun _ => fun
  | [] => { results := [.lit (.bool true)], args := [] }
  | _ => none }
def healthNamesRow : OpenClaim := { program := "ytadpnamooajpoaa", sum := "f35f8d9dc19bad6f4ace7f1ae3997a92fd197242d430ae43d0fc57ac884c2777", func := "halfwayhouse/halfwayhouselaw22.HealthNames", spec := "healthNames", unfollowed := true, recurses := true, apart := false }
def HealthNamesSaid : Prop := healthNamesRow.holds Try.pinned (OpenSpec.ofChange healthNamesSpec)

/-- ITS FALSE NEIGHBOUR: 'it returns false'. Refute it at one input. -/
def healthNamesWrong : ChangeSpec := { name := "healthNames", fn := fun _ => fun
  | [] => { results := [.lit (.bool false)], args := [] }
  | _ => none }
def HealthNamesWrongFalsely : Prop := healthNamesRow.holds Try.pinned (OpenSpec.ofChange healthNamesWrong)

/-- 'halfwayhouselaw22.HealthScript': WHATEVER THE INPUT: true; the input reads as it did. -/
def healthScriptSpec : ChangeSpec := { name := "healthScript", fn := fun _ => fun
  | [d1, d2, d3, d4] => { results := [.lit (.bool true)], args := [d1, d2, d3, d4] }
  | _ => none }
def healthScriptRow : OpenClaim := { program := "ytadpnamooajpoaa", sum := "f35f8d9dc19bad6f4ace7f1ae3997a92fd197242d430ae43d0fc57ac884c2777", func := "halfwayhouse/halfwayhouselaw22.HealthScript", spec := "healthScript", unfollowed := true, recurses := true, apart := false }
def HealthScriptSaid : Prop := healthScriptRow.holds Try.pinned (OpenSpec.ofChange healthScriptSpec)

/-- ITS FALSE NEIGHBOUR: 'it returns false'. Refute it at one input. -/
def healthScriptWrong : ChangeSpec := { name := "healthScript", fn := fun _ => fun
  | [d1, d2, d3, d4] => { results := [.lit (.bool false)], args := [d1, d2, d3, d4] }
  | _ => none }
def HealthScriptWrongFalsely : Prop := healthScriptRow.holds Try.pinned (OpenSpec.ofChange healthScriptWrong)

/-- 'halfwayhouselaw22.HealthNil': WHATEVER THE INPUT: true; the input reads as it did. -/
def healthNilSpec : ChangeSpec := { name := "healthNil", fn := fun _ => fun
  | [d1, d2, d3] => { results := [.lit (.bool true)], args := [d1, d2, d3] }
  | _ => none }
def healthNilRow : OpenClaim := { program := "ytadpnamooajpoaa", sum := "f35f8d9dc19bad6f4ace7f1ae3997a92fd197242d430ae43d0fc57ac884c2777", func := "halfwayhouse/halfwayhouselaw22.HealthNil", spec := "healthNil", unfollowed := true, recurses := true, apart := false }
def HealthNilSaid : Prop := healthNilRow.holds Try.pinned (OpenSpec.ofChange healthNilSpec)

/-- ITS FALSE NEIGHBOUR: 'it returns false'. Refute it at one input. -/
def healthNilWrong : ChangeSpec := { name := "healthNil", fn := fun _ => fun
  | [d1, d2, d3] => { results := [.lit (.bool false)], args := [d1, d2, d3] }
  | _ => none }
def HealthNilWrongFalsely : Prop := healthNilRow.holds Try.pinned (OpenSpec.ofChange healthNilWrong)

/- THE SECOND FORM. 'bulk': how many values and letters a reading holds, each counted each time it is reached (what is shared counts as often as it is met; a slice's spare places count too). A statement '..UptoSaid' is the law's where the arguments, and the package variables that the reading takes, are together of bulk at most 1048576: NARROWER than '..Said'. Prove '..Said' where nothing that the law and all that it calls make is longer than what came in: it says more and counts as full. Else prove '..UptoSaid'. A law counts once. -/
mutual
def uptoBulk {H : Type} : DataW H → Nat
  | .lit (.string bytes) => bytes.length + 1
  | .lit _ => 1
  | .nil => 1
  | .ptr d => uptoBulk d + 1
  | .slice elems spare => uptoBulkAll elems + uptoBulkAll spare + 1
  | .agg parts => uptoBulkAll parts + 1
  | .iface _ d => uptoBulk d + 1
  | .map entries => uptoBulkEntries entries + 1
  | .held _ => 1
def uptoBulkAll {H : Type} : List (DataW H) → Nat
  | [] => 0
  | d :: r => uptoBulk d + uptoBulkAll r
def uptoBulkEntries {H : Type} : List (Lit × DataW H) → Nat
  | [] => 0
  | x :: r => uptoBulkEntry x + uptoBulkEntries r
def uptoBulkEntry {H : Type} : Lit × DataW H → Nat
  | (.string bytes, d) => bytes.length + uptoBulk d + 1
  | (_, d) => uptoBulk d + 1
 end
def uptoSmall : (H : Type) → List (DataW H) → Bool := fun _ ds => decide (uptoBulkAll ds ≤ 1048576)
def OpenSpec.upto (s : _root_.Go.ChangeSpec) : _root_.Go.OpenSpec := { _root_.Go.OpenSpec.ofChange s with cond := some uptoSmall }

/-- 'halfwayhouselaw22.HealthNever', WHERE WHAT IT READS IS OF BULK AT MOST 1048576: true; the input reads as it did. -/
def healthNeverUptoRow : OpenClaim := { program := "ytadpnamooajpoaa", sum := "f35f8d9dc19bad6f4ace7f1ae3997a92fd197242d430ae43d0fc57ac884c2777", func := "halfwayhouse/halfwayhouselaw22.HealthNever", spec := "healthNever", unfollowed := true, recurses := true, apart := false, narrowed := true }
def HealthNeverUptoSaid : Prop := healthNeverUptoRow.holds Try.pinned (OpenSpec.upto healthNeverSpec)

/-- 'halfwayhouselaw22.HealthApart', WHERE WHAT IT READS IS OF BULK AT MOST 1048576: true; the input reads as it did. -/
def healthApartUptoRow : OpenClaim := { program := "ytadpnamooajpoaa", sum := "f35f8d9dc19bad6f4ace7f1ae3997a92fd197242d430ae43d0fc57ac884c2777", func := "halfwayhouse/halfwayhouselaw22.HealthApart", spec := "healthApart", unfollowed := true, recurses := true, apart := false, narrowed := true }
def HealthApartUptoSaid : Prop := healthApartUptoRow.holds Try.pinned (OpenSpec.upto healthApartSpec)

/-- 'halfwayhouselaw22.HealthNames', WHERE WHAT IT READS IS OF BULK AT MOST 1048576: true; the input reads as it did. -/
def healthNamesUptoRow : OpenClaim := { program := "ytadpnamooajpoaa", sum := "f35f8d9dc19bad6f4ace7f1ae3997a92fd197242d430ae43d0fc57ac884c2777", func := "halfwayhouse/halfwayhouselaw22.HealthNames", spec := "healthNames", unfollowed := true, recurses := true, apart := false, narrowed := true }
def HealthNamesUptoSaid : Prop := healthNamesUptoRow.holds Try.pinned (OpenSpec.upto healthNamesSpec)

/-- 'halfwayhouselaw22.HealthScript', WHERE WHAT IT READS IS OF BULK AT MOST 1048576: true; the input reads as it did. -/
def healthScriptUptoRow : OpenClaim := { program := "ytadpnamooajpoaa", sum := "f35f8d9dc19bad6f4ace7f1ae3997a92fd197242d430ae43d0fc57ac884c2777", func := "halfwayhouse/halfwayhouselaw22.HealthScript", spec := "healthScript", unfollowed := true, recurses := true, apart := false, narrowed := true }
def HealthScriptUptoSaid : Prop := healthScriptUptoRow.holds Try.pinned (OpenSpec.upto healthScriptSpec)

/-- 'halfwayhouselaw22.HealthNil', WHERE WHAT IT READS IS OF BULK AT MOST 1048576: true; the input reads as it did. -/
def healthNilUptoRow : OpenClaim := { program := "ytadpnamooajpoaa", sum := "f35f8d9dc19bad6f4ace7f1ae3997a92fd197242d430ae43d0fc57ac884c2777", func := "halfwayhouse/halfwayhouselaw22.HealthNil", spec := "healthNil", unfollowed := true, recurses := true, apart := false, narrowed := true }
def HealthNilUptoSaid : Prop := healthNilUptoRow.holds Try.pinned (OpenSpec.upto healthNilSpec)

end Rows
end Go.Proofs.Ytadpnamooajpoaa
