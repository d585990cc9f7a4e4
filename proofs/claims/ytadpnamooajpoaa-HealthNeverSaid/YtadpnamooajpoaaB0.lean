/- Health: printed short; what a state of a breaker bars. -/
import Derived.Test.YtadpnamooajpoaaA0
import Derived.Test.YtadpnamooajpoaaX21
import Derived.KernelRfl
namespace Go.Proofs.Ytadpnamooajpoaa
open Go.RowKit
set_option linter.unusedSimpArgs false
set_option linter.unusedVariables false
set_option linter.unusedSectionVars false
set_option maxRecDepth 100000
variable [Inhabited RawG]
abbrev aI (acts : List ActT) (i : Nat) : ActT := acts.getD i default
abbrev sN (b n : Nat) : Value := Value.slice (some ⟨b, 0, none⟩) n n
abbrev pN (b : Nat) : Value := Value.pointer (some ⟨b, 0, none⟩)
/-- A configuration. -/
structure CT where
  b1 : Int
  b2 : Int
  b3 : Int
  b4 : Int
  e1 : Int
  e2 : Int
  e3 : Int
  e4 : Int
  p1 : Int
  p2 : Int
  p3 : Int
  p4 : Int
abbrev pC (c : CT) (n x y : Nat) : ABlk := pB c.b1 c.b2 c.b3 c.b4 c.e1 c.e2 c.e3 c.e4 c.p1 c.p2 c.p3 c.p4 n x y
abbrev hQ (c : CT) (n : Nat) (bs : List BkT) (es : List EjT) (t : Heap) : Heap := hP c.b1 c.b2 c.b3 c.b4 c.e1 c.e2 c.e3 c.e4 c.p1 c.p2 c.p3 c.p4 n bs es t
abbrev hM (c : CT) (n : Nat) (bs : List BkT) (es : List EjT) (t : Heap) : Heap := hN c.b1 c.b2 c.b3 c.b4 c.e1 c.e2 c.e3 c.e4 c.p1 c.p2 c.p3 c.p4 n bs es t
abbrev bX (c : CT) : ABlk := ⟨29, [vI c.b1, vI c.b2, vI c.b3, vI c.b4, vI c.e1, vI c.e2, vI c.e3, vI c.e4, vI c.p1, vI c.p2, vI c.p3, vI c.p4], 0⟩
abbrev gB (l : List (BkT × EjT)) (x : Nat) : BkT := (l.getD x default).1
abbrev gE (l : List (BkT × EjT)) (x : Nat) : EjT := (l.getD x default).2
abbrev nwE (acts : List ActT) (k : Nat) (now : Int) : Int := IntKind.i64.wrap (now + pick_0 (aI acts k).m 50)
theorem ne3 {s : Int} (h : (s == 2) = true) : (s == 3) = false := by
  have : s = 2 := by simpa using h
  subst this; rfl
theorem fu1 {s u o nw ct un : Int} {up : Bool} (h2 : (s == 2) = false) (h3 : (s == 3) = false) (hu : decide (un > nw) = false) (kb : s = 2 ∧ u > nw ∨ s = 3 ∧ o ≥ ct ∨ un > nw ∨ up = false) : (false == !up) = false := by
  have h2 := beq_eq_false_iff_ne.1 h2; have h3 := beq_eq_false_iff_ne.1 h3; have hu := of_decide_eq_false hu
  rcases kb with ⟨a, _⟩ | ⟨a, _⟩ | a | a
  · exact absurd a h2
  · exact absurd a h3
  · exact absurd a hu
  · rw [a]; rfl
theorem fu2 {s u o nw ct un : Int} {up : Bool} (h2 : (s == 2) = true) (hq : decide (u > nw) = false) (hu : decide (un > nw) = false) (kb : s = 2 ∧ u > nw ∨ s = 3 ∧ o ≥ ct ∨ un > nw ∨ up = false) : (false == !up) = false := by
  have h2 : s = 2 := by simpa using h2
  have hq := of_decide_eq_false hq; have hu := of_decide_eq_false hu
  rcases kb with ⟨_, a⟩ | ⟨a, _⟩ | a | a
  · exact absurd a hq
  · omega
  · exact absurd a hu
  · rw [a]; rfl
theorem fu3 {s u o nw ct un : Int} {up : Bool} (h3 : (s == 3) = true) (hq : decide (o ≥ ct) = false) (hu : decide (un > nw) = false) (kb : s = 2 ∧ u > nw ∨ s = 3 ∧ o ≥ ct ∨ un > nw ∨ up = false) : (false == !up) = false := by
  have h3 : s = 3 := by simpa using h3
  have hq := of_decide_eq_false hq; have hu := of_decide_eq_false hu
  rcases kb with ⟨a, _⟩ | ⟨_, a⟩ | a | a
  · omega
  · exact absurd a hq
  · exact absurd a hu
  · rw [a]; rfl
end Go.Proofs.Ytadpnamooajpoaa
