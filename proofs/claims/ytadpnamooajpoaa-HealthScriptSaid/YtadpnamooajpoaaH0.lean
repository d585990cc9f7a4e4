/- Health: what is known of a backend, in plain words. -/
import Derived.Test.YtadpnamooajpoaaR1
import Derived.Test.YtadpnamooajpoaaS6
namespace Go.Proofs.Ytadpnamooajpoaa
open Go.RowKit
set_option linter.unusedSectionVars false
set_option linter.unusedSimpArgs false
set_option linter.unusedVariables false
/-- A backend: its breaker, its probe. -/
structure BkT where
  s : Int
  f : Int
  u : Int
  o : Int
  g : Int
  p : Int
  up : Bool
  run : Int
  nxt : Int
  ot : Bool
  since : Int
instance : Inhabited BkT := ⟨⟨0, 0, 0, 0, 0, 0, false, 0, 0, false, 0⟩⟩
abbrev bkF : BkT → List Value := fun t => [.int .i64 t.s, .int .i64 t.f, .int .i64 t.u, .int .i64 t.o, .int .i64 t.g, .int .i64 t.p, .bool t.up, .int .i64 t.run, .int .i64 t.nxt, .bool t.ot, .int .i64 t.since]
theorem bk11 (t : BkT) : (bkF t).length = 11 := rfl
theorem bk_one (t : BkT) : ∀ u ∈ bkF t, flat0 u = true ∧ u.oneCell' = true := by
  intro u hu
  simp at hu
  rcases hu with rfl | rfl | rfl | rfl | rfl | rfl | rfl | rfl | rfl | rfl | rfl <;> exact ⟨rfl, rfl⟩
/-- A pool's block. -/
abbrev pB (b1 b2 b3 b4 e1 e2 e3 e4 p1 p2 p3 p4 : Int) (n x y : Nat) : ABlk := ⟨74, [Value.int IntKind.i64 b1, Value.int IntKind.i64 b2, Value.int IntKind.i64 b3, Value.int IntKind.i64 b4, Value.int IntKind.i64 e1, Value.int IntKind.i64 e2, Value.int IntKind.i64 e3, Value.int IntKind.i64 e4, Value.int IntKind.i64 p1, Value.int IntKind.i64 p2, Value.int IntKind.i64 p3, Value.int IntKind.i64 p4, Value.slice (some { block := x, off := 0 }) n n, Value.slice (some { block := y, off := 0 }) n n], 0⟩
abbrev vI (x : Int) : Value := Value.int IntKind.i64 x
/-- A pool, and more. -/
abbrev hP (b1 b2 b3 b4 e1 e2 e3 e4 p1 p2 p3 p4 : Int) (n : Nat) (bs : List BkT) (es : List EjT) (t : Heap) : Heap := (0, ⟨78, List.flatMap bkF bs, 3⟩) :: (1, pB b1 b2 b3 b4 e1 e2 e3 e4 p1 p2 p3 p4 n 0 2) :: (2, ⟨48, List.flatMap ejF es, 3⟩) :: t
abbrev hN (b1 b2 b3 b4 e1 e2 e3 e4 p1 p2 p3 p4 : Int) (n : Nat) (bs : List BkT) (es : List EjT) (t : Heap) : Heap := (1664, ⟨78, List.flatMap bkF bs, 3⟩) :: (1665, pB b1 b2 b3 b4 e1 e2 e3 e4 p1 p2 p3 p4 n 1664 1666) :: (1666, ⟨48, List.flatMap ejF es, 3⟩) :: t
end Go.Proofs.Ytadpnamooajpoaa
