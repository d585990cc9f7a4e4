/- Operations on floats, said hard. -/
import Derived.Test.YtbjfckcgpbejkaaX17
import Derived.Test.YtbjfckcgpbejkaaFL
namespace Go.Proofs.Ytbjfckcgpbejkaa
open Go.RowKit
set_option linter.unusedVariables false
theorem hard_quo {P : Program} {ev : Operand → Value} {d : Option Nat} {t t2 ty : TypeId} {x y : Operand} {pos : String} {af : Array Edge} {gd : Option (Nat × Bool)} {a b r : Nat} (hx : ev x = .float .f64 a) (hy : ev y = .float .f64 b) (h : Ieee.double.div a b = some r) :
    peval P (execOp ev { dst := d, op := .binOp .quo t x y t2, type := ty, pos := pos, after := af, guard := gd }) = some (.value (.float .f64 r)) := by
  have h' : FloatKind.f64.format.div a b = some r := h
  simp only [execOp, hx, hy, eqGuard, binOp, Op.floatArith, h', if_neg (show ¬ (FloatKind.f64 ≠ FloatKind.f64) by simp)]
  rfl
theorem hard_add {P : Program} {ev : Operand → Value} {d : Option Nat} {t t2 ty : TypeId} {x y : Operand} {pos : String} {af : Array Edge} {gd : Option (Nat × Bool)} {a b r : Nat} (hx : ev x = .float .f64 a) (hy : ev y = .float .f64 b) (h : Ieee.double.add a b = some r) :
    peval P (execOp ev { dst := d, op := .binOp .add t x y t2, type := ty, pos := pos, after := af, guard := gd }) = some (.value (.float .f64 r)) := by
  have h' : FloatKind.f64.format.add a b = some r := h
  simp only [execOp, hx, hy, eqGuard, binOp, Op.floatArith, h', if_neg (show ¬ (FloatKind.f64 ≠ FloatKind.f64) by simp)]
  rfl
theorem hard_sub {P : Program} {ev : Operand → Value} {d : Option Nat} {t t2 ty : TypeId} {x y : Operand} {pos : String} {af : Array Edge} {gd : Option (Nat × Bool)} {a b r : Nat} (hx : ev x = .float .f64 a) (hy : ev y = .float .f64 b) (h : Ieee.double.sub a b = some r) :
    peval P (execOp ev { dst := d, op := .binOp .sub t x y t2, type := ty, pos := pos, after := af, guard := gd }) = some (.value (.float .f64 r)) := by
  have h' : FloatKind.f64.format.sub a b = some r := h
  simp only [execOp, hx, hy, eqGuard, binOp, Op.floatArith, h', if_neg (show ¬ (FloatKind.f64 ≠ FloatKind.f64) by simp)]
  rfl
end Go.Proofs.Ytbjfckcgpbejkaa
