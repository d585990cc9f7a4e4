/- Weigh: floats that are whole numbers, made whole numbers again. -/
import Derived.Test.YtbjfckcgpbejkaaQ2
namespace Go.Proofs.Ytbjfckcgpbejkaa
open Go.RowKit
set_option linter.unusedSectionVars false
set_option linter.unusedSimpArgs false
set_option linter.unusedVariables false
theorem hard_conv {P : Program} {ev : Operand → Value} {d : Option Nat} {src dst ty : TypeId} {x : Operand} {pos : String} {af : Array Edge} {gd : Option (Nat × Bool)} {w : Nat} {n : Int} (hs : P.underlying src = some (.float .f64)) (hd : P.underlying dst = some (.int .i64)) (hx : ev x = .float .f64 w)
    (h : (FloatKind.f64.decode w).toInt .zero = some n) (hr : IntKind.i64.min ≤ n ∧ n ≤ IntKind.i64.max) :
    peval P (execOp ev { dst := d, op := .convert src dst x, type := ty, pos := pos, after := af, guard := gd }) = some (.value (.int .i64 n)) := by
  have pb : ∀ {α β : Type} (m : Sem α) (a : α) (f : α → Sem β), peval P m = some a → peval P (m >>= f) = peval P (f a) := by
    intro α β m a f hm
    induction m with
    | pure a' => simp only [peval, Option.some.injEq] at hm; subst hm; rfl
    | program k ih => simp only [peval] at hm; exact ih _ hm
    | mark q k ih => simp only [peval] at hm; exact ih hm
    | _ => simp [peval] at hm
  have hu : ∀ {t : TypeId} {dd : TypeDesc}, P.underlying t = some dd → peval P (underlying t) = some dd := by
    intro t dd e
    unfold underlying
    show peval P (match P.underlying t with | some d => pure d | none => stuck "no such type") = _
    rw [e]; rfl
  have hC : peval P (convert src dst (.float .f64 w)) = some (.int .i64 n) := by
    unfold convert
    rw [pb _ _ _ (hu hs), pb _ _ _ (hu hd)]
    simp only []
    unfold Conv.floatToInt
    simp only [h, if_pos hr]
    rfl
  simp only [execOp, hx]
  rw [pb _ _ _ hC]
  rfl
theorem conv_enc : ∀ n : Nat, n < 41 → (FloatKind.f64.decode (encI n)).toInt .zero = some (n : Int) := by decide
end Go.Proofs.Ytbjfckcgpbejkaa
