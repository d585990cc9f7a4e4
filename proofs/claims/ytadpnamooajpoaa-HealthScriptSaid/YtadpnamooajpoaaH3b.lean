/- Health: the health of the first so many, those for which something holds. -/
import Derived.Test.YtadpnamooajpoaaH3
namespace Go.Proofs.Ytadpnamooajpoaa
open Go.RowKit
set_option linter.unusedSectionVars false
set_option linter.unusedSimpArgs false
set_option linter.unusedVariables false
abbrev hlF : BkT × EjT → List Value := fun t : BkT × EjT => [Value.int .i64 t.1.s, Value.int .i64 t.1.f, Value.int .i64 t.1.u, Value.int .i64 t.1.o, Value.int .i64 t.1.g, Value.int .i64 t.1.p, Value.int .i64 t.2.1, Value.int .i64 t.2.2.1, Value.int .i64 t.2.2.2, Value.bool t.1.up, Value.int .i64 t.1.run, Value.int .i64 t.1.nxt, Value.bool t.1.ot, Value.int .i64 t.1.since]
theorem hl14 (t : BkT × EjT) : (hlF t).length = 14 := rfl
theorem hl_one (t : BkT × EjT) : ∀ u ∈ hlF t, flat0 u = true ∧ u.oneCell' = true := by
  intro u hu
  simp at hu
  rcases hu with rfl | rfl | rfl | rfl | rfl | rfl | rfl | rfl | rfl | rfl | rfl | rfl | rfl | rfl <;> exact ⟨rfl, rfl⟩
/-- The health of the first so many. -/
def stL (bs : List BkT) (es : List EjT) (x : Nat) : List (BkT × EjT) := (List.range x).map fun j => (bs.getD j default, es.getD j default)
theorem stL_len {bs : List BkT} {es : List EjT} {x : Nat} : (stL bs es x).length = x := by simp [stL]
theorem stL_up (bs : List BkT) (es : List EjT) (x : Nat) : stL bs es (x + 1) = stL bs es x ++ [(bs.getD x default, es.getD x default)] := by unfold stL; rw [List.range_succ, List.map_append]; rfl
theorem snoc_hl (l : List (BkT × EjT)) (t : BkT × EjT) : l.flatMap hlF ++ hlF t = (l ++ [t]).flatMap hlF := by rw [List.flatMap_append]; simp
/-- Those of the first so many for which something holds. -/
def alL (p : Nat → Bool) (x : Nat) : List Int := ((List.range x).filter p).map fun j : Nat => (j : Int)
theorem alL_t {p : Nat → Bool} {x : Nat} (h : p x = true) : alL p (x + 1) = alL p x ++ [(x : Int)] := by unfold alL; rw [List.range_succ, List.filter_append, List.map_append]; simp [h]
theorem alL_f {p : Nat → Bool} {x : Nat} (h : p x = false) : alL p (x + 1) = alL p x := by unfold alL; rw [List.range_succ, List.filter_append, List.map_append]; simp [h]
theorem alL_le (p : Nat → Bool) (x : Nat) : (alL p x).length ≤ x := by
  unfold alL
  have := List.length_filter_le p (List.range x)
  rw [List.length_range] at this
  rw [List.length_map]; exact this
def rowI (b : Nat) : List Int → Value
  | [] => .slice none 0 0
  | v :: r => .slice (some ⟨b, 0, none⟩) (v :: r).length (v :: r).length
def rowJ (b : Nat) : List Int → Heap
  | [] => []
  | v :: r => [(b, ⟨3, (v :: r).map fun e : Int => Value.int .i64 e, 3⟩)]
theorem rowI_pos {b : Nat} {l : List Int} (h : l ≠ []) : rowI b l = .slice (some ⟨b, 0, none⟩) l.length l.length := by cases l with | nil => exact absurd rfl h | cons => rfl
theorem rowJ_pos {b : Nat} {l : List Int} (h : l ≠ []) : rowJ b l = [(b, ⟨3, l.map fun e : Int => Value.int .i64 e, 3⟩)] := by cases l with | nil => exact absurd rfl h | cons => rfl
theorem snoc_iv (l : List Int) (v : Int) : (l.map fun e : Int => Value.int .i64 e) ++ [Value.int .i64 v] = (l ++ [v]).map fun e : Int => Value.int .i64 e := by rw [List.map_append]; rfl
end Go.Proofs.Ytadpnamooajpoaa
