/- Health: events and tries, in plain words. -/
import Derived.Test.YtadpnamooajpoaaH4
import Derived.Test.YtadpnamooajpoaaXA
namespace Go.Proofs.Ytadpnamooajpoaa
open Go.RowKit
set_option linter.unusedSectionVars false
set_option linter.unusedSimpArgs false
set_option linter.unusedVariables false
/-- What happens: its kind, its backend, its number, well, the time. -/
structure ActT where
  k : Int
  i : Int
  n : Int
  w : Bool
  m : Int
instance : Inhabited ActT := ⟨⟨0, 0, 0, false, 0⟩⟩
abbrev actF : ActT → List Value := fun t => [.int .i64 t.k, .int .i64 t.i, .int .i64 t.n, .bool t.w, .int .i64 t.m]
theorem act5 (t : ActT) : (actF t).length = 5 := rfl
/-- An attempt that is out. -/
abbrev TrT : Type := Int × Int
abbrev trF : TrT → List Value := fun t => [.int .i64 t.1, .int .i64 t.2]
theorem tr2 (t : TrT) : (trF t).length = 2 := rfl
theorem tr_one (t : TrT) : ∀ u ∈ trF t, flat0 u = true ∧ u.oneCell' = true := by
  intro u hu
  simp at hu
  rcases hu with rfl | rfl <;> exact ⟨rfl, rfl⟩
theorem snoc_tr (l : List TrT) (t : TrT) : l.flatMap trF ++ trF t = (l ++ [t]).flatMap trF := by rw [List.flatMap_append]; simp
theorem pick_rng (x : Int) {m : Int} (hm : 0 < m) (hm2 : m ≤ 100000) : 0 ≤ pick_0 x m ∧ pick_0 x m < m := by
  have h1 := Int.tmod_lt_of_pos x hm
  have h2 := Int.lt_tmod_of_pos x hm
  unfold pick_0
  rw [show decide (m < 1) = false from decide_eq_false (by omega)]
  simp only [cond_false]
  by_cases h : x.tmod m < 0
  · rw [show decide (x.tmod m < 0) = true by simpa using h]
    simp only [cond_true]
    rw [w64 (by omega)]
    omega
  · rw [show decide (x.tmod m < 0) = false by simpa using h]
    simp only [cond_false]
    omega
end Go.Proofs.Ytadpnamooajpoaa
