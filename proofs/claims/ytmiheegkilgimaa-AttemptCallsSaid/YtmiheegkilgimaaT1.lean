/- Attempt: what its functions answer, in plain words. -/
import Derived.Test.YtmiheegkilgimaaS2
import Derived.Test.YtmiheegkilgimaaX17
namespace Go.Proofs.Ytmiheegkilgimaa
open Go.RowKit
set_option linter.unusedSimpArgs false
set_option linter.unusedVariables false
abbrev Try3 := Int × Bool × Int
def tryF : Try3 → List Value := fun t => [Value.int .i64 t.1, Value.bool t.2.1, Value.int .i64 t.2.2]
theorem try3 (t : Try3) : (tryF t).length = 3 := rfl
theorem flat_try (ts : List Try3) : FlatL (ts.flatMap tryF) := flatL_rows (fun t u hu => by
  simp only [tryF, List.mem_cons, List.not_mem_nil, or_false] at hu
  rcases hu with rfl | rfl | rfl <;> exact ⟨rfl, rfl⟩) ts
noncomputable def callT : CallF := aCall Try.prog ΨS2 10 100 6
theorem callT_spec : CallSpec Try.prog callT := call_spec ΨS2_spec mixed 6
def goodB (t : Try3) : Bool := good_0 t.1 t.2.1 t.2.2
def sentB (t : Try3) : Bool := sent_0 t.1 t.2.1 t.2.2
theorem sentB_eq (t : Try3) : sentB t = t.2.1 := by unfold sentB sent_0; cases t.2.1 <;> rfl
def lastE (ts : List Try3) : Int := (ts.getD (ts.length - 1) default).2.2
def oddE (ts : List Try3) : Bool := (List.range ts.length).any fun x => odd_0 (ts.getD x default).1 (ts.getD x default).2.1 (ts.getD x default).2.2 (((x + 1 : Nat) : Int) == (ts.length : Int))
def ckE (mo : Int) (ts : List Try3) : Int := bif decide (mo < 1) then 2 else bif decide (mo > 65) then 2 else bif decide ((ts.length : Int) > mo) then 2 else bif oddE ts then 2 else 0
def stopE (ag : Bool) (mo : Int) (ts : List Try3) (ml : Nat) (bu : Bool) : Int :=
  bif decide ((ts.length : Int) > 0) && (lastE ts == 0) then 1 else bif ts.any goodB then 2 else bif decide ((ts.length : Int) ≥ mo) then 3 else bif !ag && ts.any sentB then 4 else bif decide ((ts.length : Int) > 0) && !bu then 5 else bif ((ml : Int) == 0) then 6 else 0
def beginE (ag : Bool) (mo : Int) (ts : List Try3) (n : Int) : Int := bif (ckE mo ts != 0) then ckE mo ts else bif decide (n < 0) then 2 else bif decide (n ≥ 64) then 2 else bif (stopE ag mo ts 1 true != 0) then 8 else 0
def sentE (mo : Int) (ts : List Try3) : Int := bif (ckE mo ts != 0) then ckE mo ts else bif ((ts.length : Int) == 0) then 8 else bif (lastE ts != 0) then 8 else 0
def endE (mo : Int) (ts : List Try3) (n : Int) : Int := bif (ckE mo ts != 0) then ckE mo ts else bif decide (n < 1) then 2 else bif decide (n > 7) then 2 else bif ((ts.length : Int) == 0) then 8 else bif (lastE ts != 0) then 8 else 0
theorem beginE_zero {ag : Bool} {mo : Int} {ts : List Try3} {n : Int} (h : beginE ag mo ts n = 0) : (ckE mo ts != 0) = false ∧ decide (n < 0) = false ∧ decide (n ≥ 64) = false ∧ (stopE ag mo ts 1 true != 0) = false := by
  unfold beginE at h
  rcases Bool.eq_false_or_eq_true (ckE mo ts != 0) with h1 | h1
  · rw [h1] at h; simp only [cond_true] at h; rw [h] at h1; cases h1
  · rw [h1] at h
    rcases Bool.eq_false_or_eq_true (decide (n < 0)) with h2 | h2
    · rw [h2] at h; cases h
    · rw [h2] at h
      rcases Bool.eq_false_or_eq_true (decide (n ≥ 64)) with h3 | h3
      · rw [h3] at h; cases h
      · rw [h3] at h
        rcases Bool.eq_false_or_eq_true (stopE ag mo ts 1 true != 0) with h4 | h4
        · rw [h4] at h; cases h
        · exact ⟨h1, h2, h3, h4⟩
theorem sentE_zero {mo : Int} {ts : List Try3} (h : sentE mo ts = 0) : (ckE mo ts != 0) = false ∧ ((ts.length : Int) == 0) = false ∧ (lastE ts != 0) = false := by
  unfold sentE at h
  rcases Bool.eq_false_or_eq_true (ckE mo ts != 0) with h1 | h1
  · rw [h1] at h; simp only [cond_true] at h; rw [h] at h1; cases h1
  · rw [h1] at h
    rcases Bool.eq_false_or_eq_true ((ts.length : Int) == 0) with h2 | h2
    · rw [h2] at h; cases h
    · rw [h2] at h
      rcases Bool.eq_false_or_eq_true (lastE ts != 0) with h3 | h3
      · rw [h3] at h; cases h
      · exact ⟨h1, h2, h3⟩
theorem endE_zero {mo : Int} {ts : List Try3} {n : Int} (h : endE mo ts n = 0) : (ckE mo ts != 0) = false ∧ decide (n < 1) = false ∧ decide (n > 7) = false ∧ ((ts.length : Int) == 0) = false ∧ (lastE ts != 0) = false := by
  unfold endE at h
  rcases Bool.eq_false_or_eq_true (ckE mo ts != 0) with h1 | h1
  · rw [h1] at h; simp only [cond_true] at h; rw [h] at h1; cases h1
  · rw [h1] at h
    rcases Bool.eq_false_or_eq_true (decide (n < 1)) with h4 | h4
    · rw [h4] at h; cases h
    · rw [h4] at h
      rcases Bool.eq_false_or_eq_true (decide (n > 7)) with h5 | h5
      · rw [h5] at h; cases h
      · rw [h5] at h
        rcases Bool.eq_false_or_eq_true ((ts.length : Int) == 0) with h2 | h2
        · rw [h2] at h; cases h
        · rw [h2] at h
          rcases Bool.eq_false_or_eq_true (lastE ts != 0) with h3 | h3
          · rw [h3] at h; cases h
          · exact ⟨h1, h4, h5, h2, h3⟩
theorem clone_cells (ts : List Try3) : [] ++ List.take (ts.length * 3) (List.drop 0 (ts.flatMap tryF)) = ts.flatMap tryF := by
  rw [List.nil_append, List.drop_zero, List.take_of_length_le (by rw [flatMap_len try3]; omega)]
end Go.Proofs.Ytmiheegkilgimaa
