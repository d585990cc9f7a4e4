/- Attempt: contracts; printed by a program of mine. -/
import Derived.Test.YtmiheegkilgimaaT3
import Derived.KernelRfl
namespace Go.Proofs.Ytmiheegkilgimaa
open Go.RowKit
set_option linter.unusedSimpArgs false
set_option linter.unusedVariables false
set_option maxRecDepth 100000
theorem ck_n {ag : Bool} {mo : Int}  : CallOK Try.prog 9 [.agg #[.bool ag, .int .i64 mo, .slice none 0 0]] [] 0 (.int .i64 (ckE mo ([] : List Try3))) [] := by
  rcases Bool.eq_false_or_eq_true (decide (mo < 1)) with h0 | h0
  · have hv : (.int .i64 (ckE mo ([] : List Try3))) = Value.int IntKind.i64 2 := by first | (simp only [ckE, oddE, h0, cond_true, cond_false, Bool.true_and, Bool.and_true, Bool.false_and, Bool.and_false, Bool.not_true, Bool.not_false]; done) | (simp only [ckE, oddE, h0, cond_true, cond_false, Bool.true_and, Bool.and_true, Bool.false_and, Bool.and_false, Bool.not_true, Bool.not_false]; rfl) | simp [ckE, oddE, h0]
    rw [hv]
    exact (callOK_keep (call := callT) [] callT_spec mixed (ω := [(320, OV.soft (Value.bool true))]) (LF := 10) (F := 100) (ps := [decide (mo < 1) = true]) (by kernel_rfl) (ob_cons h0 ob_nil))
  · rcases Bool.eq_false_or_eq_true (decide (mo > 65)) with h1 | h1
    · have hv : (.int .i64 (ckE mo ([] : List Try3))) = Value.int IntKind.i64 2 := by first | (simp only [ckE, oddE, h0, h1, cond_true, cond_false, Bool.true_and, Bool.and_true, Bool.false_and, Bool.and_false, Bool.not_true, Bool.not_false]; done) | (simp only [ckE, oddE, h0, h1, cond_true, cond_false, Bool.true_and, Bool.and_true, Bool.false_and, Bool.and_false, Bool.not_true, Bool.not_false]; rfl) | simp [ckE, oddE, h0, h1]
      rw [hv]
      exact (callOK_keep (call := callT) [] callT_spec mixed (ω := [(320, OV.soft (Value.bool false)), (640, OV.soft (Value.bool true))]) (LF := 10) (F := 100) (ps := [decide (mo < 1) = false, decide (mo > 65) = true]) (by kernel_rfl) (ob_cons h0 (ob_cons h1 ob_nil)))
    · rcases Bool.eq_false_or_eq_true (decide (0 > mo)) with h2 | h2
      · simp only [decide_eq_true_eq, decide_eq_false_iff_not] at *; omega
      · have hv : (.int .i64 (ckE mo ([] : List Try3))) = Value.int IntKind.i64 0 := by first | (simp only [ckE, oddE, h0, h1, h2, cond_true, cond_false, Bool.true_and, Bool.and_true, Bool.false_and, Bool.and_false, Bool.not_true, Bool.not_false]; done) | (simp only [ckE, oddE, h0, h1, h2, cond_true, cond_false, Bool.true_and, Bool.and_true, Bool.false_and, Bool.and_false, Bool.not_true, Bool.not_false]; rfl) | simp [ckE, oddE, h0, h1, h2]
        rw [hv]
        exact (callOK_keep (call := callT) [] callT_spec mixed (ω := [(320, OV.soft (Value.bool false)), (640, OV.soft (Value.bool false)), (1088, OV.soft (Value.bool false))]) (LF := 10) (F := 100) (ps := [decide (mo < 1) = false, decide (mo > 65) = false, decide (0 > mo) = false]) (by kernel_rfl) (ob_cons h0 (ob_cons h1 (ob_cons h2 ob_nil))))

theorem stop_n {ag : Bool} {mo : Int} {n : Int}  : CallOK Try.prog 10 [.agg #[.bool ag, .int .i64 mo, .slice none 0 0], .slice (some ⟨0, 0, none⟩) 1 1, .bool true] [(0, ⟨3, [.int .i64 n], 0⟩)] 1 (.int .i64 (stopE ag mo ([] : List Try3) 1 true)) [(0, ⟨3, [.int .i64 n], 0⟩)] := by
  rcases Bool.eq_false_or_eq_true (!ag) with h0 | h0
  · rcases Bool.eq_false_or_eq_true (decide (0 ≥ mo)) with h1 | h1
    · have hv : (.int .i64 (stopE ag mo ([] : List Try3) 1 true)) = Value.int IntKind.i64 3 := by first | (simp only [stopE, lastE, h0, h1, cond_true, cond_false, Bool.true_and, Bool.and_true, Bool.false_and, Bool.and_false, Bool.not_true, Bool.not_false]; done) | (simp only [stopE, lastE, h0, h1, cond_true, cond_false, Bool.true_and, Bool.and_true, Bool.false_and, Bool.and_false, Bool.not_true, Bool.not_false]; rfl) | simp [stopE, lastE, h0, h1]
      rw [hv]
      exact (callOK_keep (call := callT) [0] callT_spec mixed (ω := [(1793, OV.soft (Value.bool true)), (4673, OV.soft (Value.bool true))]) (LF := 10) (F := 100) (ps := [(!ag) = true, decide (0 ≥ mo) = true]) (by kernel_rfl) (ob_cons h0 (ob_cons h1 ob_nil)))
    · have hv : (.int .i64 (stopE ag mo ([] : List Try3) 1 true)) = Value.int IntKind.i64 0 := by first | (simp only [stopE, lastE, h0, h1, cond_true, cond_false, Bool.true_and, Bool.and_true, Bool.false_and, Bool.and_false, Bool.not_true, Bool.not_false]; done) | (simp only [stopE, lastE, h0, h1, cond_true, cond_false, Bool.true_and, Bool.and_true, Bool.false_and, Bool.and_false, Bool.not_true, Bool.not_false]; rfl) | simp [stopE, lastE, h0, h1]
      rw [hv]
      exact (callOK_keep (call := callT) [0] callT_spec mixed (ω := [(1793, OV.soft (Value.bool true)), (4673, OV.soft (Value.bool false))]) (LF := 10) (F := 100) (ps := [(!ag) = true, decide (0 ≥ mo) = false]) (by kernel_rfl) (ob_cons h0 (ob_cons h1 ob_nil)))
  · rcases Bool.eq_false_or_eq_true (decide (0 ≥ mo)) with h1 | h1
    · have hv : (.int .i64 (stopE ag mo ([] : List Try3) 1 true)) = Value.int IntKind.i64 3 := by first | (simp only [stopE, lastE, h0, h1, cond_true, cond_false, Bool.true_and, Bool.and_true, Bool.false_and, Bool.and_false, Bool.not_true, Bool.not_false]; done) | (simp only [stopE, lastE, h0, h1, cond_true, cond_false, Bool.true_and, Bool.and_true, Bool.false_and, Bool.and_false, Bool.not_true, Bool.not_false]; rfl) | simp [stopE, lastE, h0, h1]
      rw [hv]
      exact (callOK_keep (call := callT) [0] callT_spec mixed (ω := [(1793, OV.soft (Value.bool false)), (4673, OV.soft (Value.bool true))]) (LF := 10) (F := 100) (ps := [(!ag) = false, decide (0 ≥ mo) = true]) (by kernel_rfl) (ob_cons h0 (ob_cons h1 ob_nil)))
    · have hv : (.int .i64 (stopE ag mo ([] : List Try3) 1 true)) = Value.int IntKind.i64 0 := by first | (simp only [stopE, lastE, h0, h1, cond_true, cond_false, Bool.true_and, Bool.and_true, Bool.false_and, Bool.and_false, Bool.not_true, Bool.not_false]; done) | (simp only [stopE, lastE, h0, h1, cond_true, cond_false, Bool.true_and, Bool.and_true, Bool.false_and, Bool.and_false, Bool.not_true, Bool.not_false]; rfl) | simp [stopE, lastE, h0, h1]
      rw [hv]
      exact (callOK_keep (call := callT) [0] callT_spec mixed (ω := [(1793, OV.soft (Value.bool false)), (4673, OV.soft (Value.bool false))]) (LF := 10) (F := 100) (ps := [(!ag) = false, decide (0 ≥ mo) = false]) (by kernel_rfl) (ob_cons h0 (ob_cons h1 ob_nil)))

end Go.Proofs.Ytmiheegkilgimaa
