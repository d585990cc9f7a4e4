/- Attempt: same, New; printed by a program of mine. -/
import Derived.Test.YtmiheegkilgimaaG5
import Derived.KernelRfl
namespace Go.Proofs.Ytmiheegkilgimaa
open Go.RowKit
set_option linter.unusedSimpArgs false
set_option linter.unusedVariables false
set_option maxRecDepth 100000
theorem sl_nn {ag : Bool} {mo : Int}  : CallOK Try.prog 20 [.agg #[.bool ag, .int .i64 mo, .slice none 0 0], .agg #[.bool ag, .int .i64 mo, .slice none 0 0]] [] 0 (.bool true) [] := by
  have k0 : (ag == ag) = true := (by simp)
  have k1 : (mo == mo) = true := (by simp)
  exact (callOK_keep (call := callT) [] callT_spec mixed (ω := [(512, OV.soft (VB true)), (960, OV.soft (VB true))]) (LF := 10) (F := 100) (ps := [(ag == ag) = true, (mo == mo) = true]) (by kernel_rfl) (ob_cons k0 (ob_cons k1 ob_nil)))

theorem sl_hh {ag : Bool} {mo : Int}  : CallOK Try.prog 20 [.agg #[.bool ag, .int .i64 mo, .slice (some ⟨0, 0, some 0⟩) 0 0], .agg #[.bool ag, .int .i64 mo, .slice (some ⟨0, 0, some 0⟩) 0 0]] [] 0 (.bool true) [] := by
  have k0 : (ag == ag) = true := (by simp)
  have k1 : (mo == mo) = true := (by simp)
  exact (callOK_keep (call := callT) [] callT_spec mixed (ω := [(512, OV.soft (VB true)), (960, OV.soft (VB true))]) (LF := 10) (F := 100) (ps := [(ag == ag) = true, (mo == mo) = true]) (by kernel_rfl) (ob_cons k0 (ob_cons k1 ob_nil)))

theorem sl_rr {ag : Bool} {mo : Int} {ts : List Try3} (h80 : ts.length ≤ 1000) : CallOK Try.prog 20 [.agg #[.bool ag, .int .i64 mo, .slice (some ⟨0, 0, none⟩) ts.length ts.length], .agg #[.bool ag, .int .i64 mo, .slice (some ⟨1, 0, none⟩) ts.length ts.length]] [(0, ⟨39, ts.flatMap tryF, 3⟩), (1, ⟨39, ts.flatMap tryF, 3⟩)] 2 (.bool true) [(0, ⟨39, ts.flatMap tryF, 3⟩), (1, ⟨39, ts.flatMap tryF, 3⟩)] := by
  have k0 : (ag == ag) = true := (by simp)
  have k1 : (mo == mo) = true := (by simp)
  exact (callOK_keep (call := callT) [0, 1] callT_spec mixed (ω := [(514, OV.soft (VB true)), (962, OV.soft (VB true)), (1282, OV.call (VB true) [(0, { elem := 39, cells := List.flatMap tryF ts, mode := 3 }), (1, { elem := 39, cells := List.flatMap tryF ts, mode := 3 })])]) (LF := 10) (F := 100) (ps := [(ag == ag) = true, (mo == mo) = true, CK 32 [Sl 0 ts.length ts.length, Sl 1 ts.length ts.length] [(0, { elem := 39, cells := List.flatMap tryF ts, mode := 3 }), (1, { elem := 39, cells := List.flatMap tryF ts, mode := 3 })] 2 (VB true) [(0, { elem := 39, cells := List.flatMap tryF ts, mode := 3 }), (1, { elem := 39, cells := List.flatMap tryF ts, mode := 3 })]]) (by kernel_rfl) (ob_cons k0 (ob_cons k1 (ob_cons (sameT_rr h80) ob_nil))))

theorem sl_aa {ag : Bool} {mo : Int} {ts : List Try3} {c el : Nat} (h80 : ts.length ≤ 1000) : CallOK Try.prog 20 [.agg #[.bool ag, .int .i64 mo, .slice (some ⟨0, 0, none⟩) ts.length c], .agg #[.bool ag, .int .i64 mo, .slice (some ⟨0, 0, none⟩) ts.length c]] [(0, ⟨el, ts.flatMap tryF, 2⟩)] 1 (.bool true) [(0, ⟨el, ts.flatMap tryF, 2⟩)] := by
  have k0 : (ag == ag) = true := (by simp)
  have k1 : (mo == mo) = true := (by simp)
  exact (callOK_keep (call := callT) [0] callT_spec mixed (ω := [(513, OV.soft (VB true)), (961, OV.soft (VB true)), (1281, OV.call (VB true) [(0, Bts el ts)])]) (LF := 10) (F := 100) (ps := [(ag == ag) = true, (mo == mo) = true, CK 32 [Sl 0 ts.length c, Sl 0 ts.length c] [(0, Bts el ts)] 1 (VB true) [(0, Bts el ts)]]) (by kernel_rfl) (ob_cons k0 (ob_cons k1 (ob_cons (sameT_aa h80) ob_nil))))

def newBad (n : Int) : Bool := decide (n < 0) || decide (n > 64)
def newE (n : Int) : Int := bif newBad n then 2 else 0
theorem new {bu : Bool} {n : Int}  : CallOK Try.prog 17 [.bool bu, .int .i64 n] [] 0 (.tuple #[.agg #[.bool (bif newBad n then false else bu), .int .i64 (bif newBad n then 0 else IntKind.i64.wrap (n + 1)), .slice none 0 0], .int .i64 (newE n)]) [] := by
  rcases Bool.eq_false_or_eq_true (decide (n < 0)) with h0 | h0
  · have hv : (.tuple #[.agg #[.bool (bif newBad n then false else bu), .int .i64 (bif newBad n then 0 else IntKind.i64.wrap (n + 1)), .slice none 0 0], .int .i64 (newE n)]) = Value.tuple #[Value.agg #[VB false, VI 0, Value.slice none 0 0], VI 2] := by first | (simp only [newE, newBad, Bool.or_true, Bool.true_or, Bool.or_false, Bool.false_or, h0, cond_true, cond_false, Bool.true_and, Bool.and_true, Bool.false_and, Bool.and_false, Bool.not_true, Bool.not_false]; done) | (simp only [newE, newBad, Bool.or_true, Bool.true_or, Bool.or_false, Bool.false_or, h0, cond_true, cond_false, Bool.true_and, Bool.and_true, Bool.false_and, Bool.and_false, Bool.not_true, Bool.not_false]; rfl) | simp [newE, newBad, Bool.or_true, Bool.true_or, Bool.or_false, Bool.false_or, h0]
    rw [hv]
    exact (callOK_keep (call := callT) [] callT_spec mixed (ω := [(256, OV.soft (VB true))]) (LF := 10) (F := 100) (ps := [decide (n < 0) = true]) (by kernel_rfl) (ob_cons h0 ob_nil))
  · rcases Bool.eq_false_or_eq_true (decide (n > 64)) with h1 | h1
    · have hv : (.tuple #[.agg #[.bool (bif newBad n then false else bu), .int .i64 (bif newBad n then 0 else IntKind.i64.wrap (n + 1)), .slice none 0 0], .int .i64 (newE n)]) = Value.tuple #[Value.agg #[VB false, VI 0, Value.slice none 0 0], VI 2] := by first | (simp only [newE, newBad, Bool.or_true, Bool.true_or, Bool.or_false, Bool.false_or, h0, h1, cond_true, cond_false, Bool.true_and, Bool.and_true, Bool.false_and, Bool.and_false, Bool.not_true, Bool.not_false]; done) | (simp only [newE, newBad, Bool.or_true, Bool.true_or, Bool.or_false, Bool.false_or, h0, h1, cond_true, cond_false, Bool.true_and, Bool.and_true, Bool.false_and, Bool.and_false, Bool.not_true, Bool.not_false]; rfl) | simp [newE, newBad, Bool.or_true, Bool.true_or, Bool.or_false, Bool.false_or, h0, h1]
      rw [hv]
      exact (callOK_keep (call := callT) [] callT_spec mixed (ω := [(256, OV.soft (VB false)), (448, OV.soft (VB true))]) (LF := 10) (F := 100) (ps := [decide (n < 0) = false, decide (n > 64) = true]) (by kernel_rfl) (ob_cons h0 (ob_cons h1 ob_nil)))
    · have hv : (.tuple #[.agg #[.bool (bif newBad n then false else bu), .int .i64 (bif newBad n then 0 else IntKind.i64.wrap (n + 1)), .slice none 0 0], .int .i64 (newE n)]) = Value.tuple #[Value.agg #[VB bu, VI (IntKind.i64.wrap (n + 1)), Value.slice none 0 0], VI 0] := by first | (simp only [newE, newBad, Bool.or_true, Bool.true_or, Bool.or_false, Bool.false_or, h0, h1, cond_true, cond_false, Bool.true_and, Bool.and_true, Bool.false_and, Bool.and_false, Bool.not_true, Bool.not_false]; done) | (simp only [newE, newBad, Bool.or_true, Bool.true_or, Bool.or_false, Bool.false_or, h0, h1, cond_true, cond_false, Bool.true_and, Bool.and_true, Bool.false_and, Bool.and_false, Bool.not_true, Bool.not_false]; rfl) | simp [newE, newBad, Bool.or_true, Bool.true_or, Bool.or_false, Bool.false_or, h0, h1]
      rw [hv]
      exact (callOK_keep (call := callT) [] callT_spec mixed (ω := [(256, OV.soft (VB false)), (448, OV.soft (VB false))]) (LF := 10) (F := 100) (ps := [decide (n < 0) = false, decide (n > 64) = false]) (by kernel_rfl) (ob_cons h0 (ob_cons h1 ob_nil)))

theorem rnew {bu : Bool} {n : Int}  : CallOK Try.prog 26 [.bool bu, .int .i64 n] [] 0 (.tuple #[.agg #[.bool (bif newBad n then false else bu), .int .i64 (bif newBad n then 0 else IntKind.i64.wrap (n + 1)), .slice none 0 0], .int .i64 (newE n)]) [] := by
  rcases Bool.eq_false_or_eq_true (decide (n < 0)) with h0 | h0
  · have hv : (.tuple #[.agg #[.bool (bif newBad n then false else bu), .int .i64 (bif newBad n then 0 else IntKind.i64.wrap (n + 1)), .slice none 0 0], .int .i64 (newE n)]) = Value.tuple #[Value.agg #[VB false, VI 0, Value.slice none 0 0], VI 2] := by first | (simp only [newE, newBad, Bool.or_true, Bool.true_or, Bool.or_false, Bool.false_or, h0, cond_true, cond_false, Bool.true_and, Bool.and_true, Bool.false_and, Bool.and_false, Bool.not_true, Bool.not_false]; done) | (simp only [newE, newBad, Bool.or_true, Bool.true_or, Bool.or_false, Bool.false_or, h0, cond_true, cond_false, Bool.true_and, Bool.and_true, Bool.false_and, Bool.and_false, Bool.not_true, Bool.not_false]; rfl) | simp [newE, newBad, Bool.or_true, Bool.true_or, Bool.or_false, Bool.false_or, h0]
    rw [hv]
    exact (callOK_keep (call := callT) [] callT_spec mixed (ω := [(256, OV.soft (VB true))]) (LF := 10) (F := 100) (ps := [decide (n < 0) = true]) (by kernel_rfl) (ob_cons h0 ob_nil))
  · rcases Bool.eq_false_or_eq_true (decide (n > 64)) with h1 | h1
    · have hv : (.tuple #[.agg #[.bool (bif newBad n then false else bu), .int .i64 (bif newBad n then 0 else IntKind.i64.wrap (n + 1)), .slice none 0 0], .int .i64 (newE n)]) = Value.tuple #[Value.agg #[VB false, VI 0, Value.slice none 0 0], VI 2] := by first | (simp only [newE, newBad, Bool.or_true, Bool.true_or, Bool.or_false, Bool.false_or, h0, h1, cond_true, cond_false, Bool.true_and, Bool.and_true, Bool.false_and, Bool.and_false, Bool.not_true, Bool.not_false]; done) | (simp only [newE, newBad, Bool.or_true, Bool.true_or, Bool.or_false, Bool.false_or, h0, h1, cond_true, cond_false, Bool.true_and, Bool.and_true, Bool.false_and, Bool.and_false, Bool.not_true, Bool.not_false]; rfl) | simp [newE, newBad, Bool.or_true, Bool.true_or, Bool.or_false, Bool.false_or, h0, h1]
      rw [hv]
      exact (callOK_keep (call := callT) [] callT_spec mixed (ω := [(256, OV.soft (VB false)), (448, OV.soft (VB true))]) (LF := 10) (F := 100) (ps := [decide (n < 0) = false, decide (n > 64) = true]) (by kernel_rfl) (ob_cons h0 (ob_cons h1 ob_nil)))
    · have hv : (.tuple #[.agg #[.bool (bif newBad n then false else bu), .int .i64 (bif newBad n then 0 else IntKind.i64.wrap (n + 1)), .slice none 0 0], .int .i64 (newE n)]) = Value.tuple #[Value.agg #[VB bu, VI (IntKind.i64.wrap (n + 1)), Value.slice none 0 0], VI 0] := by first | (simp only [newE, newBad, Bool.or_true, Bool.true_or, Bool.or_false, Bool.false_or, h0, h1, cond_true, cond_false, Bool.true_and, Bool.and_true, Bool.false_and, Bool.and_false, Bool.not_true, Bool.not_false]; done) | (simp only [newE, newBad, Bool.or_true, Bool.true_or, Bool.or_false, Bool.false_or, h0, h1, cond_true, cond_false, Bool.true_and, Bool.and_true, Bool.false_and, Bool.and_false, Bool.not_true, Bool.not_false]; rfl) | simp [newE, newBad, Bool.or_true, Bool.true_or, Bool.or_false, Bool.false_or, h0, h1]
      rw [hv]
      exact (callOK_keep (call := callT) [] callT_spec mixed (ω := [(256, OV.soft (VB false)), (448, OV.soft (VB false))]) (LF := 10) (F := 100) (ps := [decide (n < 0) = false, decide (n > 64) = false]) (by kernel_rfl) (ob_cons h0 (ob_cons h1 ob_nil)))

theorem fails_eq (n : Int) : rfails_0 n = fails_0 n := by unfold rfails_0 fails_0; rfl
end Go.Proofs.Ytmiheegkilgimaa
