/- Contracts that the engine has found; their texts are a program's. -/
import Derived.Test.YtbjfckcgpbejkaaS1

import Derived.Test.YtbjfckcgpbejkaaX15
namespace Go.Proofs.Ytbjfckcgpbejkaa
set_option linter.unusedSectionVars false
open Go.RowKit
set_option linter.unusedVariables false
set_option maxRecDepth 100000
def pick_0 (n : Int) (m : Int) : Int := (bif (decide (m < 1)) then 0 else (bif (decide (n.tmod m < 0)) then (IntKind.i64.wrap (n.tmod m + m)) else (n.tmod m)))
theorem pick_any (n : Int) (m : Int) (w : World) : Calls Try.prog 17 #[.int .i64 n, .int .i64 m] w (fun e w1 => e = .returned (Value.int IntKind.i64 (pick_0 n m)) ∧ Below w.heap.size w w1) := by
  rcases Bool.eq_false_or_eq_true (decide (m < 1)) with h0 | h0
  · refine (calls_orc (call := aCall Try.prog ΨS1 10 100 4) (ω := [(128, OV.soft (Value.bool true))]) (LF := 10) (F := 100) (av := [.int .i64 n, .int .i64 m]) (v := Value.int IntKind.i64 0) (ps := [decide (m < 1) = true]) (call_spec ΨS1_spec mixed 4) mixed (by kernel_rfl) (ob_cons h0 ob_nil) (by kernel_rfl) (by kernel_rfl) w).mono ?_
    rintro e w1 ⟨rfl, hb⟩; exact ⟨by simp only [pick_0, h0, cond_true, cond_false], hb⟩
  · rcases Bool.eq_false_or_eq_true (decide (n.tmod m < 0)) with h1 | h1
    · refine (calls_orc (call := aCall Try.prog ΨS1 10 100 4) (ω := [(128, OV.soft (Value.bool false)), (320, OV.div), (512, OV.soft (Value.bool true))]) (LF := 10) (F := 100) (av := [.int .i64 n, .int .i64 m]) (v := Value.int IntKind.i64 (IntKind.i64.wrap (n.tmod m + m))) (ps := [decide (m < 1) = false, m ≠ 0, decide (n.tmod m < 0) = true]) (call_spec ΨS1_spec mixed 4) mixed (by kernel_rfl) (ob_cons h0 (ob_cons (by simp only [decide_eq_false_iff_not] at *; omega) (ob_cons h1 ob_nil))) (by kernel_rfl) (by kernel_rfl) w).mono ?_
      rintro e w1 ⟨rfl, hb⟩; exact ⟨by simp only [pick_0, h0, h1, cond_true, cond_false], hb⟩
    · refine (calls_orc (call := aCall Try.prog ΨS1 10 100 4) (ω := [(128, OV.soft (Value.bool false)), (320, OV.div), (512, OV.soft (Value.bool false))]) (LF := 10) (F := 100) (av := [.int .i64 n, .int .i64 m]) (v := Value.int IntKind.i64 (n.tmod m)) (ps := [decide (m < 1) = false, m ≠ 0, decide (n.tmod m < 0) = false]) (call_spec ΨS1_spec mixed 4) mixed (by kernel_rfl) (ob_cons h0 (ob_cons (by simp only [decide_eq_false_iff_not] at *; omega) (ob_cons h1 ob_nil))) (by kernel_rfl) (by kernel_rfl) w).mono ?_
      rintro e w1 ⟨rfl, hb⟩; exact ⟨by simp only [pick_0, h0, h1, cond_true, cond_false], hb⟩
def ψpick : CallF := fun f args H _ =>
  if f = 17 then match args with
    | [.int .i64 n, .int .i64 m] => some (Value.int IntKind.i64 (pick_0 n m), H)
    | _ => none
  else none
theorem ψpick_spec [Inhabited RawG] : CallSpec Try.prog ψpick := by
  intro g av Hs lo v H1 h D ρ w args hlt hsz hav hw
  unfold ψpick at h
  split at h
  · rename_i hg
    subst hg
    split at h
    · cases h; exact spec_of_pure (fun w => pick_any _ _ w) (by kernel_rfl) (by kernel_rfl) hsz hav hw
    · cases h
  · cases h
def ΨS2 : CallF := orΨ ψpick ΨS1
theorem ΨS2_spec [Inhabited RawG] : CallSpec Try.prog ΨS2 := orΨ_spec ψpick_spec ΨS1_spec
end Go.Proofs.Ytbjfckcgpbejkaa
