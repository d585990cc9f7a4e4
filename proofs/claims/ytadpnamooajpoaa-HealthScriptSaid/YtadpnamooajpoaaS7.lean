/- Contracts that the engine has found; their texts are a program's. -/
import Derived.Test.YtadpnamooajpoaaS5
import Derived.Test.YtadpnamooajpoaaP1

import Derived.Test.YtadpnamooajpoaaX17
namespace Go.Proofs.Ytadpnamooajpoaa
open Go.RowKit
set_option linter.unusedVariables false
set_option linter.unusedSectionVars false
set_option linter.unusedSimpArgs false
set_option maxRecDepth 100000
def hcheck_0 (b1 : Int) (b2 : Int) (b3 : Int) (b4 : Int) (e1 : Int) (e2 : Int) (e3 : Int) (e4 : Int) (p1 : Int) (p2 : Int) (p3 : Int) (p4 : Int) : Int := (bif (bcheck_0 b1 b2 b3 b4 != 0) then (bcheck_0 b1 b2 b3 b4) else (bif (check_0 e1 e2 e3 e4 != 0) then (check_0 e1 e2 e3 e4) else (pcheck_0 p1 p2 p3 p4)))
theorem hcheck_any (b1 : Int) (b2 : Int) (b3 : Int) (b4 : Int) (e1 : Int) (e2 : Int) (e3 : Int) (e4 : Int) (p1 : Int) (p2 : Int) (p3 : Int) (p4 : Int) (w : World) : Calls Try.prog 11 #[.agg #[.int .i64 b1, .int .i64 b2, .int .i64 b3, .int .i64 b4, .int .i64 e1, .int .i64 e2, .int .i64 e3, .int .i64 e4, .int .i64 p1, .int .i64 p2, .int .i64 p3, .int .i64 p4]] w (fun e w1 => e = .returned (Value.int IntKind.i64 (hcheck_0 b1 b2 b3 b4 e1 e2 e3 e4 p1 p2 p3 p4)) ∧ Below w.heap.size w w1) := by
  rcases Bool.eq_false_or_eq_true (bcheck_0 b1 b2 b3 b4 != 0) with h0 | h0
  · refine (calls_orc (call := aCall Try.prog ΨS5 10 100 4) (ω := [(448, OV.soft (Value.bool true))]) (LF := 10) (F := 100) (av := [.agg #[.int .i64 b1, .int .i64 b2, .int .i64 b3, .int .i64 b4, .int .i64 e1, .int .i64 e2, .int .i64 e3, .int .i64 e4, .int .i64 p1, .int .i64 p2, .int .i64 p3, .int .i64 p4]]) (v := Value.int IntKind.i64 (bcheck_0 b1 b2 b3 b4)) (ps := [(bcheck_0 b1 b2 b3 b4 != 0) = true]) (call_spec ΨS5_spec mixed 4) mixed (by kernel_rfl) (ob_cons h0 ob_nil) (by kernel_rfl) (by kernel_rfl) w).mono ?_
    rintro e w1 ⟨rfl, hb⟩; exact ⟨by simp only [hcheck_0, h0, cond_true, cond_false], hb⟩
  · rcases Bool.eq_false_or_eq_true (check_0 e1 e2 e3 e4 != 0) with h1 | h1
    · refine (calls_orc (call := aCall Try.prog ΨS5 10 100 4) (ω := [(448, OV.soft (Value.bool false)), (832, OV.soft (Value.bool true))]) (LF := 10) (F := 100) (av := [.agg #[.int .i64 b1, .int .i64 b2, .int .i64 b3, .int .i64 b4, .int .i64 e1, .int .i64 e2, .int .i64 e3, .int .i64 e4, .int .i64 p1, .int .i64 p2, .int .i64 p3, .int .i64 p4]]) (v := Value.int IntKind.i64 (check_0 e1 e2 e3 e4)) (ps := [(bcheck_0 b1 b2 b3 b4 != 0) = false, (check_0 e1 e2 e3 e4 != 0) = true]) (call_spec ΨS5_spec mixed 4) mixed (by kernel_rfl) (ob_cons h0 (ob_cons h1 ob_nil)) (by kernel_rfl) (by kernel_rfl) w).mono ?_
      rintro e w1 ⟨rfl, hb⟩; exact ⟨by simp only [hcheck_0, h0, h1, cond_true, cond_false], hb⟩
    · refine (calls_orc (call := aCall Try.prog ΨS5 10 100 4) (ω := [(448, OV.soft (Value.bool false)), (832, OV.soft (Value.bool false))]) (LF := 10) (F := 100) (av := [.agg #[.int .i64 b1, .int .i64 b2, .int .i64 b3, .int .i64 b4, .int .i64 e1, .int .i64 e2, .int .i64 e3, .int .i64 e4, .int .i64 p1, .int .i64 p2, .int .i64 p3, .int .i64 p4]]) (v := Value.int IntKind.i64 (pcheck_0 p1 p2 p3 p4)) (ps := [(bcheck_0 b1 b2 b3 b4 != 0) = false, (check_0 e1 e2 e3 e4 != 0) = false]) (call_spec ΨS5_spec mixed 4) mixed (by kernel_rfl) (ob_cons h0 (ob_cons h1 ob_nil)) (by kernel_rfl) (by kernel_rfl) w).mono ?_
      rintro e w1 ⟨rfl, hb⟩; exact ⟨by simp only [hcheck_0, h0, h1, cond_true, cond_false], hb⟩
def ψhcheck : CallF := fun f args H _ =>
  if f = 11 then match args with
    | [.agg ⟨[.int .i64 b1, .int .i64 b2, .int .i64 b3, .int .i64 b4, .int .i64 e1, .int .i64 e2, .int .i64 e3, .int .i64 e4, .int .i64 p1, .int .i64 p2, .int .i64 p3, .int .i64 p4]⟩] => some (Value.int IntKind.i64 (hcheck_0 b1 b2 b3 b4 e1 e2 e3 e4 p1 p2 p3 p4), H)
    | _ => none
  else none
theorem ψhcheck_spec [Inhabited RawG] : CallSpec Try.prog ψhcheck := by
  intro g av Hs lo v H1 h D ρ w args hlt hsz hav hw
  unfold ψhcheck at h
  split at h
  · rename_i hg
    subst hg
    split at h
    · cases h; exact spec_of_pure (fun w => hcheck_any _ _ _ _ _ _ _ _ _ _ _ _ w) (by kernel_rfl) (by kernel_rfl) hsz hav hw
    · cases h
  · cases h
def ΨS7 : CallF := orΨ ψhcheck ΨS5
theorem ΨS7_spec [Inhabited RawG] : CallSpec Try.prog ΨS7 := orΨ_spec ψhcheck_spec ΨS5_spec
end Go.Proofs.Ytadpnamooajpoaa
