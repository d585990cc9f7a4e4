/- Contracts that the engine has found; their texts are a program's. -/
import Derived.Test.YtpdfpnfnlikjfaaS1

import Derived.Test.YtpdfpnfnlikjfaaX17
namespace Go.Proofs.Ytpdfpnfnlikjfaa
open Go.RowKit
set_option linter.unusedVariables false
set_option linter.unusedSectionVars false
set_option linter.unusedSimpArgs false
set_option maxRecDepth 100000
def may_0 (cf : Int) (cb : Int) (cm : Int) (cp : Int) (now : Int) : Int := (bif (check_0 cf cb cm cp != 0) then (check_0 cf cb cm cp) else (bif (decide (now < 0)) then 2 else (bif (decide (now > 253402300799)) then 2 else 0)))
theorem may_any (cf : Int) (cb : Int) (cm : Int) (cp : Int) (now : Int) (w : World) : Calls Try.prog 25 #[.agg #[.int .i64 cf, .int .i64 cb, .int .i64 cm, .int .i64 cp], .int .i64 now] w (fun e w1 => e = .returned (Value.int IntKind.i64 (may_0 cf cb cm cp now)) ∧ Below w.heap.size w w1) := by
  rcases Bool.eq_false_or_eq_true (check_0 cf cb cm cp != 0) with h0 | h0
  · refine (calls_orc (call := aCall Try.prog ΨS1 10 100 4) (ω := [(384, OV.soft (Value.bool true))]) (LF := 10) (F := 100) (av := [.agg #[.int .i64 cf, .int .i64 cb, .int .i64 cm, .int .i64 cp], .int .i64 now]) (v := Value.int IntKind.i64 (check_0 cf cb cm cp)) (ps := [(check_0 cf cb cm cp != 0) = true]) (call_spec ΨS1_spec mixed 4) mixed (by kernel_rfl) (ob_cons h0 ob_nil) (by kernel_rfl) (by kernel_rfl) w).mono ?_
    rintro e w1 ⟨rfl, hb⟩; exact ⟨by simp only [may_0, h0, cond_true, cond_false], hb⟩
  · rcases Bool.eq_false_or_eq_true (decide (now < 0)) with h1 | h1
    · refine (calls_orc (call := aCall Try.prog ΨS1 10 100 4) (ω := [(384, OV.soft (Value.bool false)), (576, OV.soft (Value.bool true))]) (LF := 10) (F := 100) (av := [.agg #[.int .i64 cf, .int .i64 cb, .int .i64 cm, .int .i64 cp], .int .i64 now]) (v := Value.int IntKind.i64 2) (ps := [(check_0 cf cb cm cp != 0) = false, decide (now < 0) = true]) (call_spec ΨS1_spec mixed 4) mixed (by kernel_rfl) (ob_cons h0 (ob_cons h1 ob_nil)) (by kernel_rfl) (by kernel_rfl) w).mono ?_
      rintro e w1 ⟨rfl, hb⟩; exact ⟨by simp only [may_0, h0, h1, cond_true, cond_false], hb⟩
    · rcases Bool.eq_false_or_eq_true (decide (now > 253402300799)) with h2 | h2
      · refine (calls_orc (call := aCall Try.prog ΨS1 10 100 4) (ω := [(384, OV.soft (Value.bool false)), (576, OV.soft (Value.bool false)), (768, OV.soft (Value.bool true))]) (LF := 10) (F := 100) (av := [.agg #[.int .i64 cf, .int .i64 cb, .int .i64 cm, .int .i64 cp], .int .i64 now]) (v := Value.int IntKind.i64 2) (ps := [(check_0 cf cb cm cp != 0) = false, decide (now < 0) = false, decide (now > 253402300799) = true]) (call_spec ΨS1_spec mixed 4) mixed (by kernel_rfl) (ob_cons h0 (ob_cons h1 (ob_cons h2 ob_nil))) (by kernel_rfl) (by kernel_rfl) w).mono ?_
        rintro e w1 ⟨rfl, hb⟩; exact ⟨by simp only [may_0, h0, h1, h2, cond_true, cond_false], hb⟩
      · refine (calls_orc (call := aCall Try.prog ΨS1 10 100 4) (ω := [(384, OV.soft (Value.bool false)), (576, OV.soft (Value.bool false)), (768, OV.soft (Value.bool false))]) (LF := 10) (F := 100) (av := [.agg #[.int .i64 cf, .int .i64 cb, .int .i64 cm, .int .i64 cp], .int .i64 now]) (v := Value.int IntKind.i64 0) (ps := [(check_0 cf cb cm cp != 0) = false, decide (now < 0) = false, decide (now > 253402300799) = false]) (call_spec ΨS1_spec mixed 4) mixed (by kernel_rfl) (ob_cons h0 (ob_cons h1 (ob_cons h2 ob_nil))) (by kernel_rfl) (by kernel_rfl) w).mono ?_
        rintro e w1 ⟨rfl, hb⟩; exact ⟨by simp only [may_0, h0, h1, h2, cond_true, cond_false], hb⟩
def ψmay : CallF := fun f args H _ =>
  if f = 25 then match args with
    | [.agg ⟨[.int .i64 cf, .int .i64 cb, .int .i64 cm, .int .i64 cp]⟩, .int .i64 now] => some (Value.int IntKind.i64 (may_0 cf cb cm cp now), H)
    | _ => none
  else none
theorem ψmay_spec [Inhabited RawG] : CallSpec Try.prog ψmay := by
  intro g av Hs lo v H1 h D ρ w args hlt hsz hav hw
  unfold ψmay at h
  split at h
  · rename_i hg
    subst hg
    split at h
    · cases h; exact spec_of_pure (fun w => may_any _ _ _ _ _ w) (by kernel_rfl) (by kernel_rfl) hsz hav hw
    · cases h
  · cases h
def ΨS2 : CallF := orΨ ψmay ΨS1
theorem ΨS2_spec [Inhabited RawG] : CallSpec Try.prog ΨS2 := orΨ_spec ψmay_spec ΨS1_spec
end Go.Proofs.Ytpdfpnfnlikjfaa
