/- Contracts that the engine has found; their texts are a program's. -/
import Derived.Test.YtpdfpnfnlikjfaaS2
import Derived.Test.YtpdfpnfnlikjfaaP1

import Derived.Test.YtpdfpnfnlikjfaaX17
namespace Go.Proofs.Ytpdfpnfnlikjfaa
open Go.RowKit
set_option linter.unusedVariables false
set_option linter.unusedSectionVars false
set_option linter.unusedSimpArgs false
set_option maxRecDepth 100000
def until_0 (cf : Int) (cb : Int) (cm : Int) (cp : Int) (times : Int) (now : Int) : Int := (bif (may_0 cf cb cm cp now != 0) then now else (bif (decide (times < 1)) then now else (bif (decide (times ≤ IntKind.i64.wrap (cm.tdiv cb))) then (IntKind.i64.wrap ((if IntKind.i64.wrap (253402300799 - IntKind.i64.wrap (cb * times)) < now then IntKind.i64.wrap (253402300799 - IntKind.i64.wrap (cb * times)) else now) + IntKind.i64.wrap (cb * times))) else (IntKind.i64.wrap ((if IntKind.i64.wrap (253402300799 - cm) < now then IntKind.i64.wrap (253402300799 - cm) else now) + cm)))))
theorem until_any (cf : Int) (cb : Int) (cm : Int) (cp : Int) (times : Int) (now : Int) (w : World) : Calls Try.prog 15 #[.agg #[.int .i64 cf, .int .i64 cb, .int .i64 cm, .int .i64 cp], .int .i64 times, .int .i64 now] w (fun e w1 => e = .returned (Value.int IntKind.i64 (until_0 cf cb cm cp times now)) ∧ Below w.heap.size w w1) := by
  rcases Bool.eq_false_or_eq_true (may_0 cf cb cm cp now != 0) with h0 | h0
  · refine (calls_orc (call := aCall Try.prog ΨS2 10 100 4) (ω := [(384, OV.soft (Value.bool true))]) (LF := 10) (F := 100) (av := [.agg #[.int .i64 cf, .int .i64 cb, .int .i64 cm, .int .i64 cp], .int .i64 times, .int .i64 now]) (v := Value.int IntKind.i64 now) (ps := [(may_0 cf cb cm cp now != 0) = true]) (call_spec ΨS2_spec mixed 4) mixed (by kernel_rfl) (ob_cons h0 ob_nil) (by kernel_rfl) (by kernel_rfl) w).mono ?_
    rintro e w1 ⟨rfl, hb⟩; exact ⟨by simp only [until_0, h0, cond_true, cond_false], hb⟩
  · rcases Bool.eq_false_or_eq_true (decide (times < 1)) with h1 | h1
    · refine (calls_orc (call := aCall Try.prog ΨS2 10 100 4) (ω := [(384, OV.soft (Value.bool false)), (576, OV.soft (Value.bool true))]) (LF := 10) (F := 100) (av := [.agg #[.int .i64 cf, .int .i64 cb, .int .i64 cm, .int .i64 cp], .int .i64 times, .int .i64 now]) (v := Value.int IntKind.i64 now) (ps := [(may_0 cf cb cm cp now != 0) = false, decide (times < 1) = true]) (call_spec ΨS2_spec mixed 4) mixed (by kernel_rfl) (ob_cons h0 (ob_cons h1 ob_nil)) (by kernel_rfl) (by kernel_rfl) w).mono ?_
      rintro e w1 ⟨rfl, hb⟩; exact ⟨by simp only [until_0, h0, h1, cond_true, cond_false], hb⟩
    · rcases Bool.eq_false_or_eq_true (decide (times ≤ IntKind.i64.wrap (cm.tdiv cb))) with h2 | h2
      · refine (calls_orc (call := aCall Try.prog ΨS2 10 100 4) (ω := [(384, OV.soft (Value.bool false)), (576, OV.soft (Value.bool false)), (1152, OV.div), (1216, OV.soft (Value.bool true))]) (LF := 10) (F := 100) (av := [.agg #[.int .i64 cf, .int .i64 cb, .int .i64 cm, .int .i64 cp], .int .i64 times, .int .i64 now]) (v := Value.int IntKind.i64 (IntKind.i64.wrap ((if IntKind.i64.wrap (253402300799 - IntKind.i64.wrap (cb * times)) < now then IntKind.i64.wrap (253402300799 - IntKind.i64.wrap (cb * times)) else now) + IntKind.i64.wrap (cb * times)))) (ps := [(may_0 cf cb cm cp now != 0) = false, decide (times < 1) = false, cb ≠ 0, decide (times ≤ IntKind.i64.wrap (cm.tdiv cb)) = true]) (call_spec ΨS2_spec mixed 4) mixed (by kernel_rfl) (ob_cons h0 (ob_cons h1 (ob_cons (by have := (may_ok h0).1.b1; omega) (ob_cons h2 ob_nil)))) (by kernel_rfl) (by kernel_rfl) w).mono ?_
        rintro e w1 ⟨rfl, hb⟩; exact ⟨by simp only [until_0, h0, h1, h2, cond_true, cond_false], hb⟩
      · refine (calls_orc (call := aCall Try.prog ΨS2 10 100 4) (ω := [(384, OV.soft (Value.bool false)), (576, OV.soft (Value.bool false)), (1152, OV.div), (1216, OV.soft (Value.bool false))]) (LF := 10) (F := 100) (av := [.agg #[.int .i64 cf, .int .i64 cb, .int .i64 cm, .int .i64 cp], .int .i64 times, .int .i64 now]) (v := Value.int IntKind.i64 (IntKind.i64.wrap ((if IntKind.i64.wrap (253402300799 - cm) < now then IntKind.i64.wrap (253402300799 - cm) else now) + cm))) (ps := [(may_0 cf cb cm cp now != 0) = false, decide (times < 1) = false, cb ≠ 0, decide (times ≤ IntKind.i64.wrap (cm.tdiv cb)) = false]) (call_spec ΨS2_spec mixed 4) mixed (by kernel_rfl) (ob_cons h0 (ob_cons h1 (ob_cons (by have := (may_ok h0).1.b1; omega) (ob_cons h2 ob_nil)))) (by kernel_rfl) (by kernel_rfl) w).mono ?_
        rintro e w1 ⟨rfl, hb⟩; exact ⟨by simp only [until_0, h0, h1, h2, cond_true, cond_false], hb⟩
def ψuntil : CallF := fun f args H _ =>
  if f = 15 then match args with
    | [.agg ⟨[.int .i64 cf, .int .i64 cb, .int .i64 cm, .int .i64 cp]⟩, .int .i64 times, .int .i64 now] => some (Value.int IntKind.i64 (until_0 cf cb cm cp times now), H)
    | _ => none
  else none
theorem ψuntil_spec [Inhabited RawG] : CallSpec Try.prog ψuntil := by
  intro g av Hs lo v H1 h D ρ w args hlt hsz hav hw
  unfold ψuntil at h
  split at h
  · rename_i hg
    subst hg
    split at h
    · cases h; exact spec_of_pure (fun w => until_any _ _ _ _ _ _ w) (by kernel_rfl) (by kernel_rfl) hsz hav hw
    · cases h
  · cases h
def runtil_0 (cf : Int) (cb : Int) (cm : Int) (cp : Int) (times : Int) (now : Int) : Int := (bif (rcheck_0 cf cb cm cp != 0) then now else (bif (!time_0 now) then now else (bif (decide (times < 1)) then now else (bif (decide (cb ≤ IntKind.i64.wrap (cm.tdiv times))) then (behind_0 now (IntKind.i64.wrap (cb * times))) else (behind_0 now cm)))))
theorem runtil_any (cf : Int) (cb : Int) (cm : Int) (cp : Int) (times : Int) (now : Int) (w : World) : Calls Try.prog 23 #[.agg #[.int .i64 cf, .int .i64 cb, .int .i64 cm, .int .i64 cp], .int .i64 times, .int .i64 now] w (fun e w1 => e = .returned (Value.int IntKind.i64 (runtil_0 cf cb cm cp times now)) ∧ Below w.heap.size w w1) := by
  rcases Bool.eq_false_or_eq_true (rcheck_0 cf cb cm cp != 0) with h0 | h0
  · refine (calls_orc (call := aCall Try.prog ΨS2 10 100 4) (ω := [(320, OV.soft (Value.bool true))]) (LF := 10) (F := 100) (av := [.agg #[.int .i64 cf, .int .i64 cb, .int .i64 cm, .int .i64 cp], .int .i64 times, .int .i64 now]) (v := Value.int IntKind.i64 now) (ps := [(rcheck_0 cf cb cm cp != 0) = true]) (call_spec ΨS2_spec mixed 4) mixed (by kernel_rfl) (ob_cons h0 ob_nil) (by kernel_rfl) (by kernel_rfl) w).mono ?_
    rintro e w1 ⟨rfl, hb⟩; exact ⟨by simp only [runtil_0, h0, cond_true, cond_false], hb⟩
  · rcases Bool.eq_false_or_eq_true (!time_0 now) with h1 | h1
    · refine (calls_orc (call := aCall Try.prog ΨS2 10 100 4) (ω := [(320, OV.soft (Value.bool false)), (640, OV.soft (Value.bool true))]) (LF := 10) (F := 100) (av := [.agg #[.int .i64 cf, .int .i64 cb, .int .i64 cm, .int .i64 cp], .int .i64 times, .int .i64 now]) (v := Value.int IntKind.i64 now) (ps := [(rcheck_0 cf cb cm cp != 0) = false, (!time_0 now) = true]) (call_spec ΨS2_spec mixed 4) mixed (by kernel_rfl) (ob_cons h0 (ob_cons h1 ob_nil)) (by kernel_rfl) (by kernel_rfl) w).mono ?_
      rintro e w1 ⟨rfl, hb⟩; exact ⟨by simp only [runtil_0, h0, h1, cond_true, cond_false], hb⟩
    · rcases Bool.eq_false_or_eq_true (decide (times < 1)) with h2 | h2
      · refine (calls_orc (call := aCall Try.prog ΨS2 10 100 4) (ω := [(320, OV.soft (Value.bool false)), (640, OV.soft (Value.bool false)), (832, OV.soft (Value.bool true))]) (LF := 10) (F := 100) (av := [.agg #[.int .i64 cf, .int .i64 cb, .int .i64 cm, .int .i64 cp], .int .i64 times, .int .i64 now]) (v := Value.int IntKind.i64 now) (ps := [(rcheck_0 cf cb cm cp != 0) = false, (!time_0 now) = false, decide (times < 1) = true]) (call_spec ΨS2_spec mixed 4) mixed (by kernel_rfl) (ob_cons h0 (ob_cons h1 (ob_cons h2 ob_nil))) (by kernel_rfl) (by kernel_rfl) w).mono ?_
        rintro e w1 ⟨rfl, hb⟩; exact ⟨by simp only [runtil_0, h0, h1, h2, cond_true, cond_false], hb⟩
      · rcases Bool.eq_false_or_eq_true (decide (cb ≤ IntKind.i64.wrap (cm.tdiv times))) with h3 | h3
        · refine (calls_orc (call := aCall Try.prog ΨS2 10 100 4) (ω := [(320, OV.soft (Value.bool false)), (640, OV.soft (Value.bool false)), (832, OV.soft (Value.bool false)), (1408, OV.div), (1472, OV.soft (Value.bool true))]) (LF := 10) (F := 100) (av := [.agg #[.int .i64 cf, .int .i64 cb, .int .i64 cm, .int .i64 cp], .int .i64 times, .int .i64 now]) (v := Value.int IntKind.i64 (behind_0 now (IntKind.i64.wrap (cb * times)))) (ps := [(rcheck_0 cf cb cm cp != 0) = false, (!time_0 now) = false, decide (times < 1) = false, times ≠ 0, decide (cb ≤ IntKind.i64.wrap (cm.tdiv times)) = true]) (call_spec ΨS2_spec mixed 4) mixed (by kernel_rfl) (ob_cons h0 (ob_cons h1 (ob_cons h2 (ob_cons (by simp only [decide_eq_false_iff_not] at *; omega) (ob_cons h3 ob_nil))))) (by kernel_rfl) (by kernel_rfl) w).mono ?_
          rintro e w1 ⟨rfl, hb⟩; exact ⟨by simp only [runtil_0, h0, h1, h2, h3, cond_true, cond_false], hb⟩
        · refine (calls_orc (call := aCall Try.prog ΨS2 10 100 4) (ω := [(320, OV.soft (Value.bool false)), (640, OV.soft (Value.bool false)), (832, OV.soft (Value.bool false)), (1408, OV.div), (1472, OV.soft (Value.bool false))]) (LF := 10) (F := 100) (av := [.agg #[.int .i64 cf, .int .i64 cb, .int .i64 cm, .int .i64 cp], .int .i64 times, .int .i64 now]) (v := Value.int IntKind.i64 (behind_0 now cm)) (ps := [(rcheck_0 cf cb cm cp != 0) = false, (!time_0 now) = false, decide (times < 1) = false, times ≠ 0, decide (cb ≤ IntKind.i64.wrap (cm.tdiv times)) = false]) (call_spec ΨS2_spec mixed 4) mixed (by kernel_rfl) (ob_cons h0 (ob_cons h1 (ob_cons h2 (ob_cons (by simp only [decide_eq_false_iff_not] at *; omega) (ob_cons h3 ob_nil))))) (by kernel_rfl) (by kernel_rfl) w).mono ?_
          rintro e w1 ⟨rfl, hb⟩; exact ⟨by simp only [runtil_0, h0, h1, h2, h3, cond_true, cond_false], hb⟩
def ψruntil : CallF := fun f args H _ =>
  if f = 23 then match args with
    | [.agg ⟨[.int .i64 cf, .int .i64 cb, .int .i64 cm, .int .i64 cp]⟩, .int .i64 times, .int .i64 now] => some (Value.int IntKind.i64 (runtil_0 cf cb cm cp times now), H)
    | _ => none
  else none
theorem ψruntil_spec [Inhabited RawG] : CallSpec Try.prog ψruntil := by
  intro g av Hs lo v H1 h D ρ w args hlt hsz hav hw
  unfold ψruntil at h
  split at h
  · rename_i hg
    subst hg
    split at h
    · cases h; exact spec_of_pure (fun w => runtil_any _ _ _ _ _ _ w) (by kernel_rfl) (by kernel_rfl) hsz hav hw
    · cases h
  · cases h
def ΨS3_0 : CallF := orΨ ψuntil ΨS2
theorem ΨS3_0_spec [Inhabited RawG] : CallSpec Try.prog ΨS3_0 := orΨ_spec ψuntil_spec ΨS2_spec
def ΨS3 : CallF := orΨ ψruntil ΨS3_0
theorem ΨS3_spec [Inhabited RawG] : CallSpec Try.prog ΨS3 := orΨ_spec ψruntil_spec ΨS3_0_spec
end Go.Proofs.Ytpdfpnfnlikjfaa
