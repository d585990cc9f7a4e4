/- Contracts that the engine has found; their texts are a program's. -/
import Derived.Test.YtpdfpnfnlikjfaaK1

import Derived.Test.YtpdfpnfnlikjfaaX17
namespace Go.Proofs.Ytpdfpnfnlikjfaa
open Go.RowKit
set_option linter.unusedVariables false
set_option linter.unusedSectionVars false
set_option linter.unusedSimpArgs false
set_option maxRecDepth 100000
def time_0 (now : Int) : Bool := (bif (decide (now ≥ 0)) then (decide (now ≤ 253402300799)) else false)
theorem time_any (now : Int) (w : World) : Calls Try.prog 28 #[.int .i64 now] w (fun e w1 => e = .returned (Value.bool (time_0 now)) ∧ Below w.heap.size w w1) := by
  rcases Bool.eq_false_or_eq_true (decide (now ≥ 0)) with h0 | h0
  · refine (calls_orc (call := aCall Try.prog ΨK1 10 100 4) (ω := [(192, OV.soft (Value.bool true))]) (LF := 10) (F := 100) (av := [.int .i64 now]) (v := Value.bool (decide (now ≤ 253402300799))) (ps := [decide (now ≥ 0) = true]) (call_spec ΨK1_spec mixed 4) mixed (by kernel_rfl) (ob_cons h0 ob_nil) (by kernel_rfl) (by kernel_rfl) w).mono ?_
    rintro e w1 ⟨rfl, hb⟩; exact ⟨by simp only [time_0, h0, cond_true, cond_false], hb⟩
  · refine (calls_orc (call := aCall Try.prog ΨK1 10 100 4) (ω := [(192, OV.soft (Value.bool false))]) (LF := 10) (F := 100) (av := [.int .i64 now]) (v := Value.bool false) (ps := [decide (now ≥ 0) = false]) (call_spec ΨK1_spec mixed 4) mixed (by kernel_rfl) (ob_cons h0 ob_nil) (by kernel_rfl) (by kernel_rfl) w).mono ?_
    rintro e w1 ⟨rfl, hb⟩; exact ⟨by simp only [time_0, h0, cond_true, cond_false], hb⟩
def ψtime : CallF := fun f args H _ =>
  if f = 28 then match args with
    | [.int .i64 now] => some (Value.bool (time_0 now), H)
    | _ => none
  else none
theorem ψtime_spec [Inhabited RawG] : CallSpec Try.prog ψtime := by
  intro g av Hs lo v H1 h D ρ w args hlt hsz hav hw
  unfold ψtime at h
  split at h
  · rename_i hg
    subst hg
    split at h
    · cases h; exact spec_of_pure (fun w => time_any _ w) (by kernel_rfl) (by kernel_rfl) hsz hav hw
    · cases h
  · cases h
def behind_0 (now : Int) (wh : Int) : Int := (bif (decide (wh > IntKind.i64.wrap (253402300799 - now))) then 253402300799 else (IntKind.i64.wrap (now + wh)))
theorem behind_any (now : Int) (wh : Int) (w : World) : Calls Try.prog 29 #[.int .i64 now, .int .i64 wh] w (fun e w1 => e = .returned (Value.int IntKind.i64 (behind_0 now wh)) ∧ Below w.heap.size w w1) := by
  rcases Bool.eq_false_or_eq_true (decide (wh > IntKind.i64.wrap (253402300799 - now))) with h0 | h0
  · refine (calls_orc (call := aCall Try.prog ΨK1 10 100 4) (ω := [(256, OV.soft (Value.bool true))]) (LF := 10) (F := 100) (av := [.int .i64 now, .int .i64 wh]) (v := Value.int IntKind.i64 253402300799) (ps := [decide (wh > IntKind.i64.wrap (253402300799 - now)) = true]) (call_spec ΨK1_spec mixed 4) mixed (by kernel_rfl) (ob_cons h0 ob_nil) (by kernel_rfl) (by kernel_rfl) w).mono ?_
    rintro e w1 ⟨rfl, hb⟩; exact ⟨by simp only [behind_0, h0, cond_true, cond_false], hb⟩
  · refine (calls_orc (call := aCall Try.prog ΨK1 10 100 4) (ω := [(256, OV.soft (Value.bool false))]) (LF := 10) (F := 100) (av := [.int .i64 now, .int .i64 wh]) (v := Value.int IntKind.i64 (IntKind.i64.wrap (now + wh))) (ps := [decide (wh > IntKind.i64.wrap (253402300799 - now)) = false]) (call_spec ΨK1_spec mixed 4) mixed (by kernel_rfl) (ob_cons h0 ob_nil) (by kernel_rfl) (by kernel_rfl) w).mono ?_
    rintro e w1 ⟨rfl, hb⟩; exact ⟨by simp only [behind_0, h0, cond_true, cond_false], hb⟩
def ψbehind : CallF := fun f args H _ =>
  if f = 29 then match args with
    | [.int .i64 now, .int .i64 wh] => some (Value.int IntKind.i64 (behind_0 now wh), H)
    | _ => none
  else none
theorem ψbehind_spec [Inhabited RawG] : CallSpec Try.prog ψbehind := by
  intro g av Hs lo v H1 h D ρ w args hlt hsz hav hw
  unfold ψbehind at h
  split at h
  · rename_i hg
    subst hg
    split at h
    · cases h; exact spec_of_pure (fun w => behind_any _ _ w) (by kernel_rfl) (by kernel_rfl) hsz hav hw
    · cases h
  · cases h
def check_0 (cf : Int) (cb : Int) (cm : Int) (cp : Int) : Int := (bif (decide (cf < 1)) then 200 else (bif (decide (cf > 1048576)) then 200 else (bif (decide (cb < 1)) then 200 else (bif (decide (cb > 253402300799)) then 200 else (bif (decide (cm < cb)) then 200 else (bif (decide (cm > 253402300799)) then 200 else (bif (decide (cp < 0)) then 200 else (bif (decide (cp > 100)) then 200 else 0))))))))
theorem check_any (cf : Int) (cb : Int) (cm : Int) (cp : Int) (w : World) : Calls Try.prog 20 #[.agg #[.int .i64 cf, .int .i64 cb, .int .i64 cm, .int .i64 cp]] w (fun e w1 => e = .returned (Value.int IntKind.i64 (check_0 cf cb cm cp)) ∧ Below w.heap.size w w1) := by
  rcases Bool.eq_false_or_eq_true (decide (cf < 1)) with h0 | h0
  · refine (calls_orc (call := aCall Try.prog ΨK1 10 100 4) (ω := [(320, OV.soft (Value.bool true))]) (LF := 10) (F := 100) (av := [.agg #[.int .i64 cf, .int .i64 cb, .int .i64 cm, .int .i64 cp]]) (v := Value.int IntKind.i64 200) (ps := [decide (cf < 1) = true]) (call_spec ΨK1_spec mixed 4) mixed (by kernel_rfl) (ob_cons h0 ob_nil) (by kernel_rfl) (by kernel_rfl) w).mono ?_
    rintro e w1 ⟨rfl, hb⟩; exact ⟨by simp only [check_0, h0, cond_true, cond_false], hb⟩
  · rcases Bool.eq_false_or_eq_true (decide (cf > 1048576)) with h1 | h1
    · refine (calls_orc (call := aCall Try.prog ΨK1 10 100 4) (ω := [(320, OV.soft (Value.bool false)), (640, OV.soft (Value.bool true))]) (LF := 10) (F := 100) (av := [.agg #[.int .i64 cf, .int .i64 cb, .int .i64 cm, .int .i64 cp]]) (v := Value.int IntKind.i64 200) (ps := [decide (cf < 1) = false, decide (cf > 1048576) = true]) (call_spec ΨK1_spec mixed 4) mixed (by kernel_rfl) (ob_cons h0 (ob_cons h1 ob_nil)) (by kernel_rfl) (by kernel_rfl) w).mono ?_
      rintro e w1 ⟨rfl, hb⟩; exact ⟨by simp only [check_0, h0, h1, cond_true, cond_false], hb⟩
    · rcases Bool.eq_false_or_eq_true (decide (cb < 1)) with h2 | h2
      · refine (calls_orc (call := aCall Try.prog ΨK1 10 100 4) (ω := [(320, OV.soft (Value.bool false)), (640, OV.soft (Value.bool false)), (960, OV.soft (Value.bool true))]) (LF := 10) (F := 100) (av := [.agg #[.int .i64 cf, .int .i64 cb, .int .i64 cm, .int .i64 cp]]) (v := Value.int IntKind.i64 200) (ps := [decide (cf < 1) = false, decide (cf > 1048576) = false, decide (cb < 1) = true]) (call_spec ΨK1_spec mixed 4) mixed (by kernel_rfl) (ob_cons h0 (ob_cons h1 (ob_cons h2 ob_nil))) (by kernel_rfl) (by kernel_rfl) w).mono ?_
        rintro e w1 ⟨rfl, hb⟩; exact ⟨by simp only [check_0, h0, h1, h2, cond_true, cond_false], hb⟩
      · rcases Bool.eq_false_or_eq_true (decide (cb > 253402300799)) with h3 | h3
        · refine (calls_orc (call := aCall Try.prog ΨK1 10 100 4) (ω := [(320, OV.soft (Value.bool false)), (640, OV.soft (Value.bool false)), (960, OV.soft (Value.bool false)), (1280, OV.soft (Value.bool true))]) (LF := 10) (F := 100) (av := [.agg #[.int .i64 cf, .int .i64 cb, .int .i64 cm, .int .i64 cp]]) (v := Value.int IntKind.i64 200) (ps := [decide (cf < 1) = false, decide (cf > 1048576) = false, decide (cb < 1) = false, decide (cb > 253402300799) = true]) (call_spec ΨK1_spec mixed 4) mixed (by kernel_rfl) (ob_cons h0 (ob_cons h1 (ob_cons h2 (ob_cons h3 ob_nil)))) (by kernel_rfl) (by kernel_rfl) w).mono ?_
          rintro e w1 ⟨rfl, hb⟩; exact ⟨by simp only [check_0, h0, h1, h2, h3, cond_true, cond_false], hb⟩
        · rcases Bool.eq_false_or_eq_true (decide (cm < cb)) with h4 | h4
          · refine (calls_orc (call := aCall Try.prog ΨK1 10 100 4) (ω := [(320, OV.soft (Value.bool false)), (640, OV.soft (Value.bool false)), (960, OV.soft (Value.bool false)), (1280, OV.soft (Value.bool false)), (1728, OV.soft (Value.bool true))]) (LF := 10) (F := 100) (av := [.agg #[.int .i64 cf, .int .i64 cb, .int .i64 cm, .int .i64 cp]]) (v := Value.int IntKind.i64 200) (ps := [decide (cf < 1) = false, decide (cf > 1048576) = false, decide (cb < 1) = false, decide (cb > 253402300799) = false, decide (cm < cb) = true]) (call_spec ΨK1_spec mixed 4) mixed (by kernel_rfl) (ob_cons h0 (ob_cons h1 (ob_cons h2 (ob_cons h3 (ob_cons h4 ob_nil))))) (by kernel_rfl) (by kernel_rfl) w).mono ?_
            rintro e w1 ⟨rfl, hb⟩; exact ⟨by simp only [check_0, h0, h1, h2, h3, h4, cond_true, cond_false], hb⟩
          · rcases Bool.eq_false_or_eq_true (decide (cm > 253402300799)) with h5 | h5
            · refine (calls_orc (call := aCall Try.prog ΨK1 10 100 4) (ω := [(320, OV.soft (Value.bool false)), (640, OV.soft (Value.bool false)), (960, OV.soft (Value.bool false)), (1280, OV.soft (Value.bool false)), (1728, OV.soft (Value.bool false)), (2048, OV.soft (Value.bool true))]) (LF := 10) (F := 100) (av := [.agg #[.int .i64 cf, .int .i64 cb, .int .i64 cm, .int .i64 cp]]) (v := Value.int IntKind.i64 200) (ps := [decide (cf < 1) = false, decide (cf > 1048576) = false, decide (cb < 1) = false, decide (cb > 253402300799) = false, decide (cm < cb) = false, decide (cm > 253402300799) = true]) (call_spec ΨK1_spec mixed 4) mixed (by kernel_rfl) (ob_cons h0 (ob_cons h1 (ob_cons h2 (ob_cons h3 (ob_cons h4 (ob_cons h5 ob_nil)))))) (by kernel_rfl) (by kernel_rfl) w).mono ?_
              rintro e w1 ⟨rfl, hb⟩; exact ⟨by simp only [check_0, h0, h1, h2, h3, h4, h5, cond_true, cond_false], hb⟩
            · rcases Bool.eq_false_or_eq_true (decide (cp < 0)) with h6 | h6
              · refine (calls_orc (call := aCall Try.prog ΨK1 10 100 4) (ω := [(320, OV.soft (Value.bool false)), (640, OV.soft (Value.bool false)), (960, OV.soft (Value.bool false)), (1280, OV.soft (Value.bool false)), (1728, OV.soft (Value.bool false)), (2048, OV.soft (Value.bool false)), (2368, OV.soft (Value.bool true))]) (LF := 10) (F := 100) (av := [.agg #[.int .i64 cf, .int .i64 cb, .int .i64 cm, .int .i64 cp]]) (v := Value.int IntKind.i64 200) (ps := [decide (cf < 1) = false, decide (cf > 1048576) = false, decide (cb < 1) = false, decide (cb > 253402300799) = false, decide (cm < cb) = false, decide (cm > 253402300799) = false, decide (cp < 0) = true]) (call_spec ΨK1_spec mixed 4) mixed (by kernel_rfl) (ob_cons h0 (ob_cons h1 (ob_cons h2 (ob_cons h3 (ob_cons h4 (ob_cons h5 (ob_cons h6 ob_nil))))))) (by kernel_rfl) (by kernel_rfl) w).mono ?_
                rintro e w1 ⟨rfl, hb⟩; exact ⟨by simp only [check_0, h0, h1, h2, h3, h4, h5, h6, cond_true, cond_false], hb⟩
              · rcases Bool.eq_false_or_eq_true (decide (cp > 100)) with h7 | h7
                · refine (calls_orc (call := aCall Try.prog ΨK1 10 100 4) (ω := [(320, OV.soft (Value.bool false)), (640, OV.soft (Value.bool false)), (960, OV.soft (Value.bool false)), (1280, OV.soft (Value.bool false)), (1728, OV.soft (Value.bool false)), (2048, OV.soft (Value.bool false)), (2368, OV.soft (Value.bool false)), (2624, OV.soft (Value.bool true))]) (LF := 10) (F := 100) (av := [.agg #[.int .i64 cf, .int .i64 cb, .int .i64 cm, .int .i64 cp]]) (v := Value.int IntKind.i64 200) (ps := [decide (cf < 1) = false, decide (cf > 1048576) = false, decide (cb < 1) = false, decide (cb > 253402300799) = false, decide (cm < cb) = false, decide (cm > 253402300799) = false, decide (cp < 0) = false, decide (cp > 100) = true]) (call_spec ΨK1_spec mixed 4) mixed (by kernel_rfl) (ob_cons h0 (ob_cons h1 (ob_cons h2 (ob_cons h3 (ob_cons h4 (ob_cons h5 (ob_cons h6 (ob_cons h7 ob_nil)))))))) (by kernel_rfl) (by kernel_rfl) w).mono ?_
                  rintro e w1 ⟨rfl, hb⟩; exact ⟨by simp only [check_0, h0, h1, h2, h3, h4, h5, h6, h7, cond_true, cond_false], hb⟩
                · refine (calls_orc (call := aCall Try.prog ΨK1 10 100 4) (ω := [(320, OV.soft (Value.bool false)), (640, OV.soft (Value.bool false)), (960, OV.soft (Value.bool false)), (1280, OV.soft (Value.bool false)), (1728, OV.soft (Value.bool false)), (2048, OV.soft (Value.bool false)), (2368, OV.soft (Value.bool false)), (2624, OV.soft (Value.bool false))]) (LF := 10) (F := 100) (av := [.agg #[.int .i64 cf, .int .i64 cb, .int .i64 cm, .int .i64 cp]]) (v := Value.int IntKind.i64 0) (ps := [decide (cf < 1) = false, decide (cf > 1048576) = false, decide (cb < 1) = false, decide (cb > 253402300799) = false, decide (cm < cb) = false, decide (cm > 253402300799) = false, decide (cp < 0) = false, decide (cp > 100) = false]) (call_spec ΨK1_spec mixed 4) mixed (by kernel_rfl) (ob_cons h0 (ob_cons h1 (ob_cons h2 (ob_cons h3 (ob_cons h4 (ob_cons h5 (ob_cons h6 (ob_cons h7 ob_nil)))))))) (by kernel_rfl) (by kernel_rfl) w).mono ?_
                  rintro e w1 ⟨rfl, hb⟩; exact ⟨by simp only [check_0, h0, h1, h2, h3, h4, h5, h6, h7, cond_true, cond_false], hb⟩
def ψcheck : CallF := fun f args H _ =>
  if f = 20 then match args with
    | [.agg ⟨[.int .i64 cf, .int .i64 cb, .int .i64 cm, .int .i64 cp]⟩] => some (Value.int IntKind.i64 (check_0 cf cb cm cp), H)
    | _ => none
  else none
theorem ψcheck_spec [Inhabited RawG] : CallSpec Try.prog ψcheck := by
  intro g av Hs lo v H1 h D ρ w args hlt hsz hav hw
  unfold ψcheck at h
  split at h
  · rename_i hg
    subst hg
    split at h
    · cases h; exact spec_of_pure (fun w => check_any _ _ _ _ w) (by kernel_rfl) (by kernel_rfl) hsz hav hw
    · cases h
  · cases h
def rcheck_0 (cf : Int) (cb : Int) (cm : Int) (cp : Int) : Int := (bif (decide (cf < 1)) then 200 else (bif (decide (cf > 1048576)) then 200 else (bif (decide (cb < 1)) then 200 else (bif (decide (cb > 253402300799)) then 200 else (bif (decide (cm < cb)) then 200 else (bif (decide (cm > 253402300799)) then 200 else (bif (decide (cp < 0)) then 200 else (bif (decide (cp > 100)) then 200 else 0))))))))
theorem rcheck_any (cf : Int) (cb : Int) (cm : Int) (cp : Int) (w : World) : Calls Try.prog 21 #[.agg #[.int .i64 cf, .int .i64 cb, .int .i64 cm, .int .i64 cp]] w (fun e w1 => e = .returned (Value.int IntKind.i64 (rcheck_0 cf cb cm cp)) ∧ Below w.heap.size w w1) := by
  rcases Bool.eq_false_or_eq_true (decide (cf < 1)) with h0 | h0
  · refine (calls_orc (call := aCall Try.prog ΨK1 10 100 4) (ω := [(320, OV.soft (Value.bool true))]) (LF := 10) (F := 100) (av := [.agg #[.int .i64 cf, .int .i64 cb, .int .i64 cm, .int .i64 cp]]) (v := Value.int IntKind.i64 200) (ps := [decide (cf < 1) = true]) (call_spec ΨK1_spec mixed 4) mixed (by kernel_rfl) (ob_cons h0 ob_nil) (by kernel_rfl) (by kernel_rfl) w).mono ?_
    rintro e w1 ⟨rfl, hb⟩; exact ⟨by simp only [rcheck_0, h0, cond_true, cond_false], hb⟩
  · rcases Bool.eq_false_or_eq_true (decide (cf > 1048576)) with h1 | h1
    · refine (calls_orc (call := aCall Try.prog ΨK1 10 100 4) (ω := [(320, OV.soft (Value.bool false)), (640, OV.soft (Value.bool true))]) (LF := 10) (F := 100) (av := [.agg #[.int .i64 cf, .int .i64 cb, .int .i64 cm, .int .i64 cp]]) (v := Value.int IntKind.i64 200) (ps := [decide (cf < 1) = false, decide (cf > 1048576) = true]) (call_spec ΨK1_spec mixed 4) mixed (by kernel_rfl) (ob_cons h0 (ob_cons h1 ob_nil)) (by kernel_rfl) (by kernel_rfl) w).mono ?_
      rintro e w1 ⟨rfl, hb⟩; exact ⟨by simp only [rcheck_0, h0, h1, cond_true, cond_false], hb⟩
    · rcases Bool.eq_false_or_eq_true (decide (cb < 1)) with h2 | h2
      · refine (calls_orc (call := aCall Try.prog ΨK1 10 100 4) (ω := [(320, OV.soft (Value.bool false)), (640, OV.soft (Value.bool false)), (960, OV.soft (Value.bool true))]) (LF := 10) (F := 100) (av := [.agg #[.int .i64 cf, .int .i64 cb, .int .i64 cm, .int .i64 cp]]) (v := Value.int IntKind.i64 200) (ps := [decide (cf < 1) = false, decide (cf > 1048576) = false, decide (cb < 1) = true]) (call_spec ΨK1_spec mixed 4) mixed (by kernel_rfl) (ob_cons h0 (ob_cons h1 (ob_cons h2 ob_nil))) (by kernel_rfl) (by kernel_rfl) w).mono ?_
        rintro e w1 ⟨rfl, hb⟩; exact ⟨by simp only [rcheck_0, h0, h1, h2, cond_true, cond_false], hb⟩
      · rcases Bool.eq_false_or_eq_true (decide (cb > 253402300799)) with h3 | h3
        · refine (calls_orc (call := aCall Try.prog ΨK1 10 100 4) (ω := [(320, OV.soft (Value.bool false)), (640, OV.soft (Value.bool false)), (960, OV.soft (Value.bool false)), (1280, OV.soft (Value.bool true))]) (LF := 10) (F := 100) (av := [.agg #[.int .i64 cf, .int .i64 cb, .int .i64 cm, .int .i64 cp]]) (v := Value.int IntKind.i64 200) (ps := [decide (cf < 1) = false, decide (cf > 1048576) = false, decide (cb < 1) = false, decide (cb > 253402300799) = true]) (call_spec ΨK1_spec mixed 4) mixed (by kernel_rfl) (ob_cons h0 (ob_cons h1 (ob_cons h2 (ob_cons h3 ob_nil)))) (by kernel_rfl) (by kernel_rfl) w).mono ?_
          rintro e w1 ⟨rfl, hb⟩; exact ⟨by simp only [rcheck_0, h0, h1, h2, h3, cond_true, cond_false], hb⟩
        · rcases Bool.eq_false_or_eq_true (decide (cm < cb)) with h4 | h4
          · refine (calls_orc (call := aCall Try.prog ΨK1 10 100 4) (ω := [(320, OV.soft (Value.bool false)), (640, OV.soft (Value.bool false)), (960, OV.soft (Value.bool false)), (1280, OV.soft (Value.bool false)), (1728, OV.soft (Value.bool true))]) (LF := 10) (F := 100) (av := [.agg #[.int .i64 cf, .int .i64 cb, .int .i64 cm, .int .i64 cp]]) (v := Value.int IntKind.i64 200) (ps := [decide (cf < 1) = false, decide (cf > 1048576) = false, decide (cb < 1) = false, decide (cb > 253402300799) = false, decide (cm < cb) = true]) (call_spec ΨK1_spec mixed 4) mixed (by kernel_rfl) (ob_cons h0 (ob_cons h1 (ob_cons h2 (ob_cons h3 (ob_cons h4 ob_nil))))) (by kernel_rfl) (by kernel_rfl) w).mono ?_
            rintro e w1 ⟨rfl, hb⟩; exact ⟨by simp only [rcheck_0, h0, h1, h2, h3, h4, cond_true, cond_false], hb⟩
          · rcases Bool.eq_false_or_eq_true (decide (cm > 253402300799)) with h5 | h5
            · refine (calls_orc (call := aCall Try.prog ΨK1 10 100 4) (ω := [(320, OV.soft (Value.bool false)), (640, OV.soft (Value.bool false)), (960, OV.soft (Value.bool false)), (1280, OV.soft (Value.bool false)), (1728, OV.soft (Value.bool false)), (2048, OV.soft (Value.bool true))]) (LF := 10) (F := 100) (av := [.agg #[.int .i64 cf, .int .i64 cb, .int .i64 cm, .int .i64 cp]]) (v := Value.int IntKind.i64 200) (ps := [decide (cf < 1) = false, decide (cf > 1048576) = false, decide (cb < 1) = false, decide (cb > 253402300799) = false, decide (cm < cb) = false, decide (cm > 253402300799) = true]) (call_spec ΨK1_spec mixed 4) mixed (by kernel_rfl) (ob_cons h0 (ob_cons h1 (ob_cons h2 (ob_cons h3 (ob_cons h4 (ob_cons h5 ob_nil)))))) (by kernel_rfl) (by kernel_rfl) w).mono ?_
              rintro e w1 ⟨rfl, hb⟩; exact ⟨by simp only [rcheck_0, h0, h1, h2, h3, h4, h5, cond_true, cond_false], hb⟩
            · rcases Bool.eq_false_or_eq_true (decide (cp < 0)) with h6 | h6
              · refine (calls_orc (call := aCall Try.prog ΨK1 10 100 4) (ω := [(320, OV.soft (Value.bool false)), (640, OV.soft (Value.bool false)), (960, OV.soft (Value.bool false)), (1280, OV.soft (Value.bool false)), (1728, OV.soft (Value.bool false)), (2048, OV.soft (Value.bool false)), (2368, OV.soft (Value.bool true))]) (LF := 10) (F := 100) (av := [.agg #[.int .i64 cf, .int .i64 cb, .int .i64 cm, .int .i64 cp]]) (v := Value.int IntKind.i64 200) (ps := [decide (cf < 1) = false, decide (cf > 1048576) = false, decide (cb < 1) = false, decide (cb > 253402300799) = false, decide (cm < cb) = false, decide (cm > 253402300799) = false, decide (cp < 0) = true]) (call_spec ΨK1_spec mixed 4) mixed (by kernel_rfl) (ob_cons h0 (ob_cons h1 (ob_cons h2 (ob_cons h3 (ob_cons h4 (ob_cons h5 (ob_cons h6 ob_nil))))))) (by kernel_rfl) (by kernel_rfl) w).mono ?_
                rintro e w1 ⟨rfl, hb⟩; exact ⟨by simp only [rcheck_0, h0, h1, h2, h3, h4, h5, h6, cond_true, cond_false], hb⟩
              · rcases Bool.eq_false_or_eq_true (decide (cp > 100)) with h7 | h7
                · refine (calls_orc (call := aCall Try.prog ΨK1 10 100 4) (ω := [(320, OV.soft (Value.bool false)), (640, OV.soft (Value.bool false)), (960, OV.soft (Value.bool false)), (1280, OV.soft (Value.bool false)), (1728, OV.soft (Value.bool false)), (2048, OV.soft (Value.bool false)), (2368, OV.soft (Value.bool false)), (2624, OV.soft (Value.bool true))]) (LF := 10) (F := 100) (av := [.agg #[.int .i64 cf, .int .i64 cb, .int .i64 cm, .int .i64 cp]]) (v := Value.int IntKind.i64 200) (ps := [decide (cf < 1) = false, decide (cf > 1048576) = false, decide (cb < 1) = false, decide (cb > 253402300799) = false, decide (cm < cb) = false, decide (cm > 253402300799) = false, decide (cp < 0) = false, decide (cp > 100) = true]) (call_spec ΨK1_spec mixed 4) mixed (by kernel_rfl) (ob_cons h0 (ob_cons h1 (ob_cons h2 (ob_cons h3 (ob_cons h4 (ob_cons h5 (ob_cons h6 (ob_cons h7 ob_nil)))))))) (by kernel_rfl) (by kernel_rfl) w).mono ?_
                  rintro e w1 ⟨rfl, hb⟩; exact ⟨by simp only [rcheck_0, h0, h1, h2, h3, h4, h5, h6, h7, cond_true, cond_false], hb⟩
                · refine (calls_orc (call := aCall Try.prog ΨK1 10 100 4) (ω := [(320, OV.soft (Value.bool false)), (640, OV.soft (Value.bool false)), (960, OV.soft (Value.bool false)), (1280, OV.soft (Value.bool false)), (1728, OV.soft (Value.bool false)), (2048, OV.soft (Value.bool false)), (2368, OV.soft (Value.bool false)), (2624, OV.soft (Value.bool false))]) (LF := 10) (F := 100) (av := [.agg #[.int .i64 cf, .int .i64 cb, .int .i64 cm, .int .i64 cp]]) (v := Value.int IntKind.i64 0) (ps := [decide (cf < 1) = false, decide (cf > 1048576) = false, decide (cb < 1) = false, decide (cb > 253402300799) = false, decide (cm < cb) = false, decide (cm > 253402300799) = false, decide (cp < 0) = false, decide (cp > 100) = false]) (call_spec ΨK1_spec mixed 4) mixed (by kernel_rfl) (ob_cons h0 (ob_cons h1 (ob_cons h2 (ob_cons h3 (ob_cons h4 (ob_cons h5 (ob_cons h6 (ob_cons h7 ob_nil)))))))) (by kernel_rfl) (by kernel_rfl) w).mono ?_
                  rintro e w1 ⟨rfl, hb⟩; exact ⟨by simp only [rcheck_0, h0, h1, h2, h3, h4, h5, h6, h7, cond_true, cond_false], hb⟩
def ψrcheck : CallF := fun f args H _ =>
  if f = 21 then match args with
    | [.agg ⟨[.int .i64 cf, .int .i64 cb, .int .i64 cm, .int .i64 cp]⟩] => some (Value.int IntKind.i64 (rcheck_0 cf cb cm cp), H)
    | _ => none
  else none
theorem ψrcheck_spec [Inhabited RawG] : CallSpec Try.prog ψrcheck := by
  intro g av Hs lo v H1 h D ρ w args hlt hsz hav hw
  unfold ψrcheck at h
  split at h
  · rename_i hg
    subst hg
    split at h
    · cases h; exact spec_of_pure (fun w => rcheck_any _ _ _ _ w) (by kernel_rfl) (by kernel_rfl) hsz hav hw
    · cases h
  · cases h
def ΨS1_0 : CallF := orΨ ψtime ΨK1
theorem ΨS1_0_spec [Inhabited RawG] : CallSpec Try.prog ΨS1_0 := orΨ_spec ψtime_spec ΨK1_spec
def ΨS1_1 : CallF := orΨ ψbehind ΨS1_0
theorem ΨS1_1_spec [Inhabited RawG] : CallSpec Try.prog ΨS1_1 := orΨ_spec ψbehind_spec ΨS1_0_spec
def ΨS1_2 : CallF := orΨ ψcheck ΨS1_1
theorem ΨS1_2_spec [Inhabited RawG] : CallSpec Try.prog ΨS1_2 := orΨ_spec ψcheck_spec ΨS1_1_spec
def ΨS1 : CallF := orΨ ψrcheck ΨS1_2
theorem ΨS1_spec [Inhabited RawG] : CallSpec Try.prog ΨS1 := orΨ_spec ψrcheck_spec ΨS1_2_spec
end Go.Proofs.Ytpdfpnfnlikjfaa
