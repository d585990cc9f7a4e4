/- Contracts that the engine has found; their texts are a program's. Contracts that the engine has found; their texts are a program's. Contracts that the engine has found; their texts are a program's. -/
import Derived.Test.YtadpnamooajpoaaS6
import Derived.Test.YtadpnamooajpoaaX17
import Derived.Test.YtadpnamooajpoaaP1
namespace Go.Proofs.Ytadpnamooajpoaa
section
abbrev oT : OV := OV.soft (Value.bool true)
abbrev oF : OV := OV.soft (Value.bool false)
open Go.RowKit
set_option linter.unusedVariables false
set_option linter.unusedSectionVars false
set_option linter.unusedSimpArgs false
set_option maxRecDepth 100000
theorem rnewB_any  (w : World) : Calls Try.prog 54 #[] w (fun e w1 => e = .returned (Value.agg #[Value.int IntKind.i64 1, Value.int IntKind.i64 0, Value.int IntKind.i64 0, Value.int IntKind.i64 0, Value.int IntKind.i64 0, Value.int IntKind.i64 0]) ∧ Below w.heap.size w w1) := by
  refine (calls_orc (call := aCall Try.prog ΨS6 10 100 4) (ω := []) (LF := 10) (F := 100) (av := []) (v := Value.agg #[Value.int IntKind.i64 1, Value.int IntKind.i64 0, Value.int IntKind.i64 0, Value.int IntKind.i64 0, Value.int IntKind.i64 0, Value.int IntKind.i64 0]) (ps := []) (call_spec ΨS6_spec mixed 4) mixed (by kernel_rfl) ob_nil (by kernel_rfl) (by kernel_rfl) w).mono ?_
  exact fun e w1 h => h
def ψrnewB : CallF := fun f args H _ =>
  if f = 54 then match args with
    | [] => some (Value.agg #[Value.int IntKind.i64 1, Value.int IntKind.i64 0, Value.int IntKind.i64 0, Value.int IntKind.i64 0, Value.int IntKind.i64 0, Value.int IntKind.i64 0], H)
    | _ => none
  else none
theorem ψrnewB_spec [Inhabited RawG] : CallSpec Try.prog ψrnewB := by
  intro g av Hs lo v H1 h D ρ w args hlt hsz hav hw
  unfold ψrnewB at h
  split at h
  · rename_i hg
    subst hg
    split at h
    · cases h; exact spec_of_pure (fun w => rnewB_any  w) (by kernel_rfl) (by kernel_rfl) hsz hav hw
    · cases h
  · cases h
theorem rnewP_any  (w : World) : Calls Try.prog 55 #[] w (fun e w1 => e = .returned (Value.agg #[Value.bool true, Value.int IntKind.i64 0, Value.int IntKind.i64 0, Value.bool false, Value.int IntKind.i64 0]) ∧ Below w.heap.size w w1) := by
  refine (calls_orc (call := aCall Try.prog ΨS6 10 100 4) (ω := []) (LF := 10) (F := 100) (av := []) (v := Value.agg #[Value.bool true, Value.int IntKind.i64 0, Value.int IntKind.i64 0, Value.bool false, Value.int IntKind.i64 0]) (ps := []) (call_spec ΨS6_spec mixed 4) mixed (by kernel_rfl) ob_nil (by kernel_rfl) (by kernel_rfl) w).mono ?_
  exact fun e w1 h => h
def ψrnewP : CallF := fun f args H _ =>
  if f = 55 then match args with
    | [] => some (Value.agg #[Value.bool true, Value.int IntKind.i64 0, Value.int IntKind.i64 0, Value.bool false, Value.int IntKind.i64 0], H)
    | _ => none
  else none
theorem ψrnewP_spec [Inhabited RawG] : CallSpec Try.prog ψrnewP := by
  intro g av Hs lo v H1 h D ρ w args hlt hsz hav hw
  unfold ψrnewP at h
  split at h
  · rename_i hg
    subst hg
    split at h
    · cases h; exact spec_of_pure (fun w => rnewP_any  w) (by kernel_rfl) (by kernel_rfl) hsz hav hw
    · cases h
  · cases h
def rbcheck_0 (cf : Int) (cd : Int) (ct : Int) (cg : Int) : Int := (bif (decide (cf < 1)) then 190 else (bif (decide (cf > 1048576)) then 190 else (bif (decide (ct < 1)) then 190 else (bif (decide (ct > 1048576)) then 190 else (bif (decide (cg < 1)) then 190 else (bif (decide (cg > ct)) then 190 else (bif (decide (cd < 1)) then 190 else (bif (decide (cd > 253402300799)) then 190 else 0))))))))
theorem rbcheck_any (cf : Int) (cd : Int) (ct : Int) (cg : Int) (w : World) : Calls Try.prog 56 #[.agg #[.int .i64 cf, .int .i64 cd, .int .i64 ct, .int .i64 cg]] w (fun e w1 => e = .returned (Value.int IntKind.i64 (rbcheck_0 cf cd ct cg)) ∧ Below w.heap.size w w1) := by
  rcases Bool.eq_false_or_eq_true (decide (cf < 1)) with h0 | h0
  · refine (calls_orc (call := aCall Try.prog ΨS6 10 100 4) (ω := [(320, oT)]) (LF := 10) (F := 100) (av := [.agg #[.int .i64 cf, .int .i64 cd, .int .i64 ct, .int .i64 cg]]) (v := Value.int IntKind.i64 190) (ps := [decide (cf < 1) = true]) (call_spec ΨS6_spec mixed 4) mixed (by kernel_rfl) (ob_cons h0 ob_nil) (by kernel_rfl) (by kernel_rfl) w).mono ?_
    rintro e w1 ⟨rfl, hb⟩; exact ⟨by simp only [rbcheck_0, h0, cond_true, cond_false], hb⟩
  · rcases Bool.eq_false_or_eq_true (decide (cf > 1048576)) with h1 | h1
    · refine (calls_orc (call := aCall Try.prog ΨS6 10 100 4) (ω := [(320, oF), (640, oT)]) (LF := 10) (F := 100) (av := [.agg #[.int .i64 cf, .int .i64 cd, .int .i64 ct, .int .i64 cg]]) (v := Value.int IntKind.i64 190) (ps := [decide (cf < 1) = false, decide (cf > 1048576) = true]) (call_spec ΨS6_spec mixed 4) mixed (by kernel_rfl) (ob_cons h0 (ob_cons h1 ob_nil)) (by kernel_rfl) (by kernel_rfl) w).mono ?_
      rintro e w1 ⟨rfl, hb⟩; exact ⟨by simp only [rbcheck_0, h0, h1, cond_true, cond_false], hb⟩
    · rcases Bool.eq_false_or_eq_true (decide (ct < 1)) with h2 | h2
      · refine (calls_orc (call := aCall Try.prog ΨS6 10 100 4) (ω := [(320, oF), (640, oF), (960, oT)]) (LF := 10) (F := 100) (av := [.agg #[.int .i64 cf, .int .i64 cd, .int .i64 ct, .int .i64 cg]]) (v := Value.int IntKind.i64 190) (ps := [decide (cf < 1) = false, decide (cf > 1048576) = false, decide (ct < 1) = true]) (call_spec ΨS6_spec mixed 4) mixed (by kernel_rfl) (ob_cons h0 (ob_cons h1 (ob_cons h2 ob_nil))) (by kernel_rfl) (by kernel_rfl) w).mono ?_
        rintro e w1 ⟨rfl, hb⟩; exact ⟨by simp only [rbcheck_0, h0, h1, h2, cond_true, cond_false], hb⟩
      · rcases Bool.eq_false_or_eq_true (decide (ct > 1048576)) with h3 | h3
        · refine (calls_orc (call := aCall Try.prog ΨS6 10 100 4) (ω := [(320, oF), (640, oF), (960, oF), (1280, oT)]) (LF := 10) (F := 100) (av := [.agg #[.int .i64 cf, .int .i64 cd, .int .i64 ct, .int .i64 cg]]) (v := Value.int IntKind.i64 190) (ps := [decide (cf < 1) = false, decide (cf > 1048576) = false, decide (ct < 1) = false, decide (ct > 1048576) = true]) (call_spec ΨS6_spec mixed 4) mixed (by kernel_rfl) (ob_cons h0 (ob_cons h1 (ob_cons h2 (ob_cons h3 ob_nil)))) (by kernel_rfl) (by kernel_rfl) w).mono ?_
          rintro e w1 ⟨rfl, hb⟩; exact ⟨by simp only [rbcheck_0, h0, h1, h2, h3, cond_true, cond_false], hb⟩
        · rcases Bool.eq_false_or_eq_true (decide (cg < 1)) with h4 | h4
          · refine (calls_orc (call := aCall Try.prog ΨS6 10 100 4) (ω := [(320, oF), (640, oF), (960, oF), (1280, oF), (1600, oT)]) (LF := 10) (F := 100) (av := [.agg #[.int .i64 cf, .int .i64 cd, .int .i64 ct, .int .i64 cg]]) (v := Value.int IntKind.i64 190) (ps := [decide (cf < 1) = false, decide (cf > 1048576) = false, decide (ct < 1) = false, decide (ct > 1048576) = false, decide (cg < 1) = true]) (call_spec ΨS6_spec mixed 4) mixed (by kernel_rfl) (ob_cons h0 (ob_cons h1 (ob_cons h2 (ob_cons h3 (ob_cons h4 ob_nil))))) (by kernel_rfl) (by kernel_rfl) w).mono ?_
            rintro e w1 ⟨rfl, hb⟩; exact ⟨by simp only [rbcheck_0, h0, h1, h2, h3, h4, cond_true, cond_false], hb⟩
          · rcases Bool.eq_false_or_eq_true (decide (cg > ct)) with h5 | h5
            · refine (calls_orc (call := aCall Try.prog ΨS6 10 100 4) (ω := [(320, oF), (640, oF), (960, oF), (1280, oF), (1600, oF), (2048, oT)]) (LF := 10) (F := 100) (av := [.agg #[.int .i64 cf, .int .i64 cd, .int .i64 ct, .int .i64 cg]]) (v := Value.int IntKind.i64 190) (ps := [decide (cf < 1) = false, decide (cf > 1048576) = false, decide (ct < 1) = false, decide (ct > 1048576) = false, decide (cg < 1) = false, decide (cg > ct) = true]) (call_spec ΨS6_spec mixed 4) mixed (by kernel_rfl) (ob_cons h0 (ob_cons h1 (ob_cons h2 (ob_cons h3 (ob_cons h4 (ob_cons h5 ob_nil)))))) (by kernel_rfl) (by kernel_rfl) w).mono ?_
              rintro e w1 ⟨rfl, hb⟩; exact ⟨by simp only [rbcheck_0, h0, h1, h2, h3, h4, h5, cond_true, cond_false], hb⟩
            · rcases Bool.eq_false_or_eq_true (decide (cd < 1)) with h6 | h6
              · refine (calls_orc (call := aCall Try.prog ΨS6 10 100 4) (ω := [(320, oF), (640, oF), (960, oF), (1280, oF), (1600, oF), (2048, oF), (2368, oT)]) (LF := 10) (F := 100) (av := [.agg #[.int .i64 cf, .int .i64 cd, .int .i64 ct, .int .i64 cg]]) (v := Value.int IntKind.i64 190) (ps := [decide (cf < 1) = false, decide (cf > 1048576) = false, decide (ct < 1) = false, decide (ct > 1048576) = false, decide (cg < 1) = false, decide (cg > ct) = false, decide (cd < 1) = true]) (call_spec ΨS6_spec mixed 4) mixed (by kernel_rfl) (ob_cons h0 (ob_cons h1 (ob_cons h2 (ob_cons h3 (ob_cons h4 (ob_cons h5 (ob_cons h6 ob_nil))))))) (by kernel_rfl) (by kernel_rfl) w).mono ?_
                rintro e w1 ⟨rfl, hb⟩; exact ⟨by simp only [rbcheck_0, h0, h1, h2, h3, h4, h5, h6, cond_true, cond_false], hb⟩
              · rcases Bool.eq_false_or_eq_true (decide (cd > 253402300799)) with h7 | h7
                · refine (calls_orc (call := aCall Try.prog ΨS6 10 100 4) (ω := [(320, oF), (640, oF), (960, oF), (1280, oF), (1600, oF), (2048, oF), (2368, oF), (2624, oT)]) (LF := 10) (F := 100) (av := [.agg #[.int .i64 cf, .int .i64 cd, .int .i64 ct, .int .i64 cg]]) (v := Value.int IntKind.i64 190) (ps := [decide (cf < 1) = false, decide (cf > 1048576) = false, decide (ct < 1) = false, decide (ct > 1048576) = false, decide (cg < 1) = false, decide (cg > ct) = false, decide (cd < 1) = false, decide (cd > 253402300799) = true]) (call_spec ΨS6_spec mixed 4) mixed (by kernel_rfl) (ob_cons h0 (ob_cons h1 (ob_cons h2 (ob_cons h3 (ob_cons h4 (ob_cons h5 (ob_cons h6 (ob_cons h7 ob_nil)))))))) (by kernel_rfl) (by kernel_rfl) w).mono ?_
                  rintro e w1 ⟨rfl, hb⟩; exact ⟨by simp only [rbcheck_0, h0, h1, h2, h3, h4, h5, h6, h7, cond_true, cond_false], hb⟩
                · refine (calls_orc (call := aCall Try.prog ΨS6 10 100 4) (ω := [(320, oF), (640, oF), (960, oF), (1280, oF), (1600, oF), (2048, oF), (2368, oF), (2624, oF)]) (LF := 10) (F := 100) (av := [.agg #[.int .i64 cf, .int .i64 cd, .int .i64 ct, .int .i64 cg]]) (v := Value.int IntKind.i64 0) (ps := [decide (cf < 1) = false, decide (cf > 1048576) = false, decide (ct < 1) = false, decide (ct > 1048576) = false, decide (cg < 1) = false, decide (cg > ct) = false, decide (cd < 1) = false, decide (cd > 253402300799) = false]) (call_spec ΨS6_spec mixed 4) mixed (by kernel_rfl) (ob_cons h0 (ob_cons h1 (ob_cons h2 (ob_cons h3 (ob_cons h4 (ob_cons h5 (ob_cons h6 (ob_cons h7 ob_nil)))))))) (by kernel_rfl) (by kernel_rfl) w).mono ?_
                  rintro e w1 ⟨rfl, hb⟩; exact ⟨by simp only [rbcheck_0, h0, h1, h2, h3, h4, h5, h6, h7, cond_true, cond_false], hb⟩
def ψrbcheck : CallF := fun f args H _ =>
  if f = 56 then match args with
    | [.agg ⟨[.int .i64 cf, .int .i64 cd, .int .i64 ct, .int .i64 cg]⟩] => some (Value.int IntKind.i64 (rbcheck_0 cf cd ct cg), H)
    | _ => none
  else none
theorem ψrbcheck_spec [Inhabited RawG] : CallSpec Try.prog ψrbcheck := by
  intro g av Hs lo v H1 h D ρ w args hlt hsz hav hw
  unfold ψrbcheck at h
  split at h
  · rename_i hg
    subst hg
    split at h
    · cases h; exact spec_of_pure (fun w => rbcheck_any _ _ _ _ w) (by kernel_rfl) (by kernel_rfl) hsz hav hw
    · cases h
  · cases h
def rcheck_0 (cf : Int) (cb : Int) (cm : Int) (cp : Int) : Int := (bif (decide (cf < 1)) then 200 else (bif (decide (cf > 1048576)) then 200 else (bif (decide (cb < 1)) then 200 else (bif (decide (cb > 253402300799)) then 200 else (bif (decide (cm < cb)) then 200 else (bif (decide (cm > 253402300799)) then 200 else (bif (decide (cp < 0)) then 200 else (bif (decide (cp > 100)) then 200 else 0))))))))
theorem rcheck_any (cf : Int) (cb : Int) (cm : Int) (cp : Int) (w : World) : Calls Try.prog 57 #[.agg #[.int .i64 cf, .int .i64 cb, .int .i64 cm, .int .i64 cp]] w (fun e w1 => e = .returned (Value.int IntKind.i64 (rcheck_0 cf cb cm cp)) ∧ Below w.heap.size w w1) := by
  rcases Bool.eq_false_or_eq_true (decide (cf < 1)) with h0 | h0
  · refine (calls_orc (call := aCall Try.prog ΨS6 10 100 4) (ω := [(320, oT)]) (LF := 10) (F := 100) (av := [.agg #[.int .i64 cf, .int .i64 cb, .int .i64 cm, .int .i64 cp]]) (v := Value.int IntKind.i64 200) (ps := [decide (cf < 1) = true]) (call_spec ΨS6_spec mixed 4) mixed (by kernel_rfl) (ob_cons h0 ob_nil) (by kernel_rfl) (by kernel_rfl) w).mono ?_
    rintro e w1 ⟨rfl, hb⟩; exact ⟨by simp only [rcheck_0, h0, cond_true, cond_false], hb⟩
  · rcases Bool.eq_false_or_eq_true (decide (cf > 1048576)) with h1 | h1
    · refine (calls_orc (call := aCall Try.prog ΨS6 10 100 4) (ω := [(320, oF), (640, oT)]) (LF := 10) (F := 100) (av := [.agg #[.int .i64 cf, .int .i64 cb, .int .i64 cm, .int .i64 cp]]) (v := Value.int IntKind.i64 200) (ps := [decide (cf < 1) = false, decide (cf > 1048576) = true]) (call_spec ΨS6_spec mixed 4) mixed (by kernel_rfl) (ob_cons h0 (ob_cons h1 ob_nil)) (by kernel_rfl) (by kernel_rfl) w).mono ?_
      rintro e w1 ⟨rfl, hb⟩; exact ⟨by simp only [rcheck_0, h0, h1, cond_true, cond_false], hb⟩
    · rcases Bool.eq_false_or_eq_true (decide (cb < 1)) with h2 | h2
      · refine (calls_orc (call := aCall Try.prog ΨS6 10 100 4) (ω := [(320, oF), (640, oF), (960, oT)]) (LF := 10) (F := 100) (av := [.agg #[.int .i64 cf, .int .i64 cb, .int .i64 cm, .int .i64 cp]]) (v := Value.int IntKind.i64 200) (ps := [decide (cf < 1) = false, decide (cf > 1048576) = false, decide (cb < 1) = true]) (call_spec ΨS6_spec mixed 4) mixed (by kernel_rfl) (ob_cons h0 (ob_cons h1 (ob_cons h2 ob_nil))) (by kernel_rfl) (by kernel_rfl) w).mono ?_
        rintro e w1 ⟨rfl, hb⟩; exact ⟨by simp only [rcheck_0, h0, h1, h2, cond_true, cond_false], hb⟩
      · rcases Bool.eq_false_or_eq_true (decide (cb > 253402300799)) with h3 | h3
        · refine (calls_orc (call := aCall Try.prog ΨS6 10 100 4) (ω := [(320, oF), (640, oF), (960, oF), (1280, oT)]) (LF := 10) (F := 100) (av := [.agg #[.int .i64 cf, .int .i64 cb, .int .i64 cm, .int .i64 cp]]) (v := Value.int IntKind.i64 200) (ps := [decide (cf < 1) = false, decide (cf > 1048576) = false, decide (cb < 1) = false, decide (cb > 253402300799) = true]) (call_spec ΨS6_spec mixed 4) mixed (by kernel_rfl) (ob_cons h0 (ob_cons h1 (ob_cons h2 (ob_cons h3 ob_nil)))) (by kernel_rfl) (by kernel_rfl) w).mono ?_
          rintro e w1 ⟨rfl, hb⟩; exact ⟨by simp only [rcheck_0, h0, h1, h2, h3, cond_true, cond_false], hb⟩
        · rcases Bool.eq_false_or_eq_true (decide (cm < cb)) with h4 | h4
          · refine (calls_orc (call := aCall Try.prog ΨS6 10 100 4) (ω := [(320, oF), (640, oF), (960, oF), (1280, oF), (1728, oT)]) (LF := 10) (F := 100) (av := [.agg #[.int .i64 cf, .int .i64 cb, .int .i64 cm, .int .i64 cp]]) (v := Value.int IntKind.i64 200) (ps := [decide (cf < 1) = false, decide (cf > 1048576) = false, decide (cb < 1) = false, decide (cb > 253402300799) = false, decide (cm < cb) = true]) (call_spec ΨS6_spec mixed 4) mixed (by kernel_rfl) (ob_cons h0 (ob_cons h1 (ob_cons h2 (ob_cons h3 (ob_cons h4 ob_nil))))) (by kernel_rfl) (by kernel_rfl) w).mono ?_
            rintro e w1 ⟨rfl, hb⟩; exact ⟨by simp only [rcheck_0, h0, h1, h2, h3, h4, cond_true, cond_false], hb⟩
          · rcases Bool.eq_false_or_eq_true (decide (cm > 253402300799)) with h5 | h5
            · refine (calls_orc (call := aCall Try.prog ΨS6 10 100 4) (ω := [(320, oF), (640, oF), (960, oF), (1280, oF), (1728, oF), (2048, oT)]) (LF := 10) (F := 100) (av := [.agg #[.int .i64 cf, .int .i64 cb, .int .i64 cm, .int .i64 cp]]) (v := Value.int IntKind.i64 200) (ps := [decide (cf < 1) = false, decide (cf > 1048576) = false, decide (cb < 1) = false, decide (cb > 253402300799) = false, decide (cm < cb) = false, decide (cm > 253402300799) = true]) (call_spec ΨS6_spec mixed 4) mixed (by kernel_rfl) (ob_cons h0 (ob_cons h1 (ob_cons h2 (ob_cons h3 (ob_cons h4 (ob_cons h5 ob_nil)))))) (by kernel_rfl) (by kernel_rfl) w).mono ?_
              rintro e w1 ⟨rfl, hb⟩; exact ⟨by simp only [rcheck_0, h0, h1, h2, h3, h4, h5, cond_true, cond_false], hb⟩
            · rcases Bool.eq_false_or_eq_true (decide (cp < 0)) with h6 | h6
              · refine (calls_orc (call := aCall Try.prog ΨS6 10 100 4) (ω := [(320, oF), (640, oF), (960, oF), (1280, oF), (1728, oF), (2048, oF), (2368, oT)]) (LF := 10) (F := 100) (av := [.agg #[.int .i64 cf, .int .i64 cb, .int .i64 cm, .int .i64 cp]]) (v := Value.int IntKind.i64 200) (ps := [decide (cf < 1) = false, decide (cf > 1048576) = false, decide (cb < 1) = false, decide (cb > 253402300799) = false, decide (cm < cb) = false, decide (cm > 253402300799) = false, decide (cp < 0) = true]) (call_spec ΨS6_spec mixed 4) mixed (by kernel_rfl) (ob_cons h0 (ob_cons h1 (ob_cons h2 (ob_cons h3 (ob_cons h4 (ob_cons h5 (ob_cons h6 ob_nil))))))) (by kernel_rfl) (by kernel_rfl) w).mono ?_
                rintro e w1 ⟨rfl, hb⟩; exact ⟨by simp only [rcheck_0, h0, h1, h2, h3, h4, h5, h6, cond_true, cond_false], hb⟩
              · rcases Bool.eq_false_or_eq_true (decide (cp > 100)) with h7 | h7
                · refine (calls_orc (call := aCall Try.prog ΨS6 10 100 4) (ω := [(320, oF), (640, oF), (960, oF), (1280, oF), (1728, oF), (2048, oF), (2368, oF), (2624, oT)]) (LF := 10) (F := 100) (av := [.agg #[.int .i64 cf, .int .i64 cb, .int .i64 cm, .int .i64 cp]]) (v := Value.int IntKind.i64 200) (ps := [decide (cf < 1) = false, decide (cf > 1048576) = false, decide (cb < 1) = false, decide (cb > 253402300799) = false, decide (cm < cb) = false, decide (cm > 253402300799) = false, decide (cp < 0) = false, decide (cp > 100) = true]) (call_spec ΨS6_spec mixed 4) mixed (by kernel_rfl) (ob_cons h0 (ob_cons h1 (ob_cons h2 (ob_cons h3 (ob_cons h4 (ob_cons h5 (ob_cons h6 (ob_cons h7 ob_nil)))))))) (by kernel_rfl) (by kernel_rfl) w).mono ?_
                  rintro e w1 ⟨rfl, hb⟩; exact ⟨by simp only [rcheck_0, h0, h1, h2, h3, h4, h5, h6, h7, cond_true, cond_false], hb⟩
                · refine (calls_orc (call := aCall Try.prog ΨS6 10 100 4) (ω := [(320, oF), (640, oF), (960, oF), (1280, oF), (1728, oF), (2048, oF), (2368, oF), (2624, oF)]) (LF := 10) (F := 100) (av := [.agg #[.int .i64 cf, .int .i64 cb, .int .i64 cm, .int .i64 cp]]) (v := Value.int IntKind.i64 0) (ps := [decide (cf < 1) = false, decide (cf > 1048576) = false, decide (cb < 1) = false, decide (cb > 253402300799) = false, decide (cm < cb) = false, decide (cm > 253402300799) = false, decide (cp < 0) = false, decide (cp > 100) = false]) (call_spec ΨS6_spec mixed 4) mixed (by kernel_rfl) (ob_cons h0 (ob_cons h1 (ob_cons h2 (ob_cons h3 (ob_cons h4 (ob_cons h5 (ob_cons h6 (ob_cons h7 ob_nil)))))))) (by kernel_rfl) (by kernel_rfl) w).mono ?_
                  rintro e w1 ⟨rfl, hb⟩; exact ⟨by simp only [rcheck_0, h0, h1, h2, h3, h4, h5, h6, h7, cond_true, cond_false], hb⟩
def ψrcheck : CallF := fun f args H _ =>
  if f = 57 then match args with
    | [.agg ⟨[.int .i64 cf, .int .i64 cb, .int .i64 cm, .int .i64 cp]⟩] => some (Value.int IntKind.i64 (rcheck_0 cf cb cm cp), H)
    | _ => none
  else none
theorem ψrcheck_spec [Inhabited RawG] : CallSpec Try.prog ψrcheck := by
  intro g av Hs lo v H1 h D ρ w args hlt hsz hav hw
  unfold ψrcheck at h
  split at h
  · rename_i hg
    subst hg
    split at h
    · cases h; exact spec_of_pure (fun w => rcheck_any _ _ _ _ w) (by kernel_rfl) (by kernel_rfl) hsz hav hw
    · cases h
  · cases h
def rpcheck_0 (ce : Int) (cw : Int) (cr : Int) (cf : Int) : Int := (bif (decide (ce < 1)) then 210 else (bif (decide (ce > 253402300799)) then 210 else (bif (decide (cw < 1)) then 210 else (bif (decide (cw > 253402300799)) then 210 else (bif (decide (cr < 1)) then 210 else (bif (decide (cr > 1048576)) then 210 else (bif (decide (cf < 1)) then 210 else (bif (decide (cf > 1048576)) then 210 else 0))))))))
theorem rpcheck_any (ce : Int) (cw : Int) (cr : Int) (cf : Int) (w : World) : Calls Try.prog 58 #[.agg #[.int .i64 ce, .int .i64 cw, .int .i64 cr, .int .i64 cf]] w (fun e w1 => e = .returned (Value.int IntKind.i64 (rpcheck_0 ce cw cr cf)) ∧ Below w.heap.size w w1) := by
  rcases Bool.eq_false_or_eq_true (decide (ce < 1)) with h0 | h0
  · refine (calls_orc (call := aCall Try.prog ΨS6 10 100 4) (ω := [(320, oT)]) (LF := 10) (F := 100) (av := [.agg #[.int .i64 ce, .int .i64 cw, .int .i64 cr, .int .i64 cf]]) (v := Value.int IntKind.i64 210) (ps := [decide (ce < 1) = true]) (call_spec ΨS6_spec mixed 4) mixed (by kernel_rfl) (ob_cons h0 ob_nil) (by kernel_rfl) (by kernel_rfl) w).mono ?_
    rintro e w1 ⟨rfl, hb⟩; exact ⟨by simp only [rpcheck_0, h0, cond_true, cond_false], hb⟩
  · rcases Bool.eq_false_or_eq_true (decide (ce > 253402300799)) with h1 | h1
    · refine (calls_orc (call := aCall Try.prog ΨS6 10 100 4) (ω := [(320, oF), (640, oT)]) (LF := 10) (F := 100) (av := [.agg #[.int .i64 ce, .int .i64 cw, .int .i64 cr, .int .i64 cf]]) (v := Value.int IntKind.i64 210) (ps := [decide (ce < 1) = false, decide (ce > 253402300799) = true]) (call_spec ΨS6_spec mixed 4) mixed (by kernel_rfl) (ob_cons h0 (ob_cons h1 ob_nil)) (by kernel_rfl) (by kernel_rfl) w).mono ?_
      rintro e w1 ⟨rfl, hb⟩; exact ⟨by simp only [rpcheck_0, h0, h1, cond_true, cond_false], hb⟩
    · rcases Bool.eq_false_or_eq_true (decide (cw < 1)) with h2 | h2
      · refine (calls_orc (call := aCall Try.prog ΨS6 10 100 4) (ω := [(320, oF), (640, oF), (960, oT)]) (LF := 10) (F := 100) (av := [.agg #[.int .i64 ce, .int .i64 cw, .int .i64 cr, .int .i64 cf]]) (v := Value.int IntKind.i64 210) (ps := [decide (ce < 1) = false, decide (ce > 253402300799) = false, decide (cw < 1) = true]) (call_spec ΨS6_spec mixed 4) mixed (by kernel_rfl) (ob_cons h0 (ob_cons h1 (ob_cons h2 ob_nil))) (by kernel_rfl) (by kernel_rfl) w).mono ?_
        rintro e w1 ⟨rfl, hb⟩; exact ⟨by simp only [rpcheck_0, h0, h1, h2, cond_true, cond_false], hb⟩
      · rcases Bool.eq_false_or_eq_true (decide (cw > 253402300799)) with h3 | h3
        · refine (calls_orc (call := aCall Try.prog ΨS6 10 100 4) (ω := [(320, oF), (640, oF), (960, oF), (1280, oT)]) (LF := 10) (F := 100) (av := [.agg #[.int .i64 ce, .int .i64 cw, .int .i64 cr, .int .i64 cf]]) (v := Value.int IntKind.i64 210) (ps := [decide (ce < 1) = false, decide (ce > 253402300799) = false, decide (cw < 1) = false, decide (cw > 253402300799) = true]) (call_spec ΨS6_spec mixed 4) mixed (by kernel_rfl) (ob_cons h0 (ob_cons h1 (ob_cons h2 (ob_cons h3 ob_nil)))) (by kernel_rfl) (by kernel_rfl) w).mono ?_
          rintro e w1 ⟨rfl, hb⟩; exact ⟨by simp only [rpcheck_0, h0, h1, h2, h3, cond_true, cond_false], hb⟩
        · rcases Bool.eq_false_or_eq_true (decide (cr < 1)) with h4 | h4
          · refine (calls_orc (call := aCall Try.prog ΨS6 10 100 4) (ω := [(320, oF), (640, oF), (960, oF), (1280, oF), (1600, oT)]) (LF := 10) (F := 100) (av := [.agg #[.int .i64 ce, .int .i64 cw, .int .i64 cr, .int .i64 cf]]) (v := Value.int IntKind.i64 210) (ps := [decide (ce < 1) = false, decide (ce > 253402300799) = false, decide (cw < 1) = false, decide (cw > 253402300799) = false, decide (cr < 1) = true]) (call_spec ΨS6_spec mixed 4) mixed (by kernel_rfl) (ob_cons h0 (ob_cons h1 (ob_cons h2 (ob_cons h3 (ob_cons h4 ob_nil))))) (by kernel_rfl) (by kernel_rfl) w).mono ?_
            rintro e w1 ⟨rfl, hb⟩; exact ⟨by simp only [rpcheck_0, h0, h1, h2, h3, h4, cond_true, cond_false], hb⟩
          · rcases Bool.eq_false_or_eq_true (decide (cr > 1048576)) with h5 | h5
            · refine (calls_orc (call := aCall Try.prog ΨS6 10 100 4) (ω := [(320, oF), (640, oF), (960, oF), (1280, oF), (1600, oF), (1920, oT)]) (LF := 10) (F := 100) (av := [.agg #[.int .i64 ce, .int .i64 cw, .int .i64 cr, .int .i64 cf]]) (v := Value.int IntKind.i64 210) (ps := [decide (ce < 1) = false, decide (ce > 253402300799) = false, decide (cw < 1) = false, decide (cw > 253402300799) = false, decide (cr < 1) = false, decide (cr > 1048576) = true]) (call_spec ΨS6_spec mixed 4) mixed (by kernel_rfl) (ob_cons h0 (ob_cons h1 (ob_cons h2 (ob_cons h3 (ob_cons h4 (ob_cons h5 ob_nil)))))) (by kernel_rfl) (by kernel_rfl) w).mono ?_
              rintro e w1 ⟨rfl, hb⟩; exact ⟨by simp only [rpcheck_0, h0, h1, h2, h3, h4, h5, cond_true, cond_false], hb⟩
            · rcases Bool.eq_false_or_eq_true (decide (cf < 1)) with h6 | h6
              · refine (calls_orc (call := aCall Try.prog ΨS6 10 100 4) (ω := [(320, oF), (640, oF), (960, oF), (1280, oF), (1600, oF), (1920, oF), (2240, oT)]) (LF := 10) (F := 100) (av := [.agg #[.int .i64 ce, .int .i64 cw, .int .i64 cr, .int .i64 cf]]) (v := Value.int IntKind.i64 210) (ps := [decide (ce < 1) = false, decide (ce > 253402300799) = false, decide (cw < 1) = false, decide (cw > 253402300799) = false, decide (cr < 1) = false, decide (cr > 1048576) = false, decide (cf < 1) = true]) (call_spec ΨS6_spec mixed 4) mixed (by kernel_rfl) (ob_cons h0 (ob_cons h1 (ob_cons h2 (ob_cons h3 (ob_cons h4 (ob_cons h5 (ob_cons h6 ob_nil))))))) (by kernel_rfl) (by kernel_rfl) w).mono ?_
                rintro e w1 ⟨rfl, hb⟩; exact ⟨by simp only [rpcheck_0, h0, h1, h2, h3, h4, h5, h6, cond_true, cond_false], hb⟩
              · rcases Bool.eq_false_or_eq_true (decide (cf > 1048576)) with h7 | h7
                · refine (calls_orc (call := aCall Try.prog ΨS6 10 100 4) (ω := [(320, oF), (640, oF), (960, oF), (1280, oF), (1600, oF), (1920, oF), (2240, oF), (2496, oT)]) (LF := 10) (F := 100) (av := [.agg #[.int .i64 ce, .int .i64 cw, .int .i64 cr, .int .i64 cf]]) (v := Value.int IntKind.i64 210) (ps := [decide (ce < 1) = false, decide (ce > 253402300799) = false, decide (cw < 1) = false, decide (cw > 253402300799) = false, decide (cr < 1) = false, decide (cr > 1048576) = false, decide (cf < 1) = false, decide (cf > 1048576) = true]) (call_spec ΨS6_spec mixed 4) mixed (by kernel_rfl) (ob_cons h0 (ob_cons h1 (ob_cons h2 (ob_cons h3 (ob_cons h4 (ob_cons h5 (ob_cons h6 (ob_cons h7 ob_nil)))))))) (by kernel_rfl) (by kernel_rfl) w).mono ?_
                  rintro e w1 ⟨rfl, hb⟩; exact ⟨by simp only [rpcheck_0, h0, h1, h2, h3, h4, h5, h6, h7, cond_true, cond_false], hb⟩
                · refine (calls_orc (call := aCall Try.prog ΨS6 10 100 4) (ω := [(320, oF), (640, oF), (960, oF), (1280, oF), (1600, oF), (1920, oF), (2240, oF), (2496, oF)]) (LF := 10) (F := 100) (av := [.agg #[.int .i64 ce, .int .i64 cw, .int .i64 cr, .int .i64 cf]]) (v := Value.int IntKind.i64 0) (ps := [decide (ce < 1) = false, decide (ce > 253402300799) = false, decide (cw < 1) = false, decide (cw > 253402300799) = false, decide (cr < 1) = false, decide (cr > 1048576) = false, decide (cf < 1) = false, decide (cf > 1048576) = false]) (call_spec ΨS6_spec mixed 4) mixed (by kernel_rfl) (ob_cons h0 (ob_cons h1 (ob_cons h2 (ob_cons h3 (ob_cons h4 (ob_cons h5 (ob_cons h6 (ob_cons h7 ob_nil)))))))) (by kernel_rfl) (by kernel_rfl) w).mono ?_
                  rintro e w1 ⟨rfl, hb⟩; exact ⟨by simp only [rpcheck_0, h0, h1, h2, h3, h4, h5, h6, h7, cond_true, cond_false], hb⟩
def ψrpcheck : CallF := fun f args H _ =>
  if f = 58 then match args with
    | [.agg ⟨[.int .i64 ce, .int .i64 cw, .int .i64 cr, .int .i64 cf]⟩] => some (Value.int IntKind.i64 (rpcheck_0 ce cw cr cf), H)
    | _ => none
  else none
theorem ψrpcheck_spec [Inhabited RawG] : CallSpec Try.prog ψrpcheck := by
  intro g av Hs lo v H1 h D ρ w args hlt hsz hav hw
  unfold ψrpcheck at h
  split at h
  · rename_i hg
    subst hg
    split at h
    · cases h; exact spec_of_pure (fun w => rpcheck_any _ _ _ _ w) (by kernel_rfl) (by kernel_rfl) hsz hav hw
    · cases h
  · cases h
def time_0 (now : Int) : Bool := (bif (decide (now ≥ 0)) then (decide (now ≤ 253402300799)) else false)
theorem time_any (now : Int) (w : World) : Calls Try.prog 60 #[.int .i64 now] w (fun e w1 => e = .returned (Value.bool (time_0 now)) ∧ Below w.heap.size w w1) := by
  rcases Bool.eq_false_or_eq_true (decide (now ≥ 0)) with h0 | h0
  · refine (calls_orc (call := aCall Try.prog ΨS6 10 100 4) (ω := [(192, oT)]) (LF := 10) (F := 100) (av := [.int .i64 now]) (v := Value.bool (decide (now ≤ 253402300799))) (ps := [decide (now ≥ 0) = true]) (call_spec ΨS6_spec mixed 4) mixed (by kernel_rfl) (ob_cons h0 ob_nil) (by kernel_rfl) (by kernel_rfl) w).mono ?_
    rintro e w1 ⟨rfl, hb⟩; exact ⟨by simp only [time_0, h0, cond_true, cond_false], hb⟩
  · refine (calls_orc (call := aCall Try.prog ΨS6 10 100 4) (ω := [(192, oF)]) (LF := 10) (F := 100) (av := [.int .i64 now]) (v := Value.bool false) (ps := [decide (now ≥ 0) = false]) (call_spec ΨS6_spec mixed 4) mixed (by kernel_rfl) (ob_cons h0 ob_nil) (by kernel_rfl) (by kernel_rfl) w).mono ?_
    rintro e w1 ⟨rfl, hb⟩; exact ⟨by simp only [time_0, h0, cond_true, cond_false], hb⟩
def ψtime : CallF := fun f args H _ =>
  if f = 60 then match args with
    | [.int .i64 now] => some (Value.bool (time_0 now), H)
    | _ => none
  else none
theorem ψtime_spec [Inhabited RawG] : CallSpec Try.prog ψtime := by
  intro g av Hs lo v H1 h D ρ w args hlt hsz hav hw
  unfold ψtime at h
  split at h
  · rename_i hg
    subst hg
    split at h
    · cases h; exact spec_of_pure (fun w => time_any _ w) (by kernel_rfl) (by kernel_rfl) hsz hav hw
    · cases h
  · cases h
def behind_0 (now : Int) (wh : Int) : Int := (bif (decide (wh > IntKind.i64.wrap (253402300799 - now))) then 253402300799 else (IntKind.i64.wrap (now + wh)))
theorem behind_any (now : Int) (wh : Int) (w : World) : Calls Try.prog 89 #[.int .i64 now, .int .i64 wh] w (fun e w1 => e = .returned (Value.int IntKind.i64 (behind_0 now wh)) ∧ Below w.heap.size w w1) := by
  rcases Bool.eq_false_or_eq_true (decide (wh > IntKind.i64.wrap (253402300799 - now))) with h0 | h0
  · refine (calls_orc (call := aCall Try.prog ΨS6 10 100 4) (ω := [(256, oT)]) (LF := 10) (F := 100) (av := [.int .i64 now, .int .i64 wh]) (v := Value.int IntKind.i64 253402300799) (ps := [decide (wh > IntKind.i64.wrap (253402300799 - now)) = true]) (call_spec ΨS6_spec mixed 4) mixed (by kernel_rfl) (ob_cons h0 ob_nil) (by kernel_rfl) (by kernel_rfl) w).mono ?_
    rintro e w1 ⟨rfl, hb⟩; exact ⟨by simp only [behind_0, h0, cond_true, cond_false], hb⟩
  · refine (calls_orc (call := aCall Try.prog ΨS6 10 100 4) (ω := [(256, oF)]) (LF := 10) (F := 100) (av := [.int .i64 now, .int .i64 wh]) (v := Value.int IntKind.i64 (IntKind.i64.wrap (now + wh))) (ps := [decide (wh > IntKind.i64.wrap (253402300799 - now)) = false]) (call_spec ΨS6_spec mixed 4) mixed (by kernel_rfl) (ob_cons h0 ob_nil) (by kernel_rfl) (by kernel_rfl) w).mono ?_
    rintro e w1 ⟨rfl, hb⟩; exact ⟨by simp only [behind_0, h0, cond_true, cond_false], hb⟩
def ψbehind : CallF := fun f args H _ =>
  if f = 89 then match args with
    | [.int .i64 now, .int .i64 wh] => some (Value.int IntKind.i64 (behind_0 now wh), H)
    | _ => none
  else none
theorem ψbehind_spec [Inhabited RawG] : CallSpec Try.prog ψbehind := by
  intro g av Hs lo v H1 h D ρ w args hlt hsz hav hw
  unfold ψbehind at h
  split at h
  · rename_i hg
    subst hg
    split at h
    · cases h; exact spec_of_pure (fun w => behind_any _ _ w) (by kernel_rfl) (by kernel_rfl) hsz hav hw
    · cases h
  · cases h
def rdue_0 (up : Bool) (run : Int) (nxt : Int) (out : Bool) (since : Int) (now : Int) : Bool := (bif (!out) then (decide (nxt ≤ now)) else false)
theorem rdue_any (up : Bool) (run : Int) (nxt : Int) (out : Bool) (since : Int) (now : Int) (w : World) : Calls Try.prog 67 #[.agg #[.bool up, .int .i64 run, .int .i64 nxt, .bool out, .int .i64 since], .int .i64 now] w (fun e w1 => e = .returned (Value.bool (rdue_0 up run nxt out since now)) ∧ Below w.heap.size w w1) := by
  rcases Bool.eq_false_or_eq_true (!out) with h0 | h0
  · refine (calls_orc (call := aCall Try.prog ΨS6 10 100 4) (ω := [(320, oT)]) (LF := 10) (F := 100) (av := [.agg #[.bool up, .int .i64 run, .int .i64 nxt, .bool out, .int .i64 since], .int .i64 now]) (v := Value.bool (decide (nxt ≤ now))) (ps := [(!out) = true]) (call_spec ΨS6_spec mixed 4) mixed (by kernel_rfl) (ob_cons h0 ob_nil) (by kernel_rfl) (by kernel_rfl) w).mono ?_
    rintro e w1 ⟨rfl, hb⟩; exact ⟨by simp only [rdue_0, h0, cond_true, cond_false], hb⟩
  · refine (calls_orc (call := aCall Try.prog ΨS6 10 100 4) (ω := [(320, oF)]) (LF := 10) (F := 100) (av := [.agg #[.bool up, .int .i64 run, .int .i64 nxt, .bool out, .int .i64 since], .int .i64 now]) (v := Value.bool false) (ps := [(!out) = false]) (call_spec ΨS6_spec mixed 4) mixed (by kernel_rfl) (ob_cons h0 ob_nil) (by kernel_rfl) (by kernel_rfl) w).mono ?_
    rintro e w1 ⟨rfl, hb⟩; exact ⟨by simp only [rdue_0, h0, cond_true, cond_false], hb⟩
def ψrdue : CallF := fun f args H _ =>
  if f = 67 then match args with
    | [.agg ⟨[.bool up, .int .i64 run, .int .i64 nxt, .bool out, .int .i64 since]⟩, .int .i64 now] => some (Value.bool (rdue_0 up run nxt out since now), H)
    | _ => none
  else none
theorem ψrdue_spec [Inhabited RawG] : CallSpec Try.prog ψrdue := by
  intro g av Hs lo v H1 h D ρ w args hlt hsz hav hw
  unfold ψrdue at h
  split at h
  · rename_i hg
    subst hg
    split at h
    · cases h; exact spec_of_pure (fun w => rdue_any _ _ _ _ _ _ w) (by kernel_rfl) (by kernel_rfl) hsz hav hw
    · cases h
  · cases h
def ΨS8_0 : CallF := orΨ ψrnewB ΨS6
theorem ΨS8_0_spec [Inhabited RawG] : CallSpec Try.prog ΨS8_0 := orΨ_spec ψrnewB_spec ΨS6_spec
def ΨS8_1 : CallF := orΨ ψrnewP ΨS8_0
theorem ΨS8_1_spec [Inhabited RawG] : CallSpec Try.prog ΨS8_1 := orΨ_spec ψrnewP_spec ΨS8_0_spec
def ΨS8_2 : CallF := orΨ ψrbcheck ΨS8_1
theorem ΨS8_2_spec [Inhabited RawG] : CallSpec Try.prog ΨS8_2 := orΨ_spec ψrbcheck_spec ΨS8_1_spec
def ΨS8_3 : CallF := orΨ ψrcheck ΨS8_2
theorem ΨS8_3_spec [Inhabited RawG] : CallSpec Try.prog ΨS8_3 := orΨ_spec ψrcheck_spec ΨS8_2_spec
def ΨS8_4 : CallF := orΨ ψrpcheck ΨS8_3
theorem ΨS8_4_spec [Inhabited RawG] : CallSpec Try.prog ΨS8_4 := orΨ_spec ψrpcheck_spec ΨS8_3_spec
def ΨS8_5 : CallF := orΨ ψtime ΨS8_4
theorem ΨS8_5_spec [Inhabited RawG] : CallSpec Try.prog ΨS8_5 := orΨ_spec ψtime_spec ΨS8_4_spec
def ΨS8_6 : CallF := orΨ ψbehind ΨS8_5
theorem ΨS8_6_spec [Inhabited RawG] : CallSpec Try.prog ΨS8_6 := orΨ_spec ψbehind_spec ΨS8_5_spec
def ΨS8 : CallF := orΨ ψrdue ΨS8_6
theorem ΨS8_spec [Inhabited RawG] : CallSpec Try.prog ΨS8 := orΨ_spec ψrdue_spec ΨS8_6_spec
end
section
open Go.RowKit
set_option linter.unusedVariables false
set_option linter.unusedSectionVars false
set_option linter.unusedSimpArgs false
set_option maxRecDepth 100000
def rallows_0 (cf : Int) (cd : Int) (ct : Int) (cg : Int) (s : Int) (f : Int) (u : Int) (o : Int) (g : Int) (p : Int) (now : Int) : Bool := (bif (rbcheck_0 cf cd ct cg != 0) then false else (bif (!time_0 now) then false else (bif (s == 1) then true else (bif (s == 2) then (decide (u ≤ now)) else (bif (s == 3) then (decide (o < ct)) else false)))))
theorem rallows_any (cf : Int) (cd : Int) (ct : Int) (cg : Int) (s : Int) (f : Int) (u : Int) (o : Int) (g : Int) (p : Int) (now : Int) (w : World) : Calls Try.prog 70 #[.agg #[.int .i64 cf, .int .i64 cd, .int .i64 ct, .int .i64 cg], .agg #[.int .i64 s, .int .i64 f, .int .i64 u, .int .i64 o, .int .i64 g, .int .i64 p], .int .i64 now] w (fun e w1 => e = .returned (Value.bool (rallows_0 cf cd ct cg s f u o g p now)) ∧ Below w.heap.size w w1) := by
  rcases Bool.eq_false_or_eq_true (rbcheck_0 cf cd ct cg != 0) with h0 | h0
  · refine (calls_orc (call := aCall Try.prog ΨS8 10 100 4) (ω := [(384, oT)]) (LF := 10) (F := 100) (av := [.agg #[.int .i64 cf, .int .i64 cd, .int .i64 ct, .int .i64 cg], .agg #[.int .i64 s, .int .i64 f, .int .i64 u, .int .i64 o, .int .i64 g, .int .i64 p], .int .i64 now]) (v := Value.bool false) (ps := [(rbcheck_0 cf cd ct cg != 0) = true]) (call_spec ΨS8_spec mixed 4) mixed (by kernel_rfl) (ob_cons h0 ob_nil) (by kernel_rfl) (by kernel_rfl) w).mono ?_
    rintro e w1 ⟨rfl, hb⟩; exact ⟨by simp only [rallows_0, h0, cond_true, cond_false], hb⟩
  · rcases Bool.eq_false_or_eq_true (!time_0 now) with h1 | h1
    · refine (calls_orc (call := aCall Try.prog ΨS8 10 100 4) (ω := [(384, oF), (640, oT)]) (LF := 10) (F := 100) (av := [.agg #[.int .i64 cf, .int .i64 cd, .int .i64 ct, .int .i64 cg], .agg #[.int .i64 s, .int .i64 f, .int .i64 u, .int .i64 o, .int .i64 g, .int .i64 p], .int .i64 now]) (v := Value.bool false) (ps := [(rbcheck_0 cf cd ct cg != 0) = false, (!time_0 now) = true]) (call_spec ΨS8_spec mixed 4) mixed (by kernel_rfl) (ob_cons h0 (ob_cons h1 ob_nil)) (by kernel_rfl) (by kernel_rfl) w).mono ?_
      rintro e w1 ⟨rfl, hb⟩; exact ⟨by simp only [rallows_0, h0, h1, cond_true, cond_false], hb⟩
    · rcases Bool.eq_false_or_eq_true (s == 1) with h2 | h2
      · refine (calls_orc (call := aCall Try.prog ΨS8 10 100 4) (ω := [(384, oF), (640, oF), (896, oT)]) (LF := 10) (F := 100) (av := [.agg #[.int .i64 cf, .int .i64 cd, .int .i64 ct, .int .i64 cg], .agg #[.int .i64 s, .int .i64 f, .int .i64 u, .int .i64 o, .int .i64 g, .int .i64 p], .int .i64 now]) (v := Value.bool true) (ps := [(rbcheck_0 cf cd ct cg != 0) = false, (!time_0 now) = false, (s == 1) = true]) (call_spec ΨS8_spec mixed 4) mixed (by kernel_rfl) (ob_cons h0 (ob_cons h1 (ob_cons h2 ob_nil))) (by kernel_rfl) (by kernel_rfl) w).mono ?_
        rintro e w1 ⟨rfl, hb⟩; exact ⟨by simp only [rallows_0, h0, h1, h2, cond_true, cond_false], hb⟩
      · rcases Bool.eq_false_or_eq_true (s == 2) with h3 | h3
        · refine (calls_orc (call := aCall Try.prog ΨS8 10 100 4) (ω := [(384, oF), (640, oF), (896, oF), (1024, oT)]) (LF := 10) (F := 100) (av := [.agg #[.int .i64 cf, .int .i64 cd, .int .i64 ct, .int .i64 cg], .agg #[.int .i64 s, .int .i64 f, .int .i64 u, .int .i64 o, .int .i64 g, .int .i64 p], .int .i64 now]) (v := Value.bool (decide (u ≤ now))) (ps := [(rbcheck_0 cf cd ct cg != 0) = false, (!time_0 now) = false, (s == 1) = false, (s == 2) = true]) (call_spec ΨS8_spec mixed 4) mixed (by kernel_rfl) (ob_cons h0 (ob_cons h1 (ob_cons h2 (ob_cons h3 ob_nil)))) (by kernel_rfl) (by kernel_rfl) w).mono ?_
          rintro e w1 ⟨rfl, hb⟩; exact ⟨by simp only [rallows_0, h0, h1, h2, h3, cond_true, cond_false], hb⟩
        · rcases Bool.eq_false_or_eq_true (s == 3) with h4 | h4
          · refine (calls_orc (call := aCall Try.prog ΨS8 10 100 4) (ω := [(384, oF), (640, oF), (896, oF), (1024, oF), (1152, oT)]) (LF := 10) (F := 100) (av := [.agg #[.int .i64 cf, .int .i64 cd, .int .i64 ct, .int .i64 cg], .agg #[.int .i64 s, .int .i64 f, .int .i64 u, .int .i64 o, .int .i64 g, .int .i64 p], .int .i64 now]) (v := Value.bool (decide (o < ct))) (ps := [(rbcheck_0 cf cd ct cg != 0) = false, (!time_0 now) = false, (s == 1) = false, (s == 2) = false, (s == 3) = true]) (call_spec ΨS8_spec mixed 4) mixed (by kernel_rfl) (ob_cons h0 (ob_cons h1 (ob_cons h2 (ob_cons h3 (ob_cons h4 ob_nil))))) (by kernel_rfl) (by kernel_rfl) w).mono ?_
            rintro e w1 ⟨rfl, hb⟩; exact ⟨by simp only [rallows_0, h0, h1, h2, h3, h4, cond_true, cond_false], hb⟩
          · refine (calls_orc (call := aCall Try.prog ΨS8 10 100 4) (ω := [(384, oF), (640, oF), (896, oF), (1024, oF), (1152, oF)]) (LF := 10) (F := 100) (av := [.agg #[.int .i64 cf, .int .i64 cd, .int .i64 ct, .int .i64 cg], .agg #[.int .i64 s, .int .i64 f, .int .i64 u, .int .i64 o, .int .i64 g, .int .i64 p], .int .i64 now]) (v := Value.bool false) (ps := [(rbcheck_0 cf cd ct cg != 0) = false, (!time_0 now) = false, (s == 1) = false, (s == 2) = false, (s == 3) = false]) (call_spec ΨS8_spec mixed 4) mixed (by kernel_rfl) (ob_cons h0 (ob_cons h1 (ob_cons h2 (ob_cons h3 (ob_cons h4 ob_nil))))) (by kernel_rfl) (by kernel_rfl) w).mono ?_
            rintro e w1 ⟨rfl, hb⟩; exact ⟨by simp only [rallows_0, h0, h1, h2, h3, h4, cond_true, cond_false], hb⟩
def ψrallows : CallF := fun f args H _ =>
  if f = 70 then match args with
    | [.agg ⟨[.int .i64 cf, .int .i64 cd, .int .i64 ct, .int .i64 cg]⟩, .agg ⟨[.int .i64 s, .int .i64 f, .int .i64 u, .int .i64 o, .int .i64 g, .int .i64 p]⟩, .int .i64 now] => some (Value.bool (rallows_0 cf cd ct cg s f u o g p now), H)
    | _ => none
  else none
theorem ψrallows_spec [Inhabited RawG] : CallSpec Try.prog ψrallows := by
  intro g av Hs lo v H1 h D ρ w args hlt hsz hav hw
  unfold ψrallows at h
  split at h
  · rename_i hg
    subst hg
    split at h
    · cases h; exact spec_of_pure (fun w => rallows_any _ _ _ _ _ _ _ _ _ _ _ w) (by kernel_rfl) (by kernel_rfl) hsz hav hw
    · cases h
  · cases h
def rerrs_0 (cf : Int) (cd : Int) (ct : Int) (cg : Int) (now : Int) : Int := (bif (rbcheck_0 cf cd ct cg == 0) then (bif (!time_0 now) then 2 else (rbcheck_0 cf cd ct cg)) else (rbcheck_0 cf cd ct cg))
theorem rerrs_any (cf : Int) (cd : Int) (ct : Int) (cg : Int) (now : Int) (w : World) : Calls Try.prog 84 #[.agg #[.int .i64 cf, .int .i64 cd, .int .i64 ct, .int .i64 cg], .int .i64 now] w (fun e w1 => e = .returned (Value.int IntKind.i64 (rerrs_0 cf cd ct cg now)) ∧ Below w.heap.size w w1) := by
  rcases Bool.eq_false_or_eq_true (rbcheck_0 cf cd ct cg == 0) with h0 | h0
  · rcases Bool.eq_false_or_eq_true (!time_0 now) with h1 | h1
    · refine (calls_orc (call := aCall Try.prog ΨS8 10 100 4) (ω := [(448, oT), (704, oT)]) (LF := 10) (F := 100) (av := [.agg #[.int .i64 cf, .int .i64 cd, .int .i64 ct, .int .i64 cg], .int .i64 now]) (v := Value.int IntKind.i64 2) (ps := [(rbcheck_0 cf cd ct cg == 0) = true, (!time_0 now) = true]) (call_spec ΨS8_spec mixed 4) mixed (by kernel_rfl) (ob_cons h0 (ob_cons h1 ob_nil)) (by kernel_rfl) (by kernel_rfl) w).mono ?_
      rintro e w1 ⟨rfl, hb⟩; exact ⟨by simp only [rerrs_0, h0, h1, cond_true, cond_false], hb⟩
    · refine (calls_orc (call := aCall Try.prog ΨS8 10 100 4) (ω := [(448, oT), (704, oF)]) (LF := 10) (F := 100) (av := [.agg #[.int .i64 cf, .int .i64 cd, .int .i64 ct, .int .i64 cg], .int .i64 now]) (v := Value.int IntKind.i64 (rbcheck_0 cf cd ct cg)) (ps := [(rbcheck_0 cf cd ct cg == 0) = true, (!time_0 now) = false]) (call_spec ΨS8_spec mixed 4) mixed (by kernel_rfl) (ob_cons h0 (ob_cons h1 ob_nil)) (by kernel_rfl) (by kernel_rfl) w).mono ?_
      rintro e w1 ⟨rfl, hb⟩; exact ⟨by simp only [rerrs_0, h0, h1, cond_true, cond_false], hb⟩
  · refine (calls_orc (call := aCall Try.prog ΨS8 10 100 4) (ω := [(448, oF)]) (LF := 10) (F := 100) (av := [.agg #[.int .i64 cf, .int .i64 cd, .int .i64 ct, .int .i64 cg], .int .i64 now]) (v := Value.int IntKind.i64 (rbcheck_0 cf cd ct cg)) (ps := [(rbcheck_0 cf cd ct cg == 0) = false]) (call_spec ΨS8_spec mixed 4) mixed (by kernel_rfl) (ob_cons h0 ob_nil) (by kernel_rfl) (by kernel_rfl) w).mono ?_
    rintro e w1 ⟨rfl, hb⟩; exact ⟨by simp only [rerrs_0, h0, cond_true, cond_false], hb⟩
def ψrerrs : CallF := fun f args H _ =>
  if f = 84 then match args with
    | [.agg ⟨[.int .i64 cf, .int .i64 cd, .int .i64 ct, .int .i64 cg]⟩, .int .i64 now] => some (Value.int IntKind.i64 (rerrs_0 cf cd ct cg now), H)
    | _ => none
  else none
theorem ψrerrs_spec [Inhabited RawG] : CallSpec Try.prog ψrerrs := by
  intro g av Hs lo v H1 h D ρ w args hlt hsz hav hw
  unfold ψrerrs at h
  split at h
  · rename_i hg
    subst hg
    split at h
    · cases h; exact spec_of_pure (fun w => rerrs_any _ _ _ _ _ w) (by kernel_rfl) (by kernel_rfl) hsz hav hw
    · cases h
  · cases h
theorem ropened_any (cf : Int) (cd : Int) (ct : Int) (cg : Int) (s : Int) (f : Int) (u : Int) (o : Int) (g : Int) (p : Int) (now : Int) (w : World) : Calls Try.prog 85 #[.agg #[.int .i64 cf, .int .i64 cd, .int .i64 ct, .int .i64 cg], .agg #[.int .i64 s, .int .i64 f, .int .i64 u, .int .i64 o, .int .i64 g, .int .i64 p], .int .i64 now] w (fun e w1 => e = .returned (Value.agg #[Value.int IntKind.i64 2, Value.int IntKind.i64 0, Value.int IntKind.i64 ((behind_0 now cd)), Value.int IntKind.i64 0, Value.int IntKind.i64 0, Value.int IntKind.i64 ((IntKind.i64.wrap (p + 1)))]) ∧ Below w.heap.size w w1) := by
  refine (calls_orc (call := aCall Try.prog ΨS8 10 100 4) (ω := []) (LF := 10) (F := 100) (av := [.agg #[.int .i64 cf, .int .i64 cd, .int .i64 ct, .int .i64 cg], .agg #[.int .i64 s, .int .i64 f, .int .i64 u, .int .i64 o, .int .i64 g, .int .i64 p], .int .i64 now]) (v := Value.agg #[Value.int IntKind.i64 2, Value.int IntKind.i64 0, Value.int IntKind.i64 (behind_0 now cd), Value.int IntKind.i64 0, Value.int IntKind.i64 0, Value.int IntKind.i64 (IntKind.i64.wrap (p + 1))]) (ps := []) (call_spec ΨS8_spec mixed 4) mixed (by kernel_rfl) ob_nil (by kernel_rfl) (by kernel_rfl) w).mono ?_
  exact fun e w1 h => h
def ψropened : CallF := fun f args H _ =>
  if f = 85 then match args with
    | [.agg ⟨[.int .i64 cf, .int .i64 cd, .int .i64 ct, .int .i64 cg]⟩, .agg ⟨[.int .i64 s, .int .i64 f, .int .i64 u, .int .i64 o, .int .i64 g, .int .i64 p]⟩, .int .i64 now] => some (Value.agg #[Value.int IntKind.i64 2, Value.int IntKind.i64 0, Value.int IntKind.i64 ((behind_0 now cd)), Value.int IntKind.i64 0, Value.int IntKind.i64 0, Value.int IntKind.i64 ((IntKind.i64.wrap (p + 1)))], H)
    | _ => none
  else none
theorem ψropened_spec [Inhabited RawG] : CallSpec Try.prog ψropened := by
  intro g av Hs lo v H1 h D ρ w args hlt hsz hav hw
  unfold ψropened at h
  split at h
  · rename_i hg
    subst hg
    split at h
    · cases h; exact spec_of_pure (fun w => ropened_any _ _ _ _ _ _ _ _ _ _ _ w) (by kernel_rfl) (by kernel_rfl) hsz hav hw
    · cases h
  · cases h
def runtil_0 (cf : Int) (cb : Int) (cm : Int) (cp : Int) (times : Int) (now : Int) : Int := (bif (rcheck_0 cf cb cm cp != 0) then now else (bif (!time_0 now) then now else (bif (decide (times < 1)) then now else (bif (decide (cb ≤ IntKind.i64.wrap (cm.tdiv times))) then (behind_0 now (IntKind.i64.wrap (cb * times))) else (behind_0 now cm)))))
theorem runtil_any (cf : Int) (cb : Int) (cm : Int) (cp : Int) (times : Int) (now : Int) (w : World) : Calls Try.prog 87 #[.agg #[.int .i64 cf, .int .i64 cb, .int .i64 cm, .int .i64 cp], .int .i64 times, .int .i64 now] w (fun e w1 => e = .returned (Value.int IntKind.i64 (runtil_0 cf cb cm cp times now)) ∧ Below w.heap.size w w1) := by
  rcases Bool.eq_false_or_eq_true (rcheck_0 cf cb cm cp != 0) with h0 | h0
  · refine (calls_orc (call := aCall Try.prog ΨS8 10 100 4) (ω := [(320, oT)]) (LF := 10) (F := 100) (av := [.agg #[.int .i64 cf, .int .i64 cb, .int .i64 cm, .int .i64 cp], .int .i64 times, .int .i64 now]) (v := Value.int IntKind.i64 now) (ps := [(rcheck_0 cf cb cm cp != 0) = true]) (call_spec ΨS8_spec mixed 4) mixed (by kernel_rfl) (ob_cons h0 ob_nil) (by kernel_rfl) (by kernel_rfl) w).mono ?_
    rintro e w1 ⟨rfl, hb⟩; exact ⟨by simp only [runtil_0, h0, cond_true, cond_false], hb⟩
  · rcases Bool.eq_false_or_eq_true (!time_0 now) with h1 | h1
    · refine (calls_orc (call := aCall Try.prog ΨS8 10 100 4) (ω := [(320, oF), (640, oT)]) (LF := 10) (F := 100) (av := [.agg #[.int .i64 cf, .int .i64 cb, .int .i64 cm, .int .i64 cp], .int .i64 times, .int .i64 now]) (v := Value.int IntKind.i64 now) (ps := [(rcheck_0 cf cb cm cp != 0) = false, (!time_0 now) = true]) (call_spec ΨS8_spec mixed 4) mixed (by kernel_rfl) (ob_cons h0 (ob_cons h1 ob_nil)) (by kernel_rfl) (by kernel_rfl) w).mono ?_
      rintro e w1 ⟨rfl, hb⟩; exact ⟨by simp only [runtil_0, h0, h1, cond_true, cond_false], hb⟩
    · rcases Bool.eq_false_or_eq_true (decide (times < 1)) with h2 | h2
      · refine (calls_orc (call := aCall Try.prog ΨS8 10 100 4) (ω := [(320, oF), (640, oF), (832, oT)]) (LF := 10) (F := 100) (av := [.agg #[.int .i64 cf, .int .i64 cb, .int .i64 cm, .int .i64 cp], .int .i64 times, .int .i64 now]) (v := Value.int IntKind.i64 now) (ps := [(rcheck_0 cf cb cm cp != 0) = false, (!time_0 now) = false, decide (times < 1) = true]) (call_spec ΨS8_spec mixed 4) mixed (by kernel_rfl) (ob_cons h0 (ob_cons h1 (ob_cons h2 ob_nil))) (by kernel_rfl) (by kernel_rfl) w).mono ?_
        rintro e w1 ⟨rfl, hb⟩; exact ⟨by simp only [runtil_0, h0, h1, h2, cond_true, cond_false], hb⟩
      · rcases Bool.eq_false_or_eq_true (decide (cb ≤ IntKind.i64.wrap (cm.tdiv times))) with h3 | h3
        · refine (calls_orc (call := aCall Try.prog ΨS8 10 100 4) (ω := [(320, oF), (640, oF), (832, oF), (1408, OV.div), (1472, oT)]) (LF := 10) (F := 100) (av := [.agg #[.int .i64 cf, .int .i64 cb, .int .i64 cm, .int .i64 cp], .int .i64 times, .int .i64 now]) (v := Value.int IntKind.i64 (behind_0 now (IntKind.i64.wrap (cb * times)))) (ps := [(rcheck_0 cf cb cm cp != 0) = false, (!time_0 now) = false, decide (times < 1) = false, times ≠ 0, decide (cb ≤ IntKind.i64.wrap (cm.tdiv times)) = true]) (call_spec ΨS8_spec mixed 4) mixed (by kernel_rfl) (ob_cons h0 (ob_cons h1 (ob_cons h2 (ob_cons (by simp only [decide_eq_false_iff_not] at *; omega) (ob_cons h3 ob_nil))))) (by kernel_rfl) (by kernel_rfl) w).mono ?_
          rintro e w1 ⟨rfl, hb⟩; exact ⟨by simp only [runtil_0, h0, h1, h2, h3, cond_true, cond_false], hb⟩
        · refine (calls_orc (call := aCall Try.prog ΨS8 10 100 4) (ω := [(320, oF), (640, oF), (832, oF), (1408, OV.div), (1472, oF)]) (LF := 10) (F := 100) (av := [.agg #[.int .i64 cf, .int .i64 cb, .int .i64 cm, .int .i64 cp], .int .i64 times, .int .i64 now]) (v := Value.int IntKind.i64 (behind_0 now cm)) (ps := [(rcheck_0 cf cb cm cp != 0) = false, (!time_0 now) = false, decide (times < 1) = false, times ≠ 0, decide (cb ≤ IntKind.i64.wrap (cm.tdiv times)) = false]) (call_spec ΨS8_spec mixed 4) mixed (by kernel_rfl) (ob_cons h0 (ob_cons h1 (ob_cons h2 (ob_cons (by simp only [decide_eq_false_iff_not] at *; omega) (ob_cons h3 ob_nil))))) (by kernel_rfl) (by kernel_rfl) w).mono ?_
          rintro e w1 ⟨rfl, hb⟩; exact ⟨by simp only [runtil_0, h0, h1, h2, h3, cond_true, cond_false], hb⟩
def ψruntil : CallF := fun f args H _ =>
  if f = 87 then match args with
    | [.agg ⟨[.int .i64 cf, .int .i64 cb, .int .i64 cm, .int .i64 cp]⟩, .int .i64 times, .int .i64 now] => some (Value.int IntKind.i64 (runtil_0 cf cb cm cp times now), H)
    | _ => none
  else none
theorem ψruntil_spec [Inhabited RawG] : CallSpec Try.prog ψruntil := by
  intro g av Hs lo v H1 h D ρ w args hlt hsz hav hw
  unfold ψruntil at h
  split at h
  · rename_i hg
    subst hg
    split at h
    · cases h; exact spec_of_pure (fun w => runtil_any _ _ _ _ _ _ w) (by kernel_rfl) (by kernel_rfl) hsz hav hw
    · cases h
  · cases h
def rlate_0 (ce : Int) (cw : Int) (cr : Int) (cf : Int) (up : Bool) (run : Int) (nxt : Int) (out : Bool) (since : Int) (now : Int) : Bool := (bif (rpcheck_0 ce cw cr cf == 0) then (bif (out) then (bif (decide (now ≥ since)) then (decide (IntKind.i64.wrap (now - since) ≥ cw)) else false) else false) else false)
theorem rlate_any (ce : Int) (cw : Int) (cr : Int) (cf : Int) (up : Bool) (run : Int) (nxt : Int) (out : Bool) (since : Int) (now : Int) (w : World) : Calls Try.prog 68 #[.agg #[.int .i64 ce, .int .i64 cw, .int .i64 cr, .int .i64 cf], .agg #[.bool up, .int .i64 run, .int .i64 nxt, .bool out, .int .i64 since], .int .i64 now] w (fun e w1 => e = .returned (Value.bool (rlate_0 ce cw cr cf up run nxt out since now)) ∧ Below w.heap.size w w1) := by
  rcases Bool.eq_false_or_eq_true (rpcheck_0 ce cw cr cf == 0) with h0 | h0
  · rcases Bool.eq_false_or_eq_true (out) with h1 | h1
    · rcases Bool.eq_false_or_eq_true (decide (now ≥ since)) with h2 | h2
      · refine (calls_orc (call := aCall Try.prog ΨS8 10 100 4) (ω := [(384, oT), (640, oT), (1024, oT)]) (LF := 10) (F := 100) (av := [.agg #[.int .i64 ce, .int .i64 cw, .int .i64 cr, .int .i64 cf], .agg #[.bool up, .int .i64 run, .int .i64 nxt, .bool out, .int .i64 since], .int .i64 now]) (v := Value.bool (decide (IntKind.i64.wrap (now - since) ≥ cw))) (ps := [(rpcheck_0 ce cw cr cf == 0) = true, out = true, decide (now ≥ since) = true]) (call_spec ΨS8_spec mixed 4) mixed (by kernel_rfl) (ob_cons h0 (ob_cons h1 (ob_cons h2 ob_nil))) (by kernel_rfl) (by kernel_rfl) w).mono ?_
        rintro e w1 ⟨rfl, hb⟩; exact ⟨by simp only [rlate_0, h0, h1, h2, cond_true, cond_false], hb⟩
      · refine (calls_orc (call := aCall Try.prog ΨS8 10 100 4) (ω := [(384, oT), (640, oT), (1024, oF)]) (LF := 10) (F := 100) (av := [.agg #[.int .i64 ce, .int .i64 cw, .int .i64 cr, .int .i64 cf], .agg #[.bool up, .int .i64 run, .int .i64 nxt, .bool out, .int .i64 since], .int .i64 now]) (v := Value.bool false) (ps := [(rpcheck_0 ce cw cr cf == 0) = true, out = true, decide (now ≥ since) = false]) (call_spec ΨS8_spec mixed 4) mixed (by kernel_rfl) (ob_cons h0 (ob_cons h1 (ob_cons h2 ob_nil))) (by kernel_rfl) (by kernel_rfl) w).mono ?_
        rintro e w1 ⟨rfl, hb⟩; exact ⟨by simp only [rlate_0, h0, h1, h2, cond_true, cond_false], hb⟩
    · refine (calls_orc (call := aCall Try.prog ΨS8 10 100 4) (ω := [(384, oT), (640, oF)]) (LF := 10) (F := 100) (av := [.agg #[.int .i64 ce, .int .i64 cw, .int .i64 cr, .int .i64 cf], .agg #[.bool up, .int .i64 run, .int .i64 nxt, .bool out, .int .i64 since], .int .i64 now]) (v := Value.bool false) (ps := [(rpcheck_0 ce cw cr cf == 0) = true, out = false]) (call_spec ΨS8_spec mixed 4) mixed (by kernel_rfl) (ob_cons h0 (ob_cons h1 ob_nil)) (by kernel_rfl) (by kernel_rfl) w).mono ?_
      rintro e w1 ⟨rfl, hb⟩; exact ⟨by simp only [rlate_0, h0, h1, cond_true, cond_false], hb⟩
  · refine (calls_orc (call := aCall Try.prog ΨS8 10 100 4) (ω := [(384, oF)]) (LF := 10) (F := 100) (av := [.agg #[.int .i64 ce, .int .i64 cw, .int .i64 cr, .int .i64 cf], .agg #[.bool up, .int .i64 run, .int .i64 nxt, .bool out, .int .i64 since], .int .i64 now]) (v := Value.bool false) (ps := [(rpcheck_0 ce cw cr cf == 0) = false]) (call_spec ΨS8_spec mixed 4) mixed (by kernel_rfl) (ob_cons h0 ob_nil) (by kernel_rfl) (by kernel_rfl) w).mono ?_
    rintro e w1 ⟨rfl, hb⟩; exact ⟨by simp only [rlate_0, h0, cond_true, cond_false], hb⟩
def ψrlate : CallF := fun f args H _ =>
  if f = 68 then match args with
    | [.agg ⟨[.int .i64 ce, .int .i64 cw, .int .i64 cr, .int .i64 cf]⟩, .agg ⟨[.bool up, .int .i64 run, .int .i64 nxt, .bool out, .int .i64 since]⟩, .int .i64 now] => some (Value.bool (rlate_0 ce cw cr cf up run nxt out since now), H)
    | _ => none
  else none
theorem ψrlate_spec [Inhabited RawG] : CallSpec Try.prog ψrlate := by
  intro g av Hs lo v H1 h D ρ w args hlt hsz hav hw
  unfold ψrlate at h
  split at h
  · rename_i hg
    subst hg
    split at h
    · cases h; exact spec_of_pure (fun w => rlate_any _ _ _ _ _ _ _ _ _ _ w) (by kernel_rfl) (by kernel_rfl) hsz hav hw
    · cases h
  · cases h
def rperrs_0 (ce : Int) (cw : Int) (cr : Int) (cf : Int) (now : Int) (ok : Bool) : Int := (bif (rpcheck_0 ce cw cr cf == 0) then (bif (!time_0 now) then 2 else (bif (!ok) then 8 else (rpcheck_0 ce cw cr cf))) else (rpcheck_0 ce cw cr cf))
theorem rperrs_any (ce : Int) (cw : Int) (cr : Int) (cf : Int) (now : Int) (ok : Bool) (w : World) : Calls Try.prog 88 #[.agg #[.int .i64 ce, .int .i64 cw, .int .i64 cr, .int .i64 cf], .int .i64 now, .bool ok] w (fun e w1 => e = .returned (Value.int IntKind.i64 (rperrs_0 ce cw cr cf now ok)) ∧ Below w.heap.size w w1) := by
  rcases Bool.eq_false_or_eq_true (rpcheck_0 ce cw cr cf == 0) with h0 | h0
  · rcases Bool.eq_false_or_eq_true (!time_0 now) with h1 | h1
    · refine (calls_orc (call := aCall Try.prog ΨS8 10 100 4) (ω := [(448, oT), (704, oT)]) (LF := 10) (F := 100) (av := [.agg #[.int .i64 ce, .int .i64 cw, .int .i64 cr, .int .i64 cf], .int .i64 now, .bool ok]) (v := Value.int IntKind.i64 2) (ps := [(rpcheck_0 ce cw cr cf == 0) = true, (!time_0 now) = true]) (call_spec ΨS8_spec mixed 4) mixed (by kernel_rfl) (ob_cons h0 (ob_cons h1 ob_nil)) (by kernel_rfl) (by kernel_rfl) w).mono ?_
      rintro e w1 ⟨rfl, hb⟩; exact ⟨by simp only [rperrs_0, h0, h1, cond_true, cond_false], hb⟩
    · rcases Bool.eq_false_or_eq_true (!ok) with h2 | h2
      · refine (calls_orc (call := aCall Try.prog ΨS8 10 100 4) (ω := [(448, oT), (704, oF), (896, oT), (1088, oT)]) (LF := 10) (F := 100) (av := [.agg #[.int .i64 ce, .int .i64 cw, .int .i64 cr, .int .i64 cf], .int .i64 now, .bool ok]) (v := Value.int IntKind.i64 8) (ps := [(rpcheck_0 ce cw cr cf == 0) = true, (!time_0 now) = false, (rpcheck_0 ce cw cr cf == 0) = true, (!ok) = true]) (call_spec ΨS8_spec mixed 4) mixed (by kernel_rfl) (ob_cons h0 (ob_cons h1 (ob_cons h0 (ob_cons h2 ob_nil)))) (by kernel_rfl) (by kernel_rfl) w).mono ?_
        rintro e w1 ⟨rfl, hb⟩; exact ⟨by simp only [rperrs_0, h0, h1, h2, cond_true, cond_false], hb⟩
      · refine (calls_orc (call := aCall Try.prog ΨS8 10 100 4) (ω := [(448, oT), (704, oF), (896, oT), (1088, oF)]) (LF := 10) (F := 100) (av := [.agg #[.int .i64 ce, .int .i64 cw, .int .i64 cr, .int .i64 cf], .int .i64 now, .bool ok]) (v := Value.int IntKind.i64 (rpcheck_0 ce cw cr cf)) (ps := [(rpcheck_0 ce cw cr cf == 0) = true, (!time_0 now) = false, (rpcheck_0 ce cw cr cf == 0) = true, (!ok) = false]) (call_spec ΨS8_spec mixed 4) mixed (by kernel_rfl) (ob_cons h0 (ob_cons h1 (ob_cons h0 (ob_cons h2 ob_nil)))) (by kernel_rfl) (by kernel_rfl) w).mono ?_
        rintro e w1 ⟨rfl, hb⟩; exact ⟨by simp only [rperrs_0, h0, h1, h2, cond_true, cond_false], hb⟩
  · refine (calls_orc (call := aCall Try.prog ΨS8 10 100 4) (ω := [(448, oF), (896, oF)]) (LF := 10) (F := 100) (av := [.agg #[.int .i64 ce, .int .i64 cw, .int .i64 cr, .int .i64 cf], .int .i64 now, .bool ok]) (v := Value.int IntKind.i64 (rpcheck_0 ce cw cr cf)) (ps := [(rpcheck_0 ce cw cr cf == 0) = false, (rpcheck_0 ce cw cr cf == 0) = false]) (call_spec ΨS8_spec mixed 4) mixed (by kernel_rfl) (ob_cons h0 (ob_cons h0 ob_nil)) (by kernel_rfl) (by kernel_rfl) w).mono ?_
    rintro e w1 ⟨rfl, hb⟩; exact ⟨by simp only [rperrs_0, h0, cond_true, cond_false], hb⟩
def ψrperrs : CallF := fun f args H _ =>
  if f = 88 then match args with
    | [.agg ⟨[.int .i64 ce, .int .i64 cw, .int .i64 cr, .int .i64 cf]⟩, .int .i64 now, .bool ok] => some (Value.int IntKind.i64 (rperrs_0 ce cw cr cf now ok), H)
    | _ => none
  else none
theorem ψrperrs_spec [Inhabited RawG] : CallSpec Try.prog ψrperrs := by
  intro g av Hs lo v H1 h D ρ w args hlt hsz hav hw
  unfold ψrperrs at h
  split at h
  · rename_i hg
    subst hg
    split at h
    · cases h; exact spec_of_pure (fun w => rperrs_any _ _ _ _ _ _ w) (by kernel_rfl) (by kernel_rfl) hsz hav hw
    · cases h
  · cases h
def rgive_3 (cf : Int) (cd : Int) (ct : Int) (cg : Int) (s : Int) (f : Int) (u : Int) (o : Int) (g : Int) (p : Int) (ep : Int) : Int := (bif (rbcheck_0 cf cd ct cg == 0) then (bif (ep == p) then (bif (s == 3) then (if IntKind.i64.wrap (o - 1) > 0 then IntKind.i64.wrap (o - 1) else 0) else o) else o) else o)
theorem rgive_any (cf : Int) (cd : Int) (ct : Int) (cg : Int) (s : Int) (f : Int) (u : Int) (o : Int) (g : Int) (p : Int) (ep : Int) (w : World) : Calls Try.prog 64 #[.agg #[.int .i64 cf, .int .i64 cd, .int .i64 ct, .int .i64 cg], .agg #[.int .i64 s, .int .i64 f, .int .i64 u, .int .i64 o, .int .i64 g, .int .i64 p], .int .i64 ep] w (fun e w1 => e = .returned (Value.tuple #[Value.agg #[Value.int IntKind.i64 s, Value.int IntKind.i64 f, Value.int IntKind.i64 u, Value.int IntKind.i64 (rgive_3 cf cd ct cg s f u o g p ep), Value.int IntKind.i64 g, Value.int IntKind.i64 p], Value.int IntKind.i64 ((rbcheck_0 cf cd ct cg))]) ∧ Below w.heap.size w w1) := by
  rcases Bool.eq_false_or_eq_true (rbcheck_0 cf cd ct cg == 0) with h0 | h0
  · rcases Bool.eq_false_or_eq_true (ep == p) with h1 | h1
    · rcases Bool.eq_false_or_eq_true (s == 3) with h2 | h2
      · refine (calls_orc (call := aCall Try.prog ΨS8 10 100 4) (ω := [(576, oT), (960, oT), (1216, oT)]) (LF := 10) (F := 100) (av := [.agg #[.int .i64 cf, .int .i64 cd, .int .i64 ct, .int .i64 cg], .agg #[.int .i64 s, .int .i64 f, .int .i64 u, .int .i64 o, .int .i64 g, .int .i64 p], .int .i64 ep]) (v := Value.tuple #[Value.agg #[Value.int IntKind.i64 s, Value.int IntKind.i64 f, Value.int IntKind.i64 u, Value.int IntKind.i64 (if IntKind.i64.wrap (o - 1) > 0 then IntKind.i64.wrap (o - 1) else 0), Value.int IntKind.i64 g, Value.int IntKind.i64 p], Value.int IntKind.i64 (rbcheck_0 cf cd ct cg)]) (ps := [(rbcheck_0 cf cd ct cg == 0) = true, (ep == p) = true, (s == 3) = true]) (call_spec ΨS8_spec mixed 4) mixed (by kernel_rfl) (ob_cons h0 (ob_cons h1 (ob_cons h2 ob_nil))) (by kernel_rfl) (by kernel_rfl) w).mono ?_
        rintro e w1 ⟨rfl, hb⟩; exact ⟨by simp only [rgive_3, h0, h1, h2, cond_true, cond_false], hb⟩
      · refine (calls_orc (call := aCall Try.prog ΨS8 10 100 4) (ω := [(576, oT), (960, oT), (1216, oF)]) (LF := 10) (F := 100) (av := [.agg #[.int .i64 cf, .int .i64 cd, .int .i64 ct, .int .i64 cg], .agg #[.int .i64 s, .int .i64 f, .int .i64 u, .int .i64 o, .int .i64 g, .int .i64 p], .int .i64 ep]) (v := Value.tuple #[Value.agg #[Value.int IntKind.i64 s, Value.int IntKind.i64 f, Value.int IntKind.i64 u, Value.int IntKind.i64 o, Value.int IntKind.i64 g, Value.int IntKind.i64 p], Value.int IntKind.i64 (rbcheck_0 cf cd ct cg)]) (ps := [(rbcheck_0 cf cd ct cg == 0) = true, (ep == p) = true, (s == 3) = false]) (call_spec ΨS8_spec mixed 4) mixed (by kernel_rfl) (ob_cons h0 (ob_cons h1 (ob_cons h2 ob_nil))) (by kernel_rfl) (by kernel_rfl) w).mono ?_
        rintro e w1 ⟨rfl, hb⟩; exact ⟨by simp only [rgive_3, h0, h1, h2, cond_true, cond_false], hb⟩
    · refine (calls_orc (call := aCall Try.prog ΨS8 10 100 4) (ω := [(576, oT), (960, oF)]) (LF := 10) (F := 100) (av := [.agg #[.int .i64 cf, .int .i64 cd, .int .i64 ct, .int .i64 cg], .agg #[.int .i64 s, .int .i64 f, .int .i64 u, .int .i64 o, .int .i64 g, .int .i64 p], .int .i64 ep]) (v := Value.tuple #[Value.agg #[Value.int IntKind.i64 s, Value.int IntKind.i64 f, Value.int IntKind.i64 u, Value.int IntKind.i64 o, Value.int IntKind.i64 g, Value.int IntKind.i64 p], Value.int IntKind.i64 (rbcheck_0 cf cd ct cg)]) (ps := [(rbcheck_0 cf cd ct cg == 0) = true, (ep == p) = false]) (call_spec ΨS8_spec mixed 4) mixed (by kernel_rfl) (ob_cons h0 (ob_cons h1 ob_nil)) (by kernel_rfl) (by kernel_rfl) w).mono ?_
      rintro e w1 ⟨rfl, hb⟩; exact ⟨by simp only [rgive_3, h0, h1, cond_true, cond_false], hb⟩
  · refine (calls_orc (call := aCall Try.prog ΨS8 10 100 4) (ω := [(576, oF)]) (LF := 10) (F := 100) (av := [.agg #[.int .i64 cf, .int .i64 cd, .int .i64 ct, .int .i64 cg], .agg #[.int .i64 s, .int .i64 f, .int .i64 u, .int .i64 o, .int .i64 g, .int .i64 p], .int .i64 ep]) (v := Value.tuple #[Value.agg #[Value.int IntKind.i64 s, Value.int IntKind.i64 f, Value.int IntKind.i64 u, Value.int IntKind.i64 o, Value.int IntKind.i64 g, Value.int IntKind.i64 p], Value.int IntKind.i64 (rbcheck_0 cf cd ct cg)]) (ps := [(rbcheck_0 cf cd ct cg == 0) = false]) (call_spec ΨS8_spec mixed 4) mixed (by kernel_rfl) (ob_cons h0 ob_nil) (by kernel_rfl) (by kernel_rfl) w).mono ?_
    rintro e w1 ⟨rfl, hb⟩; exact ⟨by simp only [rgive_3, h0, cond_true, cond_false], hb⟩
def ψrgive : CallF := fun f args H _ =>
  if f = 64 then match args with
    | [.agg ⟨[.int .i64 cf, .int .i64 cd, .int .i64 ct, .int .i64 cg]⟩, .agg ⟨[.int .i64 s, .int .i64 f, .int .i64 u, .int .i64 o, .int .i64 g, .int .i64 p]⟩, .int .i64 ep] => some (Value.tuple #[Value.agg #[Value.int IntKind.i64 s, Value.int IntKind.i64 f, Value.int IntKind.i64 u, Value.int IntKind.i64 (rgive_3 cf cd ct cg s f u o g p ep), Value.int IntKind.i64 g, Value.int IntKind.i64 p], Value.int IntKind.i64 ((rbcheck_0 cf cd ct cg))], H)
    | _ => none
  else none
theorem ψrgive_spec [Inhabited RawG] : CallSpec Try.prog ψrgive := by
  intro g av Hs lo v H1 h D ρ w args hlt hsz hav hw
  unfold ψrgive at h
  split at h
  · rename_i hg
    subst hg
    split at h
    · cases h; exact spec_of_pure (fun w => rgive_any _ _ _ _ _ _ _ _ _ _ _ w) (by kernel_rfl) (by kernel_rfl) hsz hav hw
    · cases h
  · cases h
def rhcheck_0 (b1 : Int) (b2 : Int) (b3 : Int) (b4 : Int) (e1 : Int) (e2 : Int) (e3 : Int) (e4 : Int) (p1 : Int) (p2 : Int) (p3 : Int) (p4 : Int) : Int := (bif (rbcheck_0 b1 b2 b3 b4 == 0) then (bif (rcheck_0 e1 e2 e3 e4 == 0) then (rpcheck_0 p1 p2 p3 p4) else (rcheck_0 e1 e2 e3 e4)) else (rbcheck_0 b1 b2 b3 b4))
theorem rhcheck_any (b1 : Int) (b2 : Int) (b3 : Int) (b4 : Int) (e1 : Int) (e2 : Int) (e3 : Int) (e4 : Int) (p1 : Int) (p2 : Int) (p3 : Int) (p4 : Int) (w : World) : Calls Try.prog 25 #[.agg #[.int .i64 b1, .int .i64 b2, .int .i64 b3, .int .i64 b4, .int .i64 e1, .int .i64 e2, .int .i64 e3, .int .i64 e4, .int .i64 p1, .int .i64 p2, .int .i64 p3, .int .i64 p4]] w (fun e w1 => e = .returned (Value.int IntKind.i64 (rhcheck_0 b1 b2 b3 b4 e1 e2 e3 e4 p1 p2 p3 p4)) ∧ Below w.heap.size w w1) := by
  rcases Bool.eq_false_or_eq_true (rbcheck_0 b1 b2 b3 b4 == 0) with h0 | h0
  · rcases Bool.eq_false_or_eq_true (rcheck_0 e1 e2 e3 e4 == 0) with h1 | h1
    · refine (calls_orc (call := aCall Try.prog ΨS8 10 100 4) (ω := [(448, oT), (832, oT)]) (LF := 10) (F := 100) (av := [.agg #[.int .i64 b1, .int .i64 b2, .int .i64 b3, .int .i64 b4, .int .i64 e1, .int .i64 e2, .int .i64 e3, .int .i64 e4, .int .i64 p1, .int .i64 p2, .int .i64 p3, .int .i64 p4]]) (v := Value.int IntKind.i64 (rpcheck_0 p1 p2 p3 p4)) (ps := [(rbcheck_0 b1 b2 b3 b4 == 0) = true, (rcheck_0 e1 e2 e3 e4 == 0) = true]) (call_spec ΨS8_spec mixed 4) mixed (by kernel_rfl) (ob_cons h0 (ob_cons h1 ob_nil)) (by kernel_rfl) (by kernel_rfl) w).mono ?_
      rintro e w1 ⟨rfl, hb⟩; exact ⟨by simp only [rhcheck_0, h0, h1, cond_true, cond_false], hb⟩
    · refine (calls_orc (call := aCall Try.prog ΨS8 10 100 4) (ω := [(448, oT), (832, oF)]) (LF := 10) (F := 100) (av := [.agg #[.int .i64 b1, .int .i64 b2, .int .i64 b3, .int .i64 b4, .int .i64 e1, .int .i64 e2, .int .i64 e3, .int .i64 e4, .int .i64 p1, .int .i64 p2, .int .i64 p3, .int .i64 p4]]) (v := Value.int IntKind.i64 (rcheck_0 e1 e2 e3 e4)) (ps := [(rbcheck_0 b1 b2 b3 b4 == 0) = true, (rcheck_0 e1 e2 e3 e4 == 0) = false]) (call_spec ΨS8_spec mixed 4) mixed (by kernel_rfl) (ob_cons h0 (ob_cons h1 ob_nil)) (by kernel_rfl) (by kernel_rfl) w).mono ?_
      rintro e w1 ⟨rfl, hb⟩; exact ⟨by simp only [rhcheck_0, h0, h1, cond_true, cond_false], hb⟩
  · refine (calls_orc (call := aCall Try.prog ΨS8 10 100 4) (ω := [(448, oF), (576, oF)]) (LF := 10) (F := 100) (av := [.agg #[.int .i64 b1, .int .i64 b2, .int .i64 b3, .int .i64 b4, .int .i64 e1, .int .i64 e2, .int .i64 e3, .int .i64 e4, .int .i64 p1, .int .i64 p2, .int .i64 p3, .int .i64 p4]]) (v := Value.int IntKind.i64 (rbcheck_0 b1 b2 b3 b4)) (ps := [(rbcheck_0 b1 b2 b3 b4 == 0) = false, (rbcheck_0 b1 b2 b3 b4 == 0) = false]) (call_spec ΨS8_spec mixed 4) mixed (by kernel_rfl) (ob_cons h0 (ob_cons h0 ob_nil)) (by kernel_rfl) (by kernel_rfl) w).mono ?_
    rintro e w1 ⟨rfl, hb⟩; exact ⟨by simp only [rhcheck_0, h0, cond_true, cond_false], hb⟩
def ψrhcheck : CallF := fun f args H _ =>
  if f = 25 then match args with
    | [.agg ⟨[.int .i64 b1, .int .i64 b2, .int .i64 b3, .int .i64 b4, .int .i64 e1, .int .i64 e2, .int .i64 e3, .int .i64 e4, .int .i64 p1, .int .i64 p2, .int .i64 p3, .int .i64 p4]⟩] => some (Value.int IntKind.i64 (rhcheck_0 b1 b2 b3 b4 e1 e2 e3 e4 p1 p2 p3 p4), H)
    | _ => none
  else none
theorem ψrhcheck_spec [Inhabited RawG] : CallSpec Try.prog ψrhcheck := by
  intro g av Hs lo v H1 h D ρ w args hlt hsz hav hw
  unfold ψrhcheck at h
  split at h
  · rename_i hg
    subst hg
    split at h
    · cases h; exact spec_of_pure (fun w => rhcheck_any _ _ _ _ _ _ _ _ _ _ _ _ w) (by kernel_rfl) (by kernel_rfl) hsz hav hw
    · cases h
  · cases h
def ΨS9_0 : CallF := orΨ ψrallows ΨS8
theorem ΨS9_0_spec [Inhabited RawG] : CallSpec Try.prog ΨS9_0 := orΨ_spec ψrallows_spec ΨS8_spec
def ΨS9_1 : CallF := orΨ ψrerrs ΨS9_0
theorem ΨS9_1_spec [Inhabited RawG] : CallSpec Try.prog ΨS9_1 := orΨ_spec ψrerrs_spec ΨS9_0_spec
def ΨS9_2 : CallF := orΨ ψropened ΨS9_1
theorem ΨS9_2_spec [Inhabited RawG] : CallSpec Try.prog ΨS9_2 := orΨ_spec ψropened_spec ΨS9_1_spec
def ΨS9_3 : CallF := orΨ ψruntil ΨS9_2
theorem ΨS9_3_spec [Inhabited RawG] : CallSpec Try.prog ΨS9_3 := orΨ_spec ψruntil_spec ΨS9_2_spec
def ΨS9_4 : CallF := orΨ ψrlate ΨS9_3
theorem ΨS9_4_spec [Inhabited RawG] : CallSpec Try.prog ΨS9_4 := orΨ_spec ψrlate_spec ΨS9_3_spec
def ΨS9_5 : CallF := orΨ ψrperrs ΨS9_4
theorem ΨS9_5_spec [Inhabited RawG] : CallSpec Try.prog ΨS9_5 := orΨ_spec ψrperrs_spec ΨS9_4_spec
def ΨS9_6 : CallF := orΨ ψrgive ΨS9_5
theorem ΨS9_6_spec [Inhabited RawG] : CallSpec Try.prog ΨS9_6 := orΨ_spec ψrgive_spec ΨS9_5_spec
def ΨS9 : CallF := orΨ ψrhcheck ΨS9_6
theorem ΨS9_spec [Inhabited RawG] : CallSpec Try.prog ΨS9 := orΨ_spec ψrhcheck_spec ΨS9_6_spec
end
section
open Go.RowKit
set_option linter.unusedVariables false
set_option linter.unusedSectionVars false
set_option linter.unusedSimpArgs false
set_option maxRecDepth 100000
def rbegin_0 (cf : Int) (cd : Int) (ct : Int) (cg : Int) (s : Int) (f : Int) (u : Int) (o : Int) (g : Int) (p : Int) (now : Int) : Int := (bif (rerrs_0 cf cd ct cg now == 0) then (bif (!rallows_0 cf cd ct cg s f u o g p now) then s else (bif (rerrs_0 cf cd ct cg now != 0) then s else (bif (s == 2) then 3 else (bif (s == 3) then s else s)))) else (bif (rerrs_0 cf cd ct cg now != 0) then s else (bif (s == 2) then 3 else (bif (s == 3) then s else s))))
def rbegin_3 (cf : Int) (cd : Int) (ct : Int) (cg : Int) (s : Int) (f : Int) (u : Int) (o : Int) (g : Int) (p : Int) (now : Int) : Int := (bif (rerrs_0 cf cd ct cg now == 0) then (bif (!rallows_0 cf cd ct cg s f u o g p now) then o else (bif (rerrs_0 cf cd ct cg now != 0) then o else (bif (s == 2) then 1 else (bif (s == 3) then (IntKind.i64.wrap (o + 1)) else o)))) else (bif (rerrs_0 cf cd ct cg now != 0) then o else (bif (s == 2) then 1 else (bif (s == 3) then (IntKind.i64.wrap (o + 1)) else o))))
def rbegin_4 (cf : Int) (cd : Int) (ct : Int) (cg : Int) (s : Int) (f : Int) (u : Int) (o : Int) (g : Int) (p : Int) (now : Int) : Int := (bif (rerrs_0 cf cd ct cg now == 0) then (bif (!rallows_0 cf cd ct cg s f u o g p now) then g else (bif (rerrs_0 cf cd ct cg now != 0) then g else (bif (s == 2) then 0 else (bif (s == 3) then g else g)))) else (bif (rerrs_0 cf cd ct cg now != 0) then g else (bif (s == 2) then 0 else (bif (s == 3) then g else g))))
def rbegin_5 (cf : Int) (cd : Int) (ct : Int) (cg : Int) (s : Int) (f : Int) (u : Int) (o : Int) (g : Int) (p : Int) (now : Int) : Int := (bif (rerrs_0 cf cd ct cg now == 0) then (bif (!rallows_0 cf cd ct cg s f u o g p now) then p else (bif (rerrs_0 cf cd ct cg now != 0) then p else (bif (s == 2) then (IntKind.i64.wrap (p + 1)) else (bif (s == 3) then p else p)))) else (bif (rerrs_0 cf cd ct cg now != 0) then p else (bif (s == 2) then (IntKind.i64.wrap (p + 1)) else (bif (s == 3) then p else p))))
def rbegin_6 (cf : Int) (cd : Int) (ct : Int) (cg : Int) (s : Int) (f : Int) (u : Int) (o : Int) (g : Int) (p : Int) (now : Int) : Int := (bif (rerrs_0 cf cd ct cg now == 0) then (bif (!rallows_0 cf cd ct cg s f u o g p now) then 0 else (bif (rerrs_0 cf cd ct cg now != 0) then 0 else (bif (s == 2) then (IntKind.i64.wrap (p + 1)) else (bif (s == 3) then p else p)))) else (bif (rerrs_0 cf cd ct cg now != 0) then 0 else (bif (s == 2) then (IntKind.i64.wrap (p + 1)) else (bif (s == 3) then p else p))))
def rbegin_7 (cf : Int) (cd : Int) (ct : Int) (cg : Int) (s : Int) (f : Int) (u : Int) (o : Int) (g : Int) (p : Int) (now : Int) : Int := (bif (rerrs_0 cf cd ct cg now == 0) then (bif (!rallows_0 cf cd ct cg s f u o g p now) then 8 else (bif (rerrs_0 cf cd ct cg now != 0) then (rerrs_0 cf cd ct cg now) else (bif (s == 2) then 0 else (bif (s == 3) then 0 else 0)))) else (bif (rerrs_0 cf cd ct cg now != 0) then (rerrs_0 cf cd ct cg now) else (bif (s == 2) then 0 else (bif (s == 3) then 0 else 0))))
theorem rbegin_any (cf : Int) (cd : Int) (ct : Int) (cg : Int) (s : Int) (f : Int) (u : Int) (o : Int) (g : Int) (p : Int) (now : Int) (w : World) : Calls Try.prog 61 #[.agg #[.int .i64 cf, .int .i64 cd, .int .i64 ct, .int .i64 cg], .agg #[.int .i64 s, .int .i64 f, .int .i64 u, .int .i64 o, .int .i64 g, .int .i64 p], .int .i64 now] w (fun e w1 => e = .returned (Value.tuple #[Value.agg #[Value.int IntKind.i64 (rbegin_0 cf cd ct cg s f u o g p now), Value.int IntKind.i64 f, Value.int IntKind.i64 u, Value.int IntKind.i64 (rbegin_3 cf cd ct cg s f u o g p now), Value.int IntKind.i64 (rbegin_4 cf cd ct cg s f u o g p now), Value.int IntKind.i64 (rbegin_5 cf cd ct cg s f u o g p now)], Value.int IntKind.i64 (rbegin_6 cf cd ct cg s f u o g p now), Value.int IntKind.i64 (rbegin_7 cf cd ct cg s f u o g p now)]) ∧ Below w.heap.size w w1) := by
  rcases Bool.eq_false_or_eq_true (rerrs_0 cf cd ct cg now == 0) with h0 | h0
  · rcases Bool.eq_false_or_eq_true (!rallows_0 cf cd ct cg s f u o g p now) with h1 | h1
    · refine (calls_orc (call := aCall Try.prog ΨS9 10 100 4) (ω := [(704, oT), (1088, oT)]) (LF := 10) (F := 100) (av := [.agg #[.int .i64 cf, .int .i64 cd, .int .i64 ct, .int .i64 cg], .agg #[.int .i64 s, .int .i64 f, .int .i64 u, .int .i64 o, .int .i64 g, .int .i64 p], .int .i64 now]) (v := Value.tuple #[Value.agg #[Value.int IntKind.i64 s, Value.int IntKind.i64 f, Value.int IntKind.i64 u, Value.int IntKind.i64 o, Value.int IntKind.i64 g, Value.int IntKind.i64 p], Value.int IntKind.i64 0, Value.int IntKind.i64 8]) (ps := [(rerrs_0 cf cd ct cg now == 0) = true, (!rallows_0 cf cd ct cg s f u o g p now) = true]) (call_spec ΨS9_spec mixed 4) mixed (by kernel_rfl) (ob_cons h0 (ob_cons h1 ob_nil)) (by kernel_rfl) (by kernel_rfl) w).mono ?_
      rintro e w1 ⟨rfl, hb⟩; exact ⟨by simp only [rbegin_0, rbegin_3, rbegin_4, rbegin_5, rbegin_6, rbegin_7, h0, h1, cond_true, cond_false], hb⟩
    · rcases Bool.eq_false_or_eq_true (rerrs_0 cf cd ct cg now != 0) with h2 | h2
      · refine (calls_orc (call := aCall Try.prog ΨS9 10 100 4) (ω := [(704, oT), (1088, oF), (1216, oT)]) (LF := 10) (F := 100) (av := [.agg #[.int .i64 cf, .int .i64 cd, .int .i64 ct, .int .i64 cg], .agg #[.int .i64 s, .int .i64 f, .int .i64 u, .int .i64 o, .int .i64 g, .int .i64 p], .int .i64 now]) (v := Value.tuple #[Value.agg #[Value.int IntKind.i64 s, Value.int IntKind.i64 f, Value.int IntKind.i64 u, Value.int IntKind.i64 o, Value.int IntKind.i64 g, Value.int IntKind.i64 p], Value.int IntKind.i64 0, Value.int IntKind.i64 (rerrs_0 cf cd ct cg now)]) (ps := [(rerrs_0 cf cd ct cg now == 0) = true, (!rallows_0 cf cd ct cg s f u o g p now) = false, (rerrs_0 cf cd ct cg now != 0) = true]) (call_spec ΨS9_spec mixed 4) mixed (by kernel_rfl) (ob_cons h0 (ob_cons h1 (ob_cons h2 ob_nil))) (by kernel_rfl) (by kernel_rfl) w).mono ?_
        rintro e w1 ⟨rfl, hb⟩; exact ⟨by simp only [rbegin_0, rbegin_3, rbegin_4, rbegin_5, rbegin_6, rbegin_7, h0, h1, h2, cond_true, cond_false], hb⟩
      · rcases Bool.eq_false_or_eq_true (s == 2) with h3 | h3
        · refine (calls_orc (call := aCall Try.prog ΨS9 10 100 4) (ω := [(704, oT), (1088, oF), (1216, oF), (1408, oT)]) (LF := 10) (F := 100) (av := [.agg #[.int .i64 cf, .int .i64 cd, .int .i64 ct, .int .i64 cg], .agg #[.int .i64 s, .int .i64 f, .int .i64 u, .int .i64 o, .int .i64 g, .int .i64 p], .int .i64 now]) (v := Value.tuple #[Value.agg #[Value.int IntKind.i64 3, Value.int IntKind.i64 f, Value.int IntKind.i64 u, Value.int IntKind.i64 1, Value.int IntKind.i64 0, Value.int IntKind.i64 (IntKind.i64.wrap (p + 1))], Value.int IntKind.i64 (IntKind.i64.wrap (p + 1)), Value.int IntKind.i64 0]) (ps := [(rerrs_0 cf cd ct cg now == 0) = true, (!rallows_0 cf cd ct cg s f u o g p now) = false, (rerrs_0 cf cd ct cg now != 0) = false, (s == 2) = true]) (call_spec ΨS9_spec mixed 4) mixed (by kernel_rfl) (ob_cons h0 (ob_cons h1 (ob_cons h2 (ob_cons h3 ob_nil)))) (by kernel_rfl) (by kernel_rfl) w).mono ?_
          rintro e w1 ⟨rfl, hb⟩; exact ⟨by simp only [rbegin_0, rbegin_3, rbegin_4, rbegin_5, rbegin_6, rbegin_7, h0, h1, h2, h3, cond_true, cond_false], hb⟩
        · rcases Bool.eq_false_or_eq_true (s == 3) with h4 | h4
          · refine (calls_orc (call := aCall Try.prog ΨS9 10 100 4) (ω := [(704, oT), (1088, oF), (1216, oF), (1408, oF), (1600, oT)]) (LF := 10) (F := 100) (av := [.agg #[.int .i64 cf, .int .i64 cd, .int .i64 ct, .int .i64 cg], .agg #[.int .i64 s, .int .i64 f, .int .i64 u, .int .i64 o, .int .i64 g, .int .i64 p], .int .i64 now]) (v := Value.tuple #[Value.agg #[Value.int IntKind.i64 s, Value.int IntKind.i64 f, Value.int IntKind.i64 u, Value.int IntKind.i64 (IntKind.i64.wrap (o + 1)), Value.int IntKind.i64 g, Value.int IntKind.i64 p], Value.int IntKind.i64 p, Value.int IntKind.i64 0]) (ps := [(rerrs_0 cf cd ct cg now == 0) = true, (!rallows_0 cf cd ct cg s f u o g p now) = false, (rerrs_0 cf cd ct cg now != 0) = false, (s == 2) = false, (s == 3) = true]) (call_spec ΨS9_spec mixed 4) mixed (by kernel_rfl) (ob_cons h0 (ob_cons h1 (ob_cons h2 (ob_cons h3 (ob_cons h4 ob_nil))))) (by kernel_rfl) (by kernel_rfl) w).mono ?_
            rintro e w1 ⟨rfl, hb⟩; exact ⟨by simp only [rbegin_0, rbegin_3, rbegin_4, rbegin_5, rbegin_6, rbegin_7, h0, h1, h2, h3, h4, cond_true, cond_false], hb⟩
          · refine (calls_orc (call := aCall Try.prog ΨS9 10 100 4) (ω := [(704, oT), (1088, oF), (1216, oF), (1408, oF), (1600, oF)]) (LF := 10) (F := 100) (av := [.agg #[.int .i64 cf, .int .i64 cd, .int .i64 ct, .int .i64 cg], .agg #[.int .i64 s, .int .i64 f, .int .i64 u, .int .i64 o, .int .i64 g, .int .i64 p], .int .i64 now]) (v := Value.tuple #[Value.agg #[Value.int IntKind.i64 s, Value.int IntKind.i64 f, Value.int IntKind.i64 u, Value.int IntKind.i64 o, Value.int IntKind.i64 g, Value.int IntKind.i64 p], Value.int IntKind.i64 p, Value.int IntKind.i64 0]) (ps := [(rerrs_0 cf cd ct cg now == 0) = true, (!rallows_0 cf cd ct cg s f u o g p now) = false, (rerrs_0 cf cd ct cg now != 0) = false, (s == 2) = false, (s == 3) = false]) (call_spec ΨS9_spec mixed 4) mixed (by kernel_rfl) (ob_cons h0 (ob_cons h1 (ob_cons h2 (ob_cons h3 (ob_cons h4 ob_nil))))) (by kernel_rfl) (by kernel_rfl) w).mono ?_
            rintro e w1 ⟨rfl, hb⟩; exact ⟨by simp only [rbegin_0, rbegin_3, rbegin_4, rbegin_5, rbegin_6, rbegin_7, h0, h1, h2, h3, h4, cond_true, cond_false], hb⟩
  · rcases Bool.eq_false_or_eq_true (rerrs_0 cf cd ct cg now != 0) with h1 | h1
    · refine (calls_orc (call := aCall Try.prog ΨS9 10 100 4) (ω := [(704, oF), (1216, oT)]) (LF := 10) (F := 100) (av := [.agg #[.int .i64 cf, .int .i64 cd, .int .i64 ct, .int .i64 cg], .agg #[.int .i64 s, .int .i64 f, .int .i64 u, .int .i64 o, .int .i64 g, .int .i64 p], .int .i64 now]) (v := Value.tuple #[Value.agg #[Value.int IntKind.i64 s, Value.int IntKind.i64 f, Value.int IntKind.i64 u, Value.int IntKind.i64 o, Value.int IntKind.i64 g, Value.int IntKind.i64 p], Value.int IntKind.i64 0, Value.int IntKind.i64 (rerrs_0 cf cd ct cg now)]) (ps := [(rerrs_0 cf cd ct cg now == 0) = false, (rerrs_0 cf cd ct cg now != 0) = true]) (call_spec ΨS9_spec mixed 4) mixed (by kernel_rfl) (ob_cons h0 (ob_cons h1 ob_nil)) (by kernel_rfl) (by kernel_rfl) w).mono ?_
      rintro e w1 ⟨rfl, hb⟩; exact ⟨by simp only [rbegin_0, rbegin_3, rbegin_4, rbegin_5, rbegin_6, rbegin_7, h0, h1, cond_true, cond_false], hb⟩
    · rcases Bool.eq_false_or_eq_true (s == 2) with h2 | h2
      · refine (calls_orc (call := aCall Try.prog ΨS9 10 100 4) (ω := [(704, oF), (1216, oF), (1408, oT)]) (LF := 10) (F := 100) (av := [.agg #[.int .i64 cf, .int .i64 cd, .int .i64 ct, .int .i64 cg], .agg #[.int .i64 s, .int .i64 f, .int .i64 u, .int .i64 o, .int .i64 g, .int .i64 p], .int .i64 now]) (v := Value.tuple #[Value.agg #[Value.int IntKind.i64 3, Value.int IntKind.i64 f, Value.int IntKind.i64 u, Value.int IntKind.i64 1, Value.int IntKind.i64 0, Value.int IntKind.i64 (IntKind.i64.wrap (p + 1))], Value.int IntKind.i64 (IntKind.i64.wrap (p + 1)), Value.int IntKind.i64 0]) (ps := [(rerrs_0 cf cd ct cg now == 0) = false, (rerrs_0 cf cd ct cg now != 0) = false, (s == 2) = true]) (call_spec ΨS9_spec mixed 4) mixed (by kernel_rfl) (ob_cons h0 (ob_cons h1 (ob_cons h2 ob_nil))) (by kernel_rfl) (by kernel_rfl) w).mono ?_
        rintro e w1 ⟨rfl, hb⟩; exact ⟨by simp only [rbegin_0, rbegin_3, rbegin_4, rbegin_5, rbegin_6, rbegin_7, h0, h1, h2, cond_true, cond_false], hb⟩
      · rcases Bool.eq_false_or_eq_true (s == 3) with h3 | h3
        · refine (calls_orc (call := aCall Try.prog ΨS9 10 100 4) (ω := [(704, oF), (1216, oF), (1408, oF), (1600, oT)]) (LF := 10) (F := 100) (av := [.agg #[.int .i64 cf, .int .i64 cd, .int .i64 ct, .int .i64 cg], .agg #[.int .i64 s, .int .i64 f, .int .i64 u, .int .i64 o, .int .i64 g, .int .i64 p], .int .i64 now]) (v := Value.tuple #[Value.agg #[Value.int IntKind.i64 s, Value.int IntKind.i64 f, Value.int IntKind.i64 u, Value.int IntKind.i64 (IntKind.i64.wrap (o + 1)), Value.int IntKind.i64 g, Value.int IntKind.i64 p], Value.int IntKind.i64 p, Value.int IntKind.i64 0]) (ps := [(rerrs_0 cf cd ct cg now == 0) = false, (rerrs_0 cf cd ct cg now != 0) = false, (s == 2) = false, (s == 3) = true]) (call_spec ΨS9_spec mixed 4) mixed (by kernel_rfl) (ob_cons h0 (ob_cons h1 (ob_cons h2 (ob_cons h3 ob_nil)))) (by kernel_rfl) (by kernel_rfl) w).mono ?_
          rintro e w1 ⟨rfl, hb⟩; exact ⟨by simp only [rbegin_0, rbegin_3, rbegin_4, rbegin_5, rbegin_6, rbegin_7, h0, h1, h2, h3, cond_true, cond_false], hb⟩
        · refine (calls_orc (call := aCall Try.prog ΨS9 10 100 4) (ω := [(704, oF), (1216, oF), (1408, oF), (1600, oF)]) (LF := 10) (F := 100) (av := [.agg #[.int .i64 cf, .int .i64 cd, .int .i64 ct, .int .i64 cg], .agg #[.int .i64 s, .int .i64 f, .int .i64 u, .int .i64 o, .int .i64 g, .int .i64 p], .int .i64 now]) (v := Value.tuple #[Value.agg #[Value.int IntKind.i64 s, Value.int IntKind.i64 f, Value.int IntKind.i64 u, Value.int IntKind.i64 o, Value.int IntKind.i64 g, Value.int IntKind.i64 p], Value.int IntKind.i64 p, Value.int IntKind.i64 0]) (ps := [(rerrs_0 cf cd ct cg now == 0) = false, (rerrs_0 cf cd ct cg now != 0) = false, (s == 2) = false, (s == 3) = false]) (call_spec ΨS9_spec mixed 4) mixed (by kernel_rfl) (ob_cons h0 (ob_cons h1 (ob_cons h2 (ob_cons h3 ob_nil)))) (by kernel_rfl) (by kernel_rfl) w).mono ?_
          rintro e w1 ⟨rfl, hb⟩; exact ⟨by simp only [rbegin_0, rbegin_3, rbegin_4, rbegin_5, rbegin_6, rbegin_7, h0, h1, h2, h3, cond_true, cond_false], hb⟩
def ψrbegin : CallF := fun f args H _ =>
  if f = 61 then match args with
    | [.agg ⟨[.int .i64 cf, .int .i64 cd, .int .i64 ct, .int .i64 cg]⟩, .agg ⟨[.int .i64 s, .int .i64 f, .int .i64 u, .int .i64 o, .int .i64 g, .int .i64 p]⟩, .int .i64 now] => some (Value.tuple #[Value.agg #[Value.int IntKind.i64 (rbegin_0 cf cd ct cg s f u o g p now), Value.int IntKind.i64 f, Value.int IntKind.i64 u, Value.int IntKind.i64 (rbegin_3 cf cd ct cg s f u o g p now), Value.int IntKind.i64 (rbegin_4 cf cd ct cg s f u o g p now), Value.int IntKind.i64 (rbegin_5 cf cd ct cg s f u o g p now)], Value.int IntKind.i64 (rbegin_6 cf cd ct cg s f u o g p now), Value.int IntKind.i64 (rbegin_7 cf cd ct cg s f u o g p now)], H)
    | _ => none
  else none
theorem ψrbegin_spec [Inhabited RawG] : CallSpec Try.prog ψrbegin := by
  intro g av Hs lo v H1 h D ρ w args hlt hsz hav hw
  unfold ψrbegin at h
  split at h
  · rename_i hg
    subst hg
    split at h
    · cases h; exact spec_of_pure (fun w => rbegin_any _ _ _ _ _ _ _ _ _ _ _ w) (by kernel_rfl) (by kernel_rfl) hsz hav hw
    · cases h
  · cases h
def rend_0 (cf : Int) (cd : Int) (ct : Int) (cg : Int) (s : Int) (f : Int) (u : Int) (o : Int) (g : Int) (p : Int) (ep : Int) (well : Bool) (now : Int) : Int := (bif (rerrs_0 cf cd ct cg now != 0) then s else (bif (ep != p) then s else (bif (s == 1) then (bif (well) then s else (bif (decide (IntKind.i64.wrap (f + 1) ≥ cf)) then 2 else s)) else (bif (s == 3) then (bif (!well) then 2 else (bif (decide (IntKind.i64.wrap (g + 1) ≥ cg)) then 1 else s)) else s))))
def rend_1 (cf : Int) (cd : Int) (ct : Int) (cg : Int) (s : Int) (f : Int) (u : Int) (o : Int) (g : Int) (p : Int) (ep : Int) (well : Bool) (now : Int) : Int := (bif (rerrs_0 cf cd ct cg now != 0) then f else (bif (ep != p) then f else (bif (s == 1) then (bif (well) then 0 else (bif (decide (IntKind.i64.wrap (f + 1) ≥ cf)) then 0 else (IntKind.i64.wrap (f + 1)))) else (bif (s == 3) then (bif (!well) then 0 else (bif (decide (IntKind.i64.wrap (g + 1) ≥ cg)) then 0 else f)) else f))))
def rend_2 (cf : Int) (cd : Int) (ct : Int) (cg : Int) (s : Int) (f : Int) (u : Int) (o : Int) (g : Int) (p : Int) (ep : Int) (well : Bool) (now : Int) : Int := (bif (rerrs_0 cf cd ct cg now != 0) then u else (bif (ep != p) then u else (bif (s == 1) then (bif (well) then u else (bif (decide (IntKind.i64.wrap (f + 1) ≥ cf)) then (behind_0 now cd) else u)) else (bif (s == 3) then (bif (!well) then (behind_0 now cd) else (bif (decide (IntKind.i64.wrap (g + 1) ≥ cg)) then 0 else u)) else u))))
def rend_3 (cf : Int) (cd : Int) (ct : Int) (cg : Int) (s : Int) (f : Int) (u : Int) (o : Int) (g : Int) (p : Int) (ep : Int) (well : Bool) (now : Int) : Int := (bif (rerrs_0 cf cd ct cg now != 0) then o else (bif (ep != p) then o else (bif (s == 1) then (bif (well) then o else (bif (decide (IntKind.i64.wrap (f + 1) ≥ cf)) then 0 else o)) else (bif (s == 3) then (bif (!well) then 0 else (bif (decide (IntKind.i64.wrap (g + 1) ≥ cg)) then 0 else (if IntKind.i64.wrap (o - 1) > 0 then IntKind.i64.wrap (o - 1) else 0))) else o))))
def rend_4 (cf : Int) (cd : Int) (ct : Int) (cg : Int) (s : Int) (f : Int) (u : Int) (o : Int) (g : Int) (p : Int) (ep : Int) (well : Bool) (now : Int) : Int := (bif (rerrs_0 cf cd ct cg now != 0) then g else (bif (ep != p) then g else (bif (s == 1) then (bif (well) then g else (bif (decide (IntKind.i64.wrap (f + 1) ≥ cf)) then 0 else g)) else (bif (s == 3) then (bif (!well) then 0 else (bif (decide (IntKind.i64.wrap (g + 1) ≥ cg)) then 0 else (IntKind.i64.wrap (g + 1)))) else g))))
def rend_5 (cf : Int) (cd : Int) (ct : Int) (cg : Int) (s : Int) (f : Int) (u : Int) (o : Int) (g : Int) (p : Int) (ep : Int) (well : Bool) (now : Int) : Int := (bif (rerrs_0 cf cd ct cg now != 0) then p else (bif (ep != p) then p else (bif (s == 1) then (bif (well) then p else (bif (decide (IntKind.i64.wrap (f + 1) ≥ cf)) then (IntKind.i64.wrap (p + 1)) else p)) else (bif (s == 3) then (bif (!well) then (IntKind.i64.wrap (p + 1)) else (bif (decide (IntKind.i64.wrap (g + 1) ≥ cg)) then (IntKind.i64.wrap (p + 1)) else p)) else p))))
def rend_6 (cf : Int) (cd : Int) (ct : Int) (cg : Int) (s : Int) (f : Int) (u : Int) (o : Int) (g : Int) (p : Int) (ep : Int) (well : Bool) (now : Int) : Int := (bif (rerrs_0 cf cd ct cg now != 0) then (rerrs_0 cf cd ct cg now) else (bif (ep != p) then (rerrs_0 cf cd ct cg now) else (bif (s == 1) then (bif (well) then 0 else (bif (decide (IntKind.i64.wrap (f + 1) ≥ cf)) then 0 else 0)) else (bif (s == 3) then (bif (!well) then 0 else (bif (decide (IntKind.i64.wrap (g + 1) ≥ cg)) then 0 else 0)) else 0))))
theorem rend_any (cf : Int) (cd : Int) (ct : Int) (cg : Int) (s : Int) (f : Int) (u : Int) (o : Int) (g : Int) (p : Int) (ep : Int) (well : Bool) (now : Int) (w : World) : Calls Try.prog 62 #[.agg #[.int .i64 cf, .int .i64 cd, .int .i64 ct, .int .i64 cg], .agg #[.int .i64 s, .int .i64 f, .int .i64 u, .int .i64 o, .int .i64 g, .int .i64 p], .int .i64 ep, .bool well, .int .i64 now] w (fun e w1 => e = .returned (Value.tuple #[Value.agg #[Value.int IntKind.i64 (rend_0 cf cd ct cg s f u o g p ep well now), Value.int IntKind.i64 (rend_1 cf cd ct cg s f u o g p ep well now), Value.int IntKind.i64 (rend_2 cf cd ct cg s f u o g p ep well now), Value.int IntKind.i64 (rend_3 cf cd ct cg s f u o g p ep well now), Value.int IntKind.i64 (rend_4 cf cd ct cg s f u o g p ep well now), Value.int IntKind.i64 (rend_5 cf cd ct cg s f u o g p ep well now)], Value.int IntKind.i64 (rend_6 cf cd ct cg s f u o g p ep well now)]) ∧ Below w.heap.size w w1) := by
  rcases Bool.eq_false_or_eq_true (rerrs_0 cf cd ct cg now != 0) with h0 | h0
  · refine (calls_orc (call := aCall Try.prog ΨS9 10 100 4) (ω := [(640, oT)]) (LF := 10) (F := 100) (av := [.agg #[.int .i64 cf, .int .i64 cd, .int .i64 ct, .int .i64 cg], .agg #[.int .i64 s, .int .i64 f, .int .i64 u, .int .i64 o, .int .i64 g, .int .i64 p], .int .i64 ep, .bool well, .int .i64 now]) (v := Value.tuple #[Value.agg #[Value.int IntKind.i64 s, Value.int IntKind.i64 f, Value.int IntKind.i64 u, Value.int IntKind.i64 o, Value.int IntKind.i64 g, Value.int IntKind.i64 p], Value.int IntKind.i64 (rerrs_0 cf cd ct cg now)]) (ps := [(rerrs_0 cf cd ct cg now != 0) = true]) (call_spec ΨS9_spec mixed 4) mixed (by kernel_rfl) (ob_cons h0 ob_nil) (by kernel_rfl) (by kernel_rfl) w).mono ?_
    rintro e w1 ⟨rfl, hb⟩; exact ⟨by simp only [rend_0, rend_1, rend_2, rend_3, rend_4, rend_5, rend_6, h0, cond_true, cond_false], hb⟩
  · rcases Bool.eq_false_or_eq_true (ep != p) with h1 | h1
    · refine (calls_orc (call := aCall Try.prog ΨS9 10 100 4) (ω := [(640, oF), (960, oT)]) (LF := 10) (F := 100) (av := [.agg #[.int .i64 cf, .int .i64 cd, .int .i64 ct, .int .i64 cg], .agg #[.int .i64 s, .int .i64 f, .int .i64 u, .int .i64 o, .int .i64 g, .int .i64 p], .int .i64 ep, .bool well, .int .i64 now]) (v := Value.tuple #[Value.agg #[Value.int IntKind.i64 s, Value.int IntKind.i64 f, Value.int IntKind.i64 u, Value.int IntKind.i64 o, Value.int IntKind.i64 g, Value.int IntKind.i64 p], Value.int IntKind.i64 (rerrs_0 cf cd ct cg now)]) (ps := [(rerrs_0 cf cd ct cg now != 0) = false, (ep != p) = true]) (call_spec ΨS9_spec mixed 4) mixed (by kernel_rfl) (ob_cons h0 (ob_cons h1 ob_nil)) (by kernel_rfl) (by kernel_rfl) w).mono ?_
      rintro e w1 ⟨rfl, hb⟩; exact ⟨by simp only [rend_0, rend_1, rend_2, rend_3, rend_4, rend_5, rend_6, h0, h1, cond_true, cond_false], hb⟩
    · rcases Bool.eq_false_or_eq_true (s == 1) with h2 | h2
      · rcases Bool.eq_false_or_eq_true (well) with h3 | h3
        · refine (calls_orc (call := aCall Try.prog ΨS9 10 100 4) (ω := [(640, oF), (960, oF), (1216, oT), (1280, oT)]) (LF := 10) (F := 100) (av := [.agg #[.int .i64 cf, .int .i64 cd, .int .i64 ct, .int .i64 cg], .agg #[.int .i64 s, .int .i64 f, .int .i64 u, .int .i64 o, .int .i64 g, .int .i64 p], .int .i64 ep, .bool well, .int .i64 now]) (v := Value.tuple #[Value.agg #[Value.int IntKind.i64 s, Value.int IntKind.i64 0, Value.int IntKind.i64 u, Value.int IntKind.i64 o, Value.int IntKind.i64 g, Value.int IntKind.i64 p], Value.int IntKind.i64 0]) (ps := [(rerrs_0 cf cd ct cg now != 0) = false, (ep != p) = false, (s == 1) = true, well = true]) (call_spec ΨS9_spec mixed 4) mixed (by kernel_rfl) (ob_cons h0 (ob_cons h1 (ob_cons h2 (ob_cons h3 ob_nil)))) (by kernel_rfl) (by kernel_rfl) w).mono ?_
          rintro e w1 ⟨rfl, hb⟩; exact ⟨by simp only [rend_0, rend_1, rend_2, rend_3, rend_4, rend_5, rend_6, h0, h1, h2, h3, cond_true, cond_false], hb⟩
        · rcases Bool.eq_false_or_eq_true (decide (IntKind.i64.wrap (f + 1) ≥ cf)) with h4 | h4
          · refine (calls_orc (call := aCall Try.prog ΨS9 10 100 4) (ω := [(640, oF), (960, oF), (1216, oT), (1280, oF), (1920, oT)]) (LF := 10) (F := 100) (av := [.agg #[.int .i64 cf, .int .i64 cd, .int .i64 ct, .int .i64 cg], .agg #[.int .i64 s, .int .i64 f, .int .i64 u, .int .i64 o, .int .i64 g, .int .i64 p], .int .i64 ep, .bool well, .int .i64 now]) (v := Value.tuple #[Value.agg #[Value.int IntKind.i64 2, Value.int IntKind.i64 0, Value.int IntKind.i64 (behind_0 now cd), Value.int IntKind.i64 0, Value.int IntKind.i64 0, Value.int IntKind.i64 (IntKind.i64.wrap (p + 1))], Value.int IntKind.i64 0]) (ps := [(rerrs_0 cf cd ct cg now != 0) = false, (ep != p) = false, (s == 1) = true, well = false, decide (IntKind.i64.wrap (f + 1) ≥ cf) = true]) (call_spec ΨS9_spec mixed 4) mixed (by kernel_rfl) (ob_cons h0 (ob_cons h1 (ob_cons h2 (ob_cons h3 (ob_cons h4 ob_nil))))) (by kernel_rfl) (by kernel_rfl) w).mono ?_
            rintro e w1 ⟨rfl, hb⟩; exact ⟨by simp only [rend_0, rend_1, rend_2, rend_3, rend_4, rend_5, rend_6, h0, h1, h2, h3, h4, cond_true, cond_false], hb⟩
          · refine (calls_orc (call := aCall Try.prog ΨS9 10 100 4) (ω := [(640, oF), (960, oF), (1216, oT), (1280, oF), (1920, oF)]) (LF := 10) (F := 100) (av := [.agg #[.int .i64 cf, .int .i64 cd, .int .i64 ct, .int .i64 cg], .agg #[.int .i64 s, .int .i64 f, .int .i64 u, .int .i64 o, .int .i64 g, .int .i64 p], .int .i64 ep, .bool well, .int .i64 now]) (v := Value.tuple #[Value.agg #[Value.int IntKind.i64 s, Value.int IntKind.i64 (IntKind.i64.wrap (f + 1)), Value.int IntKind.i64 u, Value.int IntKind.i64 o, Value.int IntKind.i64 g, Value.int IntKind.i64 p], Value.int IntKind.i64 0]) (ps := [(rerrs_0 cf cd ct cg now != 0) = false, (ep != p) = false, (s == 1) = true, well = false, decide (IntKind.i64.wrap (f + 1) ≥ cf) = false]) (call_spec ΨS9_spec mixed 4) mixed (by kernel_rfl) (ob_cons h0 (ob_cons h1 (ob_cons h2 (ob_cons h3 (ob_cons h4 ob_nil))))) (by kernel_rfl) (by kernel_rfl) w).mono ?_
            rintro e w1 ⟨rfl, hb⟩; exact ⟨by simp only [rend_0, rend_1, rend_2, rend_3, rend_4, rend_5, rend_6, h0, h1, h2, h3, h4, cond_true, cond_false], hb⟩
      · rcases Bool.eq_false_or_eq_true (s == 3) with h3 | h3
        · rcases Bool.eq_false_or_eq_true (!well) with h4 | h4
          · refine (calls_orc (call := aCall Try.prog ΨS9 10 100 4) (ω := [(640, oF), (960, oF), (1216, oF), (1344, oT), (1856, oT)]) (LF := 10) (F := 100) (av := [.agg #[.int .i64 cf, .int .i64 cd, .int .i64 ct, .int .i64 cg], .agg #[.int .i64 s, .int .i64 f, .int .i64 u, .int .i64 o, .int .i64 g, .int .i64 p], .int .i64 ep, .bool well, .int .i64 now]) (v := Value.tuple #[Value.agg #[Value.int IntKind.i64 2, Value.int IntKind.i64 0, Value.int IntKind.i64 (behind_0 now cd), Value.int IntKind.i64 0, Value.int IntKind.i64 0, Value.int IntKind.i64 (IntKind.i64.wrap (p + 1))], Value.int IntKind.i64 0]) (ps := [(rerrs_0 cf cd ct cg now != 0) = false, (ep != p) = false, (s == 1) = false, (s == 3) = true, (!well) = true]) (call_spec ΨS9_spec mixed 4) mixed (by kernel_rfl) (ob_cons h0 (ob_cons h1 (ob_cons h2 (ob_cons h3 (ob_cons h4 ob_nil))))) (by kernel_rfl) (by kernel_rfl) w).mono ?_
            rintro e w1 ⟨rfl, hb⟩; exact ⟨by simp only [rend_0, rend_1, rend_2, rend_3, rend_4, rend_5, rend_6, h0, h1, h2, h3, h4, cond_true, cond_false], hb⟩
          · rcases Bool.eq_false_or_eq_true (decide (IntKind.i64.wrap (g + 1) ≥ cg)) with h5 | h5
            · refine (calls_orc (call := aCall Try.prog ΨS9 10 100 4) (ω := [(640, oF), (960, oF), (1216, oF), (1344, oT), (1856, oF), (2496, oT)]) (LF := 10) (F := 100) (av := [.agg #[.int .i64 cf, .int .i64 cd, .int .i64 ct, .int .i64 cg], .agg #[.int .i64 s, .int .i64 f, .int .i64 u, .int .i64 o, .int .i64 g, .int .i64 p], .int .i64 ep, .bool well, .int .i64 now]) (v := Value.tuple #[Value.agg #[Value.int IntKind.i64 1, Value.int IntKind.i64 0, Value.int IntKind.i64 0, Value.int IntKind.i64 0, Value.int IntKind.i64 0, Value.int IntKind.i64 (IntKind.i64.wrap (p + 1))], Value.int IntKind.i64 0]) (ps := [(rerrs_0 cf cd ct cg now != 0) = false, (ep != p) = false, (s == 1) = false, (s == 3) = true, (!well) = false, decide (IntKind.i64.wrap (g + 1) ≥ cg) = true]) (call_spec ΨS9_spec mixed 4) mixed (by kernel_rfl) (ob_cons h0 (ob_cons h1 (ob_cons h2 (ob_cons h3 (ob_cons h4 (ob_cons h5 ob_nil)))))) (by kernel_rfl) (by kernel_rfl) w).mono ?_
              rintro e w1 ⟨rfl, hb⟩; exact ⟨by simp only [rend_0, rend_1, rend_2, rend_3, rend_4, rend_5, rend_6, h0, h1, h2, h3, h4, h5, cond_true, cond_false], hb⟩
            · refine (calls_orc (call := aCall Try.prog ΨS9 10 100 4) (ω := [(640, oF), (960, oF), (1216, oF), (1344, oT), (1856, oF), (2496, oF)]) (LF := 10) (F := 100) (av := [.agg #[.int .i64 cf, .int .i64 cd, .int .i64 ct, .int .i64 cg], .agg #[.int .i64 s, .int .i64 f, .int .i64 u, .int .i64 o, .int .i64 g, .int .i64 p], .int .i64 ep, .bool well, .int .i64 now]) (v := Value.tuple #[Value.agg #[Value.int IntKind.i64 s, Value.int IntKind.i64 f, Value.int IntKind.i64 u, Value.int IntKind.i64 (if IntKind.i64.wrap (o - 1) > 0 then IntKind.i64.wrap (o - 1) else 0), Value.int IntKind.i64 (IntKind.i64.wrap (g + 1)), Value.int IntKind.i64 p], Value.int IntKind.i64 0]) (ps := [(rerrs_0 cf cd ct cg now != 0) = false, (ep != p) = false, (s == 1) = false, (s == 3) = true, (!well) = false, decide (IntKind.i64.wrap (g + 1) ≥ cg) = false]) (call_spec ΨS9_spec mixed 4) mixed (by kernel_rfl) (ob_cons h0 (ob_cons h1 (ob_cons h2 (ob_cons h3 (ob_cons h4 (ob_cons h5 ob_nil)))))) (by kernel_rfl) (by kernel_rfl) w).mono ?_
              rintro e w1 ⟨rfl, hb⟩; exact ⟨by simp only [rend_0, rend_1, rend_2, rend_3, rend_4, rend_5, rend_6, h0, h1, h2, h3, h4, h5, cond_true, cond_false], hb⟩
        · refine (calls_orc (call := aCall Try.prog ΨS9 10 100 4) (ω := [(640, oF), (960, oF), (1216, oF), (1344, oF)]) (LF := 10) (F := 100) (av := [.agg #[.int .i64 cf, .int .i64 cd, .int .i64 ct, .int .i64 cg], .agg #[.int .i64 s, .int .i64 f, .int .i64 u, .int .i64 o, .int .i64 g, .int .i64 p], .int .i64 ep, .bool well, .int .i64 now]) (v := Value.tuple #[Value.agg #[Value.int IntKind.i64 s, Value.int IntKind.i64 f, Value.int IntKind.i64 u, Value.int IntKind.i64 o, Value.int IntKind.i64 g, Value.int IntKind.i64 p], Value.int IntKind.i64 0]) (ps := [(rerrs_0 cf cd ct cg now != 0) = false, (ep != p) = false, (s == 1) = false, (s == 3) = false]) (call_spec ΨS9_spec mixed 4) mixed (by kernel_rfl) (ob_cons h0 (ob_cons h1 (ob_cons h2 (ob_cons h3 ob_nil)))) (by kernel_rfl) (by kernel_rfl) w).mono ?_
          rintro e w1 ⟨rfl, hb⟩; exact ⟨by simp only [rend_0, rend_1, rend_2, rend_3, rend_4, rend_5, rend_6, h0, h1, h2, h3, cond_true, cond_false], hb⟩
def ψrend : CallF := fun f args H _ =>
  if f = 62 then match args with
    | [.agg ⟨[.int .i64 cf, .int .i64 cd, .int .i64 ct, .int .i64 cg]⟩, .agg ⟨[.int .i64 s, .int .i64 f, .int .i64 u, .int .i64 o, .int .i64 g, .int .i64 p]⟩, .int .i64 ep, .bool well, .int .i64 now] => some (Value.tuple #[Value.agg #[Value.int IntKind.i64 (rend_0 cf cd ct cg s f u o g p ep well now), Value.int IntKind.i64 (rend_1 cf cd ct cg s f u o g p ep well now), Value.int IntKind.i64 (rend_2 cf cd ct cg s f u o g p ep well now), Value.int IntKind.i64 (rend_3 cf cd ct cg s f u o g p ep well now), Value.int IntKind.i64 (rend_4 cf cd ct cg s f u o g p ep well now), Value.int IntKind.i64 (rend_5 cf cd ct cg s f u o g p ep well now)], Value.int IntKind.i64 (rend_6 cf cd ct cg s f u o g p ep well now)], H)
    | _ => none
  else none
theorem ψrend_spec [Inhabited RawG] : CallSpec Try.prog ψrend := by
  intro g av Hs lo v H1 h D ρ w args hlt hsz hav hw
  unfold ψrend at h
  split at h
  · rename_i hg
    subst hg
    split at h
    · cases h; exact spec_of_pure (fun w => rend_any _ _ _ _ _ _ _ _ _ _ _ _ _ w) (by kernel_rfl) (by kernel_rfl) hsz hav hw
    · cases h
  · cases h
def rpbegin_3 (ce : Int) (cw : Int) (cr : Int) (cf : Int) (up : Bool) (run : Int) (nxt : Int) (out : Bool) (since : Int) (now : Int) : Bool := (bif (rperrs_0 ce cw cr cf now (rdue_0 up run nxt out since now) == 0) then true else out)
def rpbegin_4 (ce : Int) (cw : Int) (cr : Int) (cf : Int) (up : Bool) (run : Int) (nxt : Int) (out : Bool) (since : Int) (now : Int) : Int := (bif (rperrs_0 ce cw cr cf now (rdue_0 up run nxt out since now) == 0) then now else since)
theorem rpbegin_any (ce : Int) (cw : Int) (cr : Int) (cf : Int) (up : Bool) (run : Int) (nxt : Int) (out : Bool) (since : Int) (now : Int) (w : World) : Calls Try.prog 65 #[.agg #[.int .i64 ce, .int .i64 cw, .int .i64 cr, .int .i64 cf], .agg #[.bool up, .int .i64 run, .int .i64 nxt, .bool out, .int .i64 since], .int .i64 now] w (fun e w1 => e = .returned (Value.tuple #[Value.agg #[Value.bool up, Value.int IntKind.i64 run, Value.int IntKind.i64 nxt, Value.bool (rpbegin_3 ce cw cr cf up run nxt out since now), Value.int IntKind.i64 (rpbegin_4 ce cw cr cf up run nxt out since now)], Value.int IntKind.i64 ((rperrs_0 ce cw cr cf now (rdue_0 up run nxt out since now)))]) ∧ Below w.heap.size w w1) := by
  rcases Bool.eq_false_or_eq_true (rperrs_0 ce cw cr cf now (rdue_0 up run nxt out since now) == 0) with h0 | h0
  · refine (calls_orc (call := aCall Try.prog ΨS9 10 100 4) (ω := [(768, oT)]) (LF := 10) (F := 100) (av := [.agg #[.int .i64 ce, .int .i64 cw, .int .i64 cr, .int .i64 cf], .agg #[.bool up, .int .i64 run, .int .i64 nxt, .bool out, .int .i64 since], .int .i64 now]) (v := Value.tuple #[Value.agg #[Value.bool up, Value.int IntKind.i64 run, Value.int IntKind.i64 nxt, Value.bool true, Value.int IntKind.i64 now], Value.int IntKind.i64 (rperrs_0 ce cw cr cf now (rdue_0 up run nxt out since now))]) (ps := [(rperrs_0 ce cw cr cf now (rdue_0 up run nxt out since now) == 0) = true]) (call_spec ΨS9_spec mixed 4) mixed (by kernel_rfl) (ob_cons h0 ob_nil) (by kernel_rfl) (by kernel_rfl) w).mono ?_
    rintro e w1 ⟨rfl, hb⟩; exact ⟨by simp only [rpbegin_3, rpbegin_4, h0, cond_true, cond_false], hb⟩
  · refine (calls_orc (call := aCall Try.prog ΨS9 10 100 4) (ω := [(768, oF)]) (LF := 10) (F := 100) (av := [.agg #[.int .i64 ce, .int .i64 cw, .int .i64 cr, .int .i64 cf], .agg #[.bool up, .int .i64 run, .int .i64 nxt, .bool out, .int .i64 since], .int .i64 now]) (v := Value.tuple #[Value.agg #[Value.bool up, Value.int IntKind.i64 run, Value.int IntKind.i64 nxt, Value.bool out, Value.int IntKind.i64 since], Value.int IntKind.i64 (rperrs_0 ce cw cr cf now (rdue_0 up run nxt out since now))]) (ps := [(rperrs_0 ce cw cr cf now (rdue_0 up run nxt out since now) == 0) = false]) (call_spec ΨS9_spec mixed 4) mixed (by kernel_rfl) (ob_cons h0 ob_nil) (by kernel_rfl) (by kernel_rfl) w).mono ?_
    rintro e w1 ⟨rfl, hb⟩; exact ⟨by simp only [rpbegin_3, rpbegin_4, h0, cond_true, cond_false], hb⟩
def ψrpbegin : CallF := fun f args H _ =>
  if f = 65 then match args with
    | [.agg ⟨[.int .i64 ce, .int .i64 cw, .int .i64 cr, .int .i64 cf]⟩, .agg ⟨[.bool up, .int .i64 run, .int .i64 nxt, .bool out, .int .i64 since]⟩, .int .i64 now] => some (Value.tuple #[Value.agg #[Value.bool up, Value.int IntKind.i64 run, Value.int IntKind.i64 nxt, Value.bool (rpbegin_3 ce cw cr cf up run nxt out since now), Value.int IntKind.i64 (rpbegin_4 ce cw cr cf up run nxt out since now)], Value.int IntKind.i64 ((rperrs_0 ce cw cr cf now (rdue_0 up run nxt out since now)))], H)
    | _ => none
  else none
theorem ψrpbegin_spec [Inhabited RawG] : CallSpec Try.prog ψrpbegin := by
  intro g av Hs lo v H1 h D ρ w args hlt hsz hav hw
  unfold ψrpbegin at h
  split at h
  · rename_i hg
    subst hg
    split at h
    · cases h; exact spec_of_pure (fun w => rpbegin_any _ _ _ _ _ _ _ _ _ _ w) (by kernel_rfl) (by kernel_rfl) hsz hav hw
    · cases h
  · cases h
def rpend_0 (ce : Int) (cw : Int) (cr : Int) (cf : Int) (up : Bool) (run : Int) (nxt : Int) (out : Bool) (since : Int) (well : Bool) (now : Int) : Bool := (bif (up) then (bif (rperrs_0 ce cw cr cf now out != 0) then true else (bif (well == true) then true else (bif (decide (IntKind.i64.wrap (run + 1) ≥ cf)) then false else true))) else (bif (rperrs_0 ce cw cr cf now out != 0) then false else (bif (well == false) then false else (bif (decide (IntKind.i64.wrap (run + 1) ≥ cr)) then true else false))))
def rpend_1 (ce : Int) (cw : Int) (cr : Int) (cf : Int) (up : Bool) (run : Int) (nxt : Int) (out : Bool) (since : Int) (well : Bool) (now : Int) : Int := (bif (up) then (bif (rperrs_0 ce cw cr cf now out != 0) then run else (bif (well == true) then 0 else (bif (decide (IntKind.i64.wrap (run + 1) ≥ cf)) then 0 else (IntKind.i64.wrap (run + 1))))) else (bif (rperrs_0 ce cw cr cf now out != 0) then run else (bif (well == false) then 0 else (bif (decide (IntKind.i64.wrap (run + 1) ≥ cr)) then 0 else (IntKind.i64.wrap (run + 1))))))
def rpend_2 (ce : Int) (cw : Int) (cr : Int) (cf : Int) (up : Bool) (run : Int) (nxt : Int) (out : Bool) (since : Int) (well : Bool) (now : Int) : Int := (bif (up) then (bif (rperrs_0 ce cw cr cf now out != 0) then nxt else (bif (well == true) then (behind_0 now ce) else (bif (decide (IntKind.i64.wrap (run + 1) ≥ cf)) then (behind_0 now ce) else (behind_0 now ce)))) else (bif (rperrs_0 ce cw cr cf now out != 0) then nxt else (bif (well == false) then (behind_0 now ce) else (bif (decide (IntKind.i64.wrap (run + 1) ≥ cr)) then (behind_0 now ce) else (behind_0 now ce)))))
def rpend_3 (ce : Int) (cw : Int) (cr : Int) (cf : Int) (up : Bool) (run : Int) (nxt : Int) (out : Bool) (since : Int) (well : Bool) (now : Int) : Bool := (bif (up) then (bif (rperrs_0 ce cw cr cf now out != 0) then out else (bif (well == true) then false else (bif (decide (IntKind.i64.wrap (run + 1) ≥ cf)) then false else false))) else (bif (rperrs_0 ce cw cr cf now out != 0) then out else (bif (well == false) then false else (bif (decide (IntKind.i64.wrap (run + 1) ≥ cr)) then false else false))))
def rpend_4 (ce : Int) (cw : Int) (cr : Int) (cf : Int) (up : Bool) (run : Int) (nxt : Int) (out : Bool) (since : Int) (well : Bool) (now : Int) : Int := (bif (up) then (bif (rperrs_0 ce cw cr cf now out != 0) then since else (bif (well == true) then 0 else (bif (decide (IntKind.i64.wrap (run + 1) ≥ cf)) then 0 else 0))) else (bif (rperrs_0 ce cw cr cf now out != 0) then since else (bif (well == false) then 0 else (bif (decide (IntKind.i64.wrap (run + 1) ≥ cr)) then 0 else 0))))
def rpend_5 (ce : Int) (cw : Int) (cr : Int) (cf : Int) (up : Bool) (run : Int) (nxt : Int) (out : Bool) (since : Int) (well : Bool) (now : Int) : Int := (bif (up) then (bif (rperrs_0 ce cw cr cf now out != 0) then (rperrs_0 ce cw cr cf now out) else (bif (well == true) then 0 else (bif (decide (IntKind.i64.wrap (run + 1) ≥ cf)) then 0 else 0))) else (bif (rperrs_0 ce cw cr cf now out != 0) then (rperrs_0 ce cw cr cf now out) else (bif (well == false) then 0 else (bif (decide (IntKind.i64.wrap (run + 1) ≥ cr)) then 0 else 0))))
theorem rpend_any (ce : Int) (cw : Int) (cr : Int) (cf : Int) (up : Bool) (run : Int) (nxt : Int) (out : Bool) (since : Int) (well : Bool) (now : Int) (w : World) : Calls Try.prog 66 #[.agg #[.int .i64 ce, .int .i64 cw, .int .i64 cr, .int .i64 cf], .agg #[.bool up, .int .i64 run, .int .i64 nxt, .bool out, .int .i64 since], .bool well, .int .i64 now] w (fun e w1 => e = .returned (Value.tuple #[Value.agg #[Value.bool (rpend_0 ce cw cr cf up run nxt out since well now), Value.int IntKind.i64 (rpend_1 ce cw cr cf up run nxt out since well now), Value.int IntKind.i64 (rpend_2 ce cw cr cf up run nxt out since well now), Value.bool (rpend_3 ce cw cr cf up run nxt out since well now), Value.int IntKind.i64 (rpend_4 ce cw cr cf up run nxt out since well now)], Value.int IntKind.i64 (rpend_5 ce cw cr cf up run nxt out since well now)]) ∧ Below w.heap.size w w1) := by
  cases up with
  | true =>
    rcases Bool.eq_false_or_eq_true (rperrs_0 ce cw cr cf now out != 0) with h1 | h1
    · refine (calls_orc (call := aCall Try.prog ΨS9 10 100 4) (ω := [(704, oT)]) (LF := 10) (F := 100) (av := [.agg #[.int .i64 ce, .int .i64 cw, .int .i64 cr, .int .i64 cf], .agg #[.bool true, .int .i64 run, .int .i64 nxt, .bool out, .int .i64 since], .bool well, .int .i64 now]) (v := Value.tuple #[Value.agg #[Value.bool true, Value.int IntKind.i64 run, Value.int IntKind.i64 nxt, Value.bool out, Value.int IntKind.i64 since], Value.int IntKind.i64 (rperrs_0 ce cw cr cf now out)]) (ps := [(rperrs_0 ce cw cr cf now out != 0) = true]) (call_spec ΨS9_spec mixed 4) mixed (by kernel_rfl) (ob_cons h1 ob_nil) (by kernel_rfl) (by kernel_rfl) w).mono ?_
      rintro e w1 ⟨rfl, hb⟩; exact ⟨by simp only [rpend_0, rpend_1, rpend_2, rpend_3, rpend_4, rpend_5, h1, cond_true, cond_false], hb⟩
    · rcases Bool.eq_false_or_eq_true (well == true) with h2 | h2
      · refine (calls_orc (call := aCall Try.prog ΨS9 10 100 4) (ω := [(704, oF), (1600, oT)]) (LF := 10) (F := 100) (av := [.agg #[.int .i64 ce, .int .i64 cw, .int .i64 cr, .int .i64 cf], .agg #[.bool true, .int .i64 run, .int .i64 nxt, .bool out, .int .i64 since], .bool well, .int .i64 now]) (v := Value.tuple #[Value.agg #[Value.bool true, Value.int IntKind.i64 0, Value.int IntKind.i64 (behind_0 now ce), Value.bool false, Value.int IntKind.i64 0], Value.int IntKind.i64 0]) (ps := [(rperrs_0 ce cw cr cf now out != 0) = false, (well == true) = true]) (call_spec ΨS9_spec mixed 4) mixed (by kernel_rfl) (ob_cons h1 (ob_cons h2 ob_nil)) (by kernel_rfl) (by kernel_rfl) w).mono ?_
        rintro e w1 ⟨rfl, hb⟩; exact ⟨by simp only [rpend_0, rpend_1, rpend_2, rpend_3, rpend_4, rpend_5, h1, h2, cond_true, cond_false], hb⟩
      · rcases Bool.eq_false_or_eq_true (decide (IntKind.i64.wrap (run + 1) ≥ cf)) with h3 | h3
        · refine (calls_orc (call := aCall Try.prog ΨS9 10 100 4) (ω := [(704, oF), (1600, oF), (2688, oT)]) (LF := 10) (F := 100) (av := [.agg #[.int .i64 ce, .int .i64 cw, .int .i64 cr, .int .i64 cf], .agg #[.bool true, .int .i64 run, .int .i64 nxt, .bool out, .int .i64 since], .bool well, .int .i64 now]) (v := Value.tuple #[Value.agg #[Value.bool false, Value.int IntKind.i64 0, Value.int IntKind.i64 (behind_0 now ce), Value.bool false, Value.int IntKind.i64 0], Value.int IntKind.i64 0]) (ps := [(rperrs_0 ce cw cr cf now out != 0) = false, (well == true) = false, decide (IntKind.i64.wrap (run + 1) ≥ cf) = true]) (call_spec ΨS9_spec mixed 4) mixed (by kernel_rfl) (ob_cons h1 (ob_cons h2 (ob_cons h3 ob_nil))) (by kernel_rfl) (by kernel_rfl) w).mono ?_
          rintro e w1 ⟨rfl, hb⟩; exact ⟨by simp only [rpend_0, rpend_1, rpend_2, rpend_3, rpend_4, rpend_5, h1, h2, h3, cond_true, cond_false], hb⟩
        · refine (calls_orc (call := aCall Try.prog ΨS9 10 100 4) (ω := [(704, oF), (1600, oF), (2688, oF)]) (LF := 10) (F := 100) (av := [.agg #[.int .i64 ce, .int .i64 cw, .int .i64 cr, .int .i64 cf], .agg #[.bool true, .int .i64 run, .int .i64 nxt, .bool out, .int .i64 since], .bool well, .int .i64 now]) (v := Value.tuple #[Value.agg #[Value.bool true, Value.int IntKind.i64 (IntKind.i64.wrap (run + 1)), Value.int IntKind.i64 (behind_0 now ce), Value.bool false, Value.int IntKind.i64 0], Value.int IntKind.i64 0]) (ps := [(rperrs_0 ce cw cr cf now out != 0) = false, (well == true) = false, decide (IntKind.i64.wrap (run + 1) ≥ cf) = false]) (call_spec ΨS9_spec mixed 4) mixed (by kernel_rfl) (ob_cons h1 (ob_cons h2 (ob_cons h3 ob_nil))) (by kernel_rfl) (by kernel_rfl) w).mono ?_
          rintro e w1 ⟨rfl, hb⟩; exact ⟨by simp only [rpend_0, rpend_1, rpend_2, rpend_3, rpend_4, rpend_5, h1, h2, h3, cond_true, cond_false], hb⟩
  | false =>
    rcases Bool.eq_false_or_eq_true (rperrs_0 ce cw cr cf now out != 0) with h1 | h1
    · refine (calls_orc (call := aCall Try.prog ΨS9 10 100 4) (ω := [(704, oT)]) (LF := 10) (F := 100) (av := [.agg #[.int .i64 ce, .int .i64 cw, .int .i64 cr, .int .i64 cf], .agg #[.bool false, .int .i64 run, .int .i64 nxt, .bool out, .int .i64 since], .bool well, .int .i64 now]) (v := Value.tuple #[Value.agg #[Value.bool false, Value.int IntKind.i64 run, Value.int IntKind.i64 nxt, Value.bool out, Value.int IntKind.i64 since], Value.int IntKind.i64 (rperrs_0 ce cw cr cf now out)]) (ps := [(rperrs_0 ce cw cr cf now out != 0) = true]) (call_spec ΨS9_spec mixed 4) mixed (by kernel_rfl) (ob_cons h1 ob_nil) (by kernel_rfl) (by kernel_rfl) w).mono ?_
      rintro e w1 ⟨rfl, hb⟩; exact ⟨by simp only [rpend_0, rpend_1, rpend_2, rpend_3, rpend_4, rpend_5, h1, cond_true, cond_false], hb⟩
    · rcases Bool.eq_false_or_eq_true (well == false) with h2 | h2
      · refine (calls_orc (call := aCall Try.prog ΨS9 10 100 4) (ω := [(704, oF), (1600, oT)]) (LF := 10) (F := 100) (av := [.agg #[.int .i64 ce, .int .i64 cw, .int .i64 cr, .int .i64 cf], .agg #[.bool false, .int .i64 run, .int .i64 nxt, .bool out, .int .i64 since], .bool well, .int .i64 now]) (v := Value.tuple #[Value.agg #[Value.bool false, Value.int IntKind.i64 0, Value.int IntKind.i64 (behind_0 now ce), Value.bool false, Value.int IntKind.i64 0], Value.int IntKind.i64 0]) (ps := [(rperrs_0 ce cw cr cf now out != 0) = false, (well == false) = true]) (call_spec ΨS9_spec mixed 4) mixed (by kernel_rfl) (ob_cons h1 (ob_cons h2 ob_nil)) (by kernel_rfl) (by kernel_rfl) w).mono ?_
        rintro e w1 ⟨rfl, hb⟩; exact ⟨by simp only [rpend_0, rpend_1, rpend_2, rpend_3, rpend_4, rpend_5, h1, h2, cond_true, cond_false], hb⟩
      · rcases Bool.eq_false_or_eq_true (decide (IntKind.i64.wrap (run + 1) ≥ cr)) with h3 | h3
        · refine (calls_orc (call := aCall Try.prog ΨS9 10 100 4) (ω := [(704, oF), (1600, oF), (2496, oT)]) (LF := 10) (F := 100) (av := [.agg #[.int .i64 ce, .int .i64 cw, .int .i64 cr, .int .i64 cf], .agg #[.bool false, .int .i64 run, .int .i64 nxt, .bool out, .int .i64 since], .bool well, .int .i64 now]) (v := Value.tuple #[Value.agg #[Value.bool true, Value.int IntKind.i64 0, Value.int IntKind.i64 (behind_0 now ce), Value.bool false, Value.int IntKind.i64 0], Value.int IntKind.i64 0]) (ps := [(rperrs_0 ce cw cr cf now out != 0) = false, (well == false) = false, decide (IntKind.i64.wrap (run + 1) ≥ cr) = true]) (call_spec ΨS9_spec mixed 4) mixed (by kernel_rfl) (ob_cons h1 (ob_cons h2 (ob_cons h3 ob_nil))) (by kernel_rfl) (by kernel_rfl) w).mono ?_
          rintro e w1 ⟨rfl, hb⟩; exact ⟨by simp only [rpend_0, rpend_1, rpend_2, rpend_3, rpend_4, rpend_5, h1, h2, h3, cond_true, cond_false], hb⟩
        · refine (calls_orc (call := aCall Try.prog ΨS9 10 100 4) (ω := [(704, oF), (1600, oF), (2496, oF)]) (LF := 10) (F := 100) (av := [.agg #[.int .i64 ce, .int .i64 cw, .int .i64 cr, .int .i64 cf], .agg #[.bool false, .int .i64 run, .int .i64 nxt, .bool out, .int .i64 since], .bool well, .int .i64 now]) (v := Value.tuple #[Value.agg #[Value.bool false, Value.int IntKind.i64 (IntKind.i64.wrap (run + 1)), Value.int IntKind.i64 (behind_0 now ce), Value.bool false, Value.int IntKind.i64 0], Value.int IntKind.i64 0]) (ps := [(rperrs_0 ce cw cr cf now out != 0) = false, (well == false) = false, decide (IntKind.i64.wrap (run + 1) ≥ cr) = false]) (call_spec ΨS9_spec mixed 4) mixed (by kernel_rfl) (ob_cons h1 (ob_cons h2 (ob_cons h3 ob_nil))) (by kernel_rfl) (by kernel_rfl) w).mono ?_
          rintro e w1 ⟨rfl, hb⟩; exact ⟨by simp only [rpend_0, rpend_1, rpend_2, rpend_3, rpend_4, rpend_5, h1, h2, h3, cond_true, cond_false], hb⟩
def ψrpend : CallF := fun f args H _ =>
  if f = 66 then match args with
    | [.agg ⟨[.int .i64 ce, .int .i64 cw, .int .i64 cr, .int .i64 cf]⟩, .agg ⟨[.bool up, .int .i64 run, .int .i64 nxt, .bool out, .int .i64 since]⟩, .bool well, .int .i64 now] => some (Value.tuple #[Value.agg #[Value.bool (rpend_0 ce cw cr cf up run nxt out since well now), Value.int IntKind.i64 (rpend_1 ce cw cr cf up run nxt out since well now), Value.int IntKind.i64 (rpend_2 ce cw cr cf up run nxt out since well now), Value.bool (rpend_3 ce cw cr cf up run nxt out since well now), Value.int IntKind.i64 (rpend_4 ce cw cr cf up run nxt out since well now)], Value.int IntKind.i64 (rpend_5 ce cw cr cf up run nxt out since well now)], H)
    | _ => none
  else none
theorem ψrpend_spec [Inhabited RawG] : CallSpec Try.prog ψrpend := by
  intro g av Hs lo v H1 h D ρ w args hlt hsz hav hw
  unfold ψrpend at h
  split at h
  · rename_i hg
    subst hg
    split at h
    · cases h; exact spec_of_pure (fun w => rpend_any _ _ _ _ _ _ _ _ _ _ _ w) (by kernel_rfl) (by kernel_rfl) hsz hav hw
    · cases h
  · cases h
def ΨSA_0 : CallF := orΨ ψrbegin ΨS9
theorem ΨSA_0_spec [Inhabited RawG] : CallSpec Try.prog ΨSA_0 := orΨ_spec ψrbegin_spec ΨS9_spec
def ΨSA_1 : CallF := orΨ ψrend ΨSA_0
theorem ΨSA_1_spec [Inhabited RawG] : CallSpec Try.prog ΨSA_1 := orΨ_spec ψrend_spec ΨSA_0_spec
def ΨSA_2 : CallF := orΨ ψrpbegin ΨSA_1
theorem ΨSA_2_spec [Inhabited RawG] : CallSpec Try.prog ΨSA_2 := orΨ_spec ψrpbegin_spec ΨSA_1_spec
def ΨSA : CallF := orΨ ψrpend ΨSA_2
theorem ΨSA_spec [Inhabited RawG] : CallSpec Try.prog ΨSA := orΨ_spec ψrpend_spec ΨSA_2_spec
end
end Go.Proofs.Ytadpnamooajpoaa
