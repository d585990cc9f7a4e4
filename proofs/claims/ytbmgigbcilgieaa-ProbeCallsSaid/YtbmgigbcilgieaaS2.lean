/- Contracts that the engine has found; their texts are a program's. -/
import Derived.Test.YtbmgigbcilgieaaS1
import Derived.Test.YtbmgigbcilgieaaProg
namespace Go.Proofs.Ytbmgigbcilgieaa
open Go.RowKit
set_option linter.unusedVariables false
set_option maxRecDepth 100000
def check_0 (ce : Int) (cw : Int) (cr : Int) (cf : Int) : Int := (bif (within_0 ce 253402300799) then (bif (within_0 cw 253402300799) then (bif (within_0 cr 1048576) then (bif (within_0 cf 1048576) then 0 else 210) else 210) else 210) else 210)
theorem check_any (ce : Int) (cw : Int) (cr : Int) (cf : Int) (w : World) : Calls Try.prog 9 #[.agg #[.int .i64 ce, .int .i64 cw, .int .i64 cr, .int .i64 cf]] w (fun e w1 => e = .returned (Value.int IntKind.i64 (check_0 ce cw cr cf)) ∧ Below w.heap.size w w1) := by
  rcases Bool.eq_false_or_eq_true (within_0 ce 253402300799) with h0 | h0
  · rcases Bool.eq_false_or_eq_true (within_0 cw 253402300799) with h1 | h1
    · rcases Bool.eq_false_or_eq_true (within_0 cr 1048576) with h2 | h2
      · rcases Bool.eq_false_or_eq_true (within_0 cf 1048576) with h3 | h3
        · refine (calls_orc (call := aCall Try.prog ΨS1 10 100 4) (ω := [(256, .soft (.bool true)), (576, .soft (.bool true)), (960, .soft (.bool true)), (1344, .soft (.bool true))]) (LF := 10) (F := 100) (av := [.agg #[.int .i64 ce, .int .i64 cw, .int .i64 cr, .int .i64 cf]]) (v := Value.int IntKind.i64 0) (ps := [(within_0 ce 253402300799) = true, (within_0 cw 253402300799) = true, (within_0 cr 1048576) = true, (within_0 cf 1048576) = true]) (call_spec ΨS1_spec mixed 4) mixed (by kernel_rfl) (ob_cons h0 (ob_cons h1 (ob_cons h2 (ob_cons h3 ob_nil)))) (by kernel_rfl) (by kernel_rfl) w).mono ?_
          rintro e w1 ⟨rfl, hb⟩; exact ⟨by simp only [check_0, h0, h1, h2, h3, cond_true, cond_false], hb⟩
        · refine (calls_orc (call := aCall Try.prog ΨS1 10 100 4) (ω := [(256, .soft (.bool true)), (576, .soft (.bool true)), (960, .soft (.bool true)), (1344, .soft (.bool false))]) (LF := 10) (F := 100) (av := [.agg #[.int .i64 ce, .int .i64 cw, .int .i64 cr, .int .i64 cf]]) (v := Value.int IntKind.i64 210) (ps := [(within_0 ce 253402300799) = true, (within_0 cw 253402300799) = true, (within_0 cr 1048576) = true, (within_0 cf 1048576) = false]) (call_spec ΨS1_spec mixed 4) mixed (by kernel_rfl) (ob_cons h0 (ob_cons h1 (ob_cons h2 (ob_cons h3 ob_nil)))) (by kernel_rfl) (by kernel_rfl) w).mono ?_
          rintro e w1 ⟨rfl, hb⟩; exact ⟨by simp only [check_0, h0, h1, h2, h3, cond_true, cond_false], hb⟩
      · refine (calls_orc (call := aCall Try.prog ΨS1 10 100 4) (ω := [(256, .soft (.bool true)), (576, .soft (.bool true)), (960, .soft (.bool false))]) (LF := 10) (F := 100) (av := [.agg #[.int .i64 ce, .int .i64 cw, .int .i64 cr, .int .i64 cf]]) (v := Value.int IntKind.i64 210) (ps := [(within_0 ce 253402300799) = true, (within_0 cw 253402300799) = true, (within_0 cr 1048576) = false]) (call_spec ΨS1_spec mixed 4) mixed (by kernel_rfl) (ob_cons h0 (ob_cons h1 (ob_cons h2 ob_nil))) (by kernel_rfl) (by kernel_rfl) w).mono ?_
        rintro e w1 ⟨rfl, hb⟩; exact ⟨by simp only [check_0, h0, h1, h2, cond_true, cond_false], hb⟩
    · refine (calls_orc (call := aCall Try.prog ΨS1 10 100 4) (ω := [(256, .soft (.bool true)), (576, .soft (.bool false))]) (LF := 10) (F := 100) (av := [.agg #[.int .i64 ce, .int .i64 cw, .int .i64 cr, .int .i64 cf]]) (v := Value.int IntKind.i64 210) (ps := [(within_0 ce 253402300799) = true, (within_0 cw 253402300799) = false]) (call_spec ΨS1_spec mixed 4) mixed (by kernel_rfl) (ob_cons h0 (ob_cons h1 ob_nil)) (by kernel_rfl) (by kernel_rfl) w).mono ?_
      rintro e w1 ⟨rfl, hb⟩; exact ⟨by simp only [check_0, h0, h1, cond_true, cond_false], hb⟩
  · refine (calls_orc (call := aCall Try.prog ΨS1 10 100 4) (ω := [(256, .soft (.bool false))]) (LF := 10) (F := 100) (av := [.agg #[.int .i64 ce, .int .i64 cw, .int .i64 cr, .int .i64 cf]]) (v := Value.int IntKind.i64 210) (ps := [(within_0 ce 253402300799) = false]) (call_spec ΨS1_spec mixed 4) mixed (by kernel_rfl) (ob_cons h0 ob_nil) (by kernel_rfl) (by kernel_rfl) w).mono ?_
    rintro e w1 ⟨rfl, hb⟩; exact ⟨by simp only [check_0, h0, cond_true, cond_false], hb⟩
def ψcheck : CallF := fun f args H _ =>
  if f = 9 then match args with
    | [.agg ⟨[.int .i64 ce, .int .i64 cw, .int .i64 cr, .int .i64 cf]⟩] => some (Value.int IntKind.i64 (check_0 ce cw cr cf), H)
    | _ => none
  else none
theorem ψcheck_spec : CallSpec Try.prog ψcheck := by
  intro g av Hs lo v H1 h D ρ w args hlt hsz hav hw
  unfold ψcheck at h
  split at h
  · rename_i hg
    subst hg
    split at h
    · cases h; exact spec_of_pure (fun w => check_any _ _ _ _ w) (by kernel_rfl) (by kernel_rfl) hsz hav hw
    · cases h
  · cases h
def rcheck_0 (ce : Int) (cw : Int) (cr : Int) (cf : Int) : Int := (bif (decide (ce < 1)) then 210 else (bif (decide (ce > 253402300799)) then 210 else (bif (decide (cw < 1)) then 210 else (bif (decide (cw > 253402300799)) then 210 else (bif (decide (cr < 1)) then 210 else (bif (decide (cr > 1048576)) then 210 else (bif (decide (cf < 1)) then 210 else (bif (decide (cf > 1048576)) then 210 else 0))))))))
theorem rcheck_any (ce : Int) (cw : Int) (cr : Int) (cf : Int) (w : World) : Calls Try.prog 19 #[.agg #[.int .i64 ce, .int .i64 cw, .int .i64 cr, .int .i64 cf]] w (fun e w1 => e = .returned (Value.int IntKind.i64 (rcheck_0 ce cw cr cf)) ∧ Below w.heap.size w w1) := by
  rcases Bool.eq_false_or_eq_true (decide (ce < 1)) with h0 | h0
  · refine (calls_orc (call := aCall Try.prog ΨS1 10 100 4) (ω := [(256, .soft (.bool true))]) (LF := 10) (F := 100) (av := [.agg #[.int .i64 ce, .int .i64 cw, .int .i64 cr, .int .i64 cf]]) (v := Value.int IntKind.i64 210) (ps := [(decide (ce < 1)) = true]) (call_spec ΨS1_spec mixed 4) mixed (by kernel_rfl) (ob_cons h0 ob_nil) (by kernel_rfl) (by kernel_rfl) w).mono ?_
    rintro e w1 ⟨rfl, hb⟩; exact ⟨by simp only [rcheck_0, h0, cond_true, cond_false], hb⟩
  · rcases Bool.eq_false_or_eq_true (decide (ce > 253402300799)) with h1 | h1
    · refine (calls_orc (call := aCall Try.prog ΨS1 10 100 4) (ω := [(256, .soft (.bool false)), (512, .soft (.bool true))]) (LF := 10) (F := 100) (av := [.agg #[.int .i64 ce, .int .i64 cw, .int .i64 cr, .int .i64 cf]]) (v := Value.int IntKind.i64 210) (ps := [(decide (ce < 1)) = false, (decide (ce > 253402300799)) = true]) (call_spec ΨS1_spec mixed 4) mixed (by kernel_rfl) (ob_cons h0 (ob_cons h1 ob_nil)) (by kernel_rfl) (by kernel_rfl) w).mono ?_
      rintro e w1 ⟨rfl, hb⟩; exact ⟨by simp only [rcheck_0, h0, h1, cond_true, cond_false], hb⟩
    · rcases Bool.eq_false_or_eq_true (decide (cw < 1)) with h2 | h2
      · refine (calls_orc (call := aCall Try.prog ΨS1 10 100 4) (ω := [(256, .soft (.bool false)), (512, .soft (.bool false)), (832, .soft (.bool true))]) (LF := 10) (F := 100) (av := [.agg #[.int .i64 ce, .int .i64 cw, .int .i64 cr, .int .i64 cf]]) (v := Value.int IntKind.i64 210) (ps := [(decide (ce < 1)) = false, (decide (ce > 253402300799)) = false, (decide (cw < 1)) = true]) (call_spec ΨS1_spec mixed 4) mixed (by kernel_rfl) (ob_cons h0 (ob_cons h1 (ob_cons h2 ob_nil))) (by kernel_rfl) (by kernel_rfl) w).mono ?_
        rintro e w1 ⟨rfl, hb⟩; exact ⟨by simp only [rcheck_0, h0, h1, h2, cond_true, cond_false], hb⟩
      · rcases Bool.eq_false_or_eq_true (decide (cw > 253402300799)) with h3 | h3
        · refine (calls_orc (call := aCall Try.prog ΨS1 10 100 4) (ω := [(256, .soft (.bool false)), (512, .soft (.bool false)), (832, .soft (.bool false)), (1152, .soft (.bool true))]) (LF := 10) (F := 100) (av := [.agg #[.int .i64 ce, .int .i64 cw, .int .i64 cr, .int .i64 cf]]) (v := Value.int IntKind.i64 210) (ps := [(decide (ce < 1)) = false, (decide (ce > 253402300799)) = false, (decide (cw < 1)) = false, (decide (cw > 253402300799)) = true]) (call_spec ΨS1_spec mixed 4) mixed (by kernel_rfl) (ob_cons h0 (ob_cons h1 (ob_cons h2 (ob_cons h3 ob_nil)))) (by kernel_rfl) (by kernel_rfl) w).mono ?_
          rintro e w1 ⟨rfl, hb⟩; exact ⟨by simp only [rcheck_0, h0, h1, h2, h3, cond_true, cond_false], hb⟩
        · rcases Bool.eq_false_or_eq_true (decide (cr < 1)) with h4 | h4
          · refine (calls_orc (call := aCall Try.prog ΨS1 10 100 4) (ω := [(256, .soft (.bool false)), (512, .soft (.bool false)), (832, .soft (.bool false)), (1152, .soft (.bool false)), (1472, .soft (.bool true))]) (LF := 10) (F := 100) (av := [.agg #[.int .i64 ce, .int .i64 cw, .int .i64 cr, .int .i64 cf]]) (v := Value.int IntKind.i64 210) (ps := [(decide (ce < 1)) = false, (decide (ce > 253402300799)) = false, (decide (cw < 1)) = false, (decide (cw > 253402300799)) = false, (decide (cr < 1)) = true]) (call_spec ΨS1_spec mixed 4) mixed (by kernel_rfl) (ob_cons h0 (ob_cons h1 (ob_cons h2 (ob_cons h3 (ob_cons h4 ob_nil))))) (by kernel_rfl) (by kernel_rfl) w).mono ?_
            rintro e w1 ⟨rfl, hb⟩; exact ⟨by simp only [rcheck_0, h0, h1, h2, h3, h4, cond_true, cond_false], hb⟩
          · rcases Bool.eq_false_or_eq_true (decide (cr > 1048576)) with h5 | h5
            · refine (calls_orc (call := aCall Try.prog ΨS1 10 100 4) (ω := [(256, .soft (.bool false)), (512, .soft (.bool false)), (832, .soft (.bool false)), (1152, .soft (.bool false)), (1472, .soft (.bool false)), (1792, .soft (.bool true))]) (LF := 10) (F := 100) (av := [.agg #[.int .i64 ce, .int .i64 cw, .int .i64 cr, .int .i64 cf]]) (v := Value.int IntKind.i64 210) (ps := [(decide (ce < 1)) = false, (decide (ce > 253402300799)) = false, (decide (cw < 1)) = false, (decide (cw > 253402300799)) = false, (decide (cr < 1)) = false, (decide (cr > 1048576)) = true]) (call_spec ΨS1_spec mixed 4) mixed (by kernel_rfl) (ob_cons h0 (ob_cons h1 (ob_cons h2 (ob_cons h3 (ob_cons h4 (ob_cons h5 ob_nil)))))) (by kernel_rfl) (by kernel_rfl) w).mono ?_
              rintro e w1 ⟨rfl, hb⟩; exact ⟨by simp only [rcheck_0, h0, h1, h2, h3, h4, h5, cond_true, cond_false], hb⟩
            · rcases Bool.eq_false_or_eq_true (decide (cf < 1)) with h6 | h6
              · refine (calls_orc (call := aCall Try.prog ΨS1 10 100 4) (ω := [(256, .soft (.bool false)), (512, .soft (.bool false)), (832, .soft (.bool false)), (1152, .soft (.bool false)), (1472, .soft (.bool false)), (1792, .soft (.bool false)), (2112, .soft (.bool true))]) (LF := 10) (F := 100) (av := [.agg #[.int .i64 ce, .int .i64 cw, .int .i64 cr, .int .i64 cf]]) (v := Value.int IntKind.i64 210) (ps := [(decide (ce < 1)) = false, (decide (ce > 253402300799)) = false, (decide (cw < 1)) = false, (decide (cw > 253402300799)) = false, (decide (cr < 1)) = false, (decide (cr > 1048576)) = false, (decide (cf < 1)) = true]) (call_spec ΨS1_spec mixed 4) mixed (by kernel_rfl) (ob_cons h0 (ob_cons h1 (ob_cons h2 (ob_cons h3 (ob_cons h4 (ob_cons h5 (ob_cons h6 ob_nil))))))) (by kernel_rfl) (by kernel_rfl) w).mono ?_
                rintro e w1 ⟨rfl, hb⟩; exact ⟨by simp only [rcheck_0, h0, h1, h2, h3, h4, h5, h6, cond_true, cond_false], hb⟩
              · rcases Bool.eq_false_or_eq_true (decide (cf > 1048576)) with h7 | h7
                · refine (calls_orc (call := aCall Try.prog ΨS1 10 100 4) (ω := [(256, .soft (.bool false)), (512, .soft (.bool false)), (832, .soft (.bool false)), (1152, .soft (.bool false)), (1472, .soft (.bool false)), (1792, .soft (.bool false)), (2112, .soft (.bool false)), (2432, .soft (.bool true))]) (LF := 10) (F := 100) (av := [.agg #[.int .i64 ce, .int .i64 cw, .int .i64 cr, .int .i64 cf]]) (v := Value.int IntKind.i64 210) (ps := [(decide (ce < 1)) = false, (decide (ce > 253402300799)) = false, (decide (cw < 1)) = false, (decide (cw > 253402300799)) = false, (decide (cr < 1)) = false, (decide (cr > 1048576)) = false, (decide (cf < 1)) = false, (decide (cf > 1048576)) = true]) (call_spec ΨS1_spec mixed 4) mixed (by kernel_rfl) (ob_cons h0 (ob_cons h1 (ob_cons h2 (ob_cons h3 (ob_cons h4 (ob_cons h5 (ob_cons h6 (ob_cons h7 ob_nil)))))))) (by kernel_rfl) (by kernel_rfl) w).mono ?_
                  rintro e w1 ⟨rfl, hb⟩; exact ⟨by simp only [rcheck_0, h0, h1, h2, h3, h4, h5, h6, h7, cond_true, cond_false], hb⟩
                · refine (calls_orc (call := aCall Try.prog ΨS1 10 100 4) (ω := [(256, .soft (.bool false)), (512, .soft (.bool false)), (832, .soft (.bool false)), (1152, .soft (.bool false)), (1472, .soft (.bool false)), (1792, .soft (.bool false)), (2112, .soft (.bool false)), (2432, .soft (.bool false))]) (LF := 10) (F := 100) (av := [.agg #[.int .i64 ce, .int .i64 cw, .int .i64 cr, .int .i64 cf]]) (v := Value.int IntKind.i64 0) (ps := [(decide (ce < 1)) = false, (decide (ce > 253402300799)) = false, (decide (cw < 1)) = false, (decide (cw > 253402300799)) = false, (decide (cr < 1)) = false, (decide (cr > 1048576)) = false, (decide (cf < 1)) = false, (decide (cf > 1048576)) = false]) (call_spec ΨS1_spec mixed 4) mixed (by kernel_rfl) (ob_cons h0 (ob_cons h1 (ob_cons h2 (ob_cons h3 (ob_cons h4 (ob_cons h5 (ob_cons h6 (ob_cons h7 ob_nil)))))))) (by kernel_rfl) (by kernel_rfl) w).mono ?_
                  rintro e w1 ⟨rfl, hb⟩; exact ⟨by simp only [rcheck_0, h0, h1, h2, h3, h4, h5, h6, h7, cond_true, cond_false], hb⟩
def ψrcheck : CallF := fun f args H _ =>
  if f = 19 then match args with
    | [.agg ⟨[.int .i64 ce, .int .i64 cw, .int .i64 cr, .int .i64 cf]⟩] => some (Value.int IntKind.i64 (rcheck_0 ce cw cr cf), H)
    | _ => none
  else none
theorem ψrcheck_spec : CallSpec Try.prog ψrcheck := by
  intro g av Hs lo v H1 h D ρ w args hlt hsz hav hw
  unfold ψrcheck at h
  split at h
  · rename_i hg
    subst hg
    split at h
    · cases h; exact spec_of_pure (fun w => rcheck_any _ _ _ _ w) (by kernel_rfl) (by kernel_rfl) hsz hav hw
    · cases h
  · cases h
def ΨS2_0 : CallF := orΨ ψcheck ΨS1
theorem ΨS2_0_spec : CallSpec Try.prog ΨS2_0 := orΨ_spec ψcheck_spec ΨS1_spec
def ΨS2 : CallF := orΨ ψrcheck ΨS2_0
theorem ΨS2_spec : CallSpec Try.prog ΨS2 := orΨ_spec ψrcheck_spec ΨS2_0_spec
end Go.Proofs.Ytbmgigbcilgieaa
