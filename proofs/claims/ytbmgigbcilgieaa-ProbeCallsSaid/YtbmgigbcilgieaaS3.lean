/- Contracts that the engine has found; their texts are a program's. -/
import Derived.Test.YtbmgigbcilgieaaS2
import Derived.Test.YtbmgigbcilgieaaProg
namespace Go.Proofs.Ytbmgigbcilgieaa
open Go.RowKit
set_option linter.unusedVariables false
set_option maxRecDepth 100000
def may_0 (ce : Int) (cw : Int) (cr : Int) (cf : Int) (now : Int) : Int := (bif (check_0 ce cw cr cf != 0) then (check_0 ce cw cr cf) else (bif (decide (now < 0)) then 2 else (bif (decide (now > 253402300799)) then 2 else 0)))
theorem may_any (ce : Int) (cw : Int) (cr : Int) (cf : Int) (now : Int) (w : World) : Calls Try.prog 26 #[.agg #[.int .i64 ce, .int .i64 cw, .int .i64 cr, .int .i64 cf], .int .i64 now] w (fun e w1 => e = .returned (Value.int IntKind.i64 (may_0 ce cw cr cf now)) ∧ Below w.heap.size w w1) := by
  rcases Bool.eq_false_or_eq_true (check_0 ce cw cr cf != 0) with h0 | h0
  · refine (calls_orc (call := aCall Try.prog ΨS2 10 100 4) (ω := [(384, .soft (.bool true))]) (LF := 10) (F := 100) (av := [.agg #[.int .i64 ce, .int .i64 cw, .int .i64 cr, .int .i64 cf], .int .i64 now]) (v := Value.int IntKind.i64 (check_0 ce cw cr cf)) (ps := [(check_0 ce cw cr cf != 0) = true]) (call_spec ΨS2_spec mixed 4) mixed (by kernel_rfl) (ob_cons h0 ob_nil) (by kernel_rfl) (by kernel_rfl) w).mono ?_
    rintro e w1 ⟨rfl, hb⟩; exact ⟨by simp only [may_0, h0, cond_true, cond_false], hb⟩
  · rcases Bool.eq_false_or_eq_true (decide (now < 0)) with h1 | h1
    · refine (calls_orc (call := aCall Try.prog ΨS2 10 100 4) (ω := [(384, .soft (.bool false)), (512, .soft (.bool true))]) (LF := 10) (F := 100) (av := [.agg #[.int .i64 ce, .int .i64 cw, .int .i64 cr, .int .i64 cf], .int .i64 now]) (v := Value.int IntKind.i64 2) (ps := [(check_0 ce cw cr cf != 0) = false, (decide (now < 0)) = true]) (call_spec ΨS2_spec mixed 4) mixed (by kernel_rfl) (ob_cons h0 (ob_cons h1 ob_nil)) (by kernel_rfl) (by kernel_rfl) w).mono ?_
      rintro e w1 ⟨rfl, hb⟩; exact ⟨by simp only [may_0, h0, h1, cond_true, cond_false], hb⟩
    · rcases Bool.eq_false_or_eq_true (decide (now > 253402300799)) with h2 | h2
      · refine (calls_orc (call := aCall Try.prog ΨS2 10 100 4) (ω := [(384, .soft (.bool false)), (512, .soft (.bool false)), (704, .soft (.bool true))]) (LF := 10) (F := 100) (av := [.agg #[.int .i64 ce, .int .i64 cw, .int .i64 cr, .int .i64 cf], .int .i64 now]) (v := Value.int IntKind.i64 2) (ps := [(check_0 ce cw cr cf != 0) = false, (decide (now < 0)) = false, (decide (now > 253402300799)) = true]) (call_spec ΨS2_spec mixed 4) mixed (by kernel_rfl) (ob_cons h0 (ob_cons h1 (ob_cons h2 ob_nil))) (by kernel_rfl) (by kernel_rfl) w).mono ?_
        rintro e w1 ⟨rfl, hb⟩; exact ⟨by simp only [may_0, h0, h1, h2, cond_true, cond_false], hb⟩
      · refine (calls_orc (call := aCall Try.prog ΨS2 10 100 4) (ω := [(384, .soft (.bool false)), (512, .soft (.bool false)), (704, .soft (.bool false))]) (LF := 10) (F := 100) (av := [.agg #[.int .i64 ce, .int .i64 cw, .int .i64 cr, .int .i64 cf], .int .i64 now]) (v := Value.int IntKind.i64 0) (ps := [(check_0 ce cw cr cf != 0) = false, (decide (now < 0)) = false, (decide (now > 253402300799)) = false]) (call_spec ΨS2_spec mixed 4) mixed (by kernel_rfl) (ob_cons h0 (ob_cons h1 (ob_cons h2 ob_nil))) (by kernel_rfl) (by kernel_rfl) w).mono ?_
        rintro e w1 ⟨rfl, hb⟩; exact ⟨by simp only [may_0, h0, h1, h2, cond_true, cond_false], hb⟩
def ψmay : CallF := fun f args H _ =>
  if f = 26 then match args with
    | [.agg ⟨[.int .i64 ce, .int .i64 cw, .int .i64 cr, .int .i64 cf]⟩, .int .i64 now] => some (Value.int IntKind.i64 (may_0 ce cw cr cf now), H)
    | _ => none
  else none
theorem ψmay_spec : CallSpec Try.prog ψmay := by
  intro g av Hs lo v H1 h D ρ w args hlt hsz hav hw
  unfold ψmay at h
  split at h
  · rename_i hg
    subst hg
    split at h
    · cases h; exact spec_of_pure (fun w => may_any _ _ _ _ _ w) (by kernel_rfl) (by kernel_rfl) hsz hav hw
    · cases h
  · cases h
def late_0 (ce : Int) (cw : Int) (cr : Int) (cf : Int) (up : Bool) (run : Int) (nxt : Int) (out : Bool) (since : Int) (now : Int) : Bool := (bif (check_0 ce cw cr cf == 0) then (bif (out) then (bif (decide (since ≤ IntKind.i64.wrap (now - cw))) then true else false) else false) else false)
theorem late_any (ce : Int) (cw : Int) (cr : Int) (cf : Int) (up : Bool) (run : Int) (nxt : Int) (out : Bool) (since : Int) (now : Int) (w : World) : Calls Try.prog 16 #[.agg #[.int .i64 ce, .int .i64 cw, .int .i64 cr, .int .i64 cf], .agg #[.bool up, .int .i64 run, .int .i64 nxt, .bool out, .int .i64 since], .int .i64 now] w (fun e w1 => e = .returned (Value.bool (late_0 ce cw cr cf up run nxt out since now)) ∧ Below w.heap.size w w1) := by
  rcases Bool.eq_false_or_eq_true (check_0 ce cw cr cf == 0) with h0 | h0
  · rcases Bool.eq_false_or_eq_true (out) with h1 | h1
    · rcases Bool.eq_false_or_eq_true (decide (since ≤ IntKind.i64.wrap (now - cw))) with h2 | h2
      · refine (calls_orc (call := aCall Try.prog ΨS2 10 100 4) (ω := [(320, .soft (.bool true)), (512, .soft (.bool true)), (1088, .soft (.bool true))]) (LF := 10) (F := 100) (av := [.agg #[.int .i64 ce, .int .i64 cw, .int .i64 cr, .int .i64 cf], .agg #[.bool up, .int .i64 run, .int .i64 nxt, .bool out, .int .i64 since], .int .i64 now]) (v := Value.bool true) (ps := [(check_0 ce cw cr cf == 0) = true, (out) = true, (decide (since ≤ IntKind.i64.wrap (now - cw))) = true]) (call_spec ΨS2_spec mixed 4) mixed (by kernel_rfl) (ob_cons h0 (ob_cons h1 (ob_cons h2 ob_nil))) (by kernel_rfl) (by kernel_rfl) w).mono ?_
        rintro e w1 ⟨rfl, hb⟩; exact ⟨by simp only [late_0, h0, h1, h2, cond_true, cond_false], hb⟩
      · refine (calls_orc (call := aCall Try.prog ΨS2 10 100 4) (ω := [(320, .soft (.bool true)), (512, .soft (.bool true)), (1088, .soft (.bool false))]) (LF := 10) (F := 100) (av := [.agg #[.int .i64 ce, .int .i64 cw, .int .i64 cr, .int .i64 cf], .agg #[.bool up, .int .i64 run, .int .i64 nxt, .bool out, .int .i64 since], .int .i64 now]) (v := Value.bool false) (ps := [(check_0 ce cw cr cf == 0) = true, (out) = true, (decide (since ≤ IntKind.i64.wrap (now - cw))) = false]) (call_spec ΨS2_spec mixed 4) mixed (by kernel_rfl) (ob_cons h0 (ob_cons h1 (ob_cons h2 ob_nil))) (by kernel_rfl) (by kernel_rfl) w).mono ?_
        rintro e w1 ⟨rfl, hb⟩; exact ⟨by simp only [late_0, h0, h1, h2, cond_true, cond_false], hb⟩
    · refine (calls_orc (call := aCall Try.prog ΨS2 10 100 4) (ω := [(320, .soft (.bool true)), (512, .soft (.bool false))]) (LF := 10) (F := 100) (av := [.agg #[.int .i64 ce, .int .i64 cw, .int .i64 cr, .int .i64 cf], .agg #[.bool up, .int .i64 run, .int .i64 nxt, .bool out, .int .i64 since], .int .i64 now]) (v := Value.bool false) (ps := [(check_0 ce cw cr cf == 0) = true, (out) = false]) (call_spec ΨS2_spec mixed 4) mixed (by kernel_rfl) (ob_cons h0 (ob_cons h1 ob_nil)) (by kernel_rfl) (by kernel_rfl) w).mono ?_
      rintro e w1 ⟨rfl, hb⟩; exact ⟨by simp only [late_0, h0, h1, cond_true, cond_false], hb⟩
  · refine (calls_orc (call := aCall Try.prog ΨS2 10 100 4) (ω := [(320, .soft (.bool false))]) (LF := 10) (F := 100) (av := [.agg #[.int .i64 ce, .int .i64 cw, .int .i64 cr, .int .i64 cf], .agg #[.bool up, .int .i64 run, .int .i64 nxt, .bool out, .int .i64 since], .int .i64 now]) (v := Value.bool false) (ps := [(check_0 ce cw cr cf == 0) = false]) (call_spec ΨS2_spec mixed 4) mixed (by kernel_rfl) (ob_cons h0 ob_nil) (by kernel_rfl) (by kernel_rfl) w).mono ?_
    rintro e w1 ⟨rfl, hb⟩; exact ⟨by simp only [late_0, h0, cond_true, cond_false], hb⟩
def ψlate : CallF := fun f args H _ =>
  if f = 16 then match args with
    | [.agg ⟨[.int .i64 ce, .int .i64 cw, .int .i64 cr, .int .i64 cf]⟩, .agg ⟨[.bool up, .int .i64 run, .int .i64 nxt, .bool out, .int .i64 since]⟩, .int .i64 now] => some (Value.bool (late_0 ce cw cr cf up run nxt out since now), H)
    | _ => none
  else none
theorem ψlate_spec : CallSpec Try.prog ψlate := by
  intro g av Hs lo v H1 h D ρ w args hlt hsz hav hw
  unfold ψlate at h
  split at h
  · rename_i hg
    subst hg
    split at h
    · cases h; exact spec_of_pure (fun w => late_any _ _ _ _ _ _ _ _ _ _ w) (by kernel_rfl) (by kernel_rfl) hsz hav hw
    · cases h
  · cases h
def errs_0 (ce : Int) (cw : Int) (cr : Int) (cf : Int) (now : Int) (ok : Bool) : Int := (bif (rcheck_0 ce cw cr cf == 0) then (bif (time_0 now) then (bif (ok) then (rcheck_0 ce cw cr cf) else 8) else 2) else (rcheck_0 ce cw cr cf))
theorem errs_any (ce : Int) (cw : Int) (cr : Int) (cf : Int) (now : Int) (ok : Bool) (w : World) : Calls Try.prog 28 #[.agg #[.int .i64 ce, .int .i64 cw, .int .i64 cr, .int .i64 cf], .int .i64 now, .bool ok] w (fun e w1 => e = .returned (Value.int IntKind.i64 (errs_0 ce cw cr cf now ok)) ∧ Below w.heap.size w w1) := by
  rcases Bool.eq_false_or_eq_true (rcheck_0 ce cw cr cf == 0) with h0 | h0
  · rcases Bool.eq_false_or_eq_true (time_0 now) with h1 | h1
    · rcases Bool.eq_false_or_eq_true (ok) with h2 | h2
      · refine (calls_orc (call := aCall Try.prog ΨS2 10 100 4) (ω := [(384, .soft (.bool true)), (576, .soft (.bool true)), (832, .soft (.bool true)), (960, .soft (.bool true))]) (LF := 10) (F := 100) (av := [.agg #[.int .i64 ce, .int .i64 cw, .int .i64 cr, .int .i64 cf], .int .i64 now, .bool ok]) (v := Value.int IntKind.i64 (rcheck_0 ce cw cr cf)) (ps := [(rcheck_0 ce cw cr cf == 0) = true, (time_0 now) = true, (rcheck_0 ce cw cr cf == 0) = true, (ok) = true]) (call_spec ΨS2_spec mixed 4) mixed (by kernel_rfl) (ob_cons h0 (ob_cons h1 (ob_cons h0 (ob_cons h2 ob_nil)))) (by kernel_rfl) (by kernel_rfl) w).mono ?_
        rintro e w1 ⟨rfl, hb⟩; exact ⟨by simp only [errs_0, h0, h1, h2, cond_true, cond_false], hb⟩
      · refine (calls_orc (call := aCall Try.prog ΨS2 10 100 4) (ω := [(384, .soft (.bool true)), (576, .soft (.bool true)), (832, .soft (.bool true)), (960, .soft (.bool false))]) (LF := 10) (F := 100) (av := [.agg #[.int .i64 ce, .int .i64 cw, .int .i64 cr, .int .i64 cf], .int .i64 now, .bool ok]) (v := Value.int IntKind.i64 8) (ps := [(rcheck_0 ce cw cr cf == 0) = true, (time_0 now) = true, (rcheck_0 ce cw cr cf == 0) = true, (ok) = false]) (call_spec ΨS2_spec mixed 4) mixed (by kernel_rfl) (ob_cons h0 (ob_cons h1 (ob_cons h0 (ob_cons h2 ob_nil)))) (by kernel_rfl) (by kernel_rfl) w).mono ?_
        rintro e w1 ⟨rfl, hb⟩; exact ⟨by simp only [errs_0, h0, h1, h2, cond_true, cond_false], hb⟩
    · refine (calls_orc (call := aCall Try.prog ΨS2 10 100 4) (ω := [(384, .soft (.bool true)), (576, .soft (.bool false))]) (LF := 10) (F := 100) (av := [.agg #[.int .i64 ce, .int .i64 cw, .int .i64 cr, .int .i64 cf], .int .i64 now, .bool ok]) (v := Value.int IntKind.i64 2) (ps := [(rcheck_0 ce cw cr cf == 0) = true, (time_0 now) = false]) (call_spec ΨS2_spec mixed 4) mixed (by kernel_rfl) (ob_cons h0 (ob_cons h1 ob_nil)) (by kernel_rfl) (by kernel_rfl) w).mono ?_
      rintro e w1 ⟨rfl, hb⟩; exact ⟨by simp only [errs_0, h0, h1, cond_true, cond_false], hb⟩
  · refine (calls_orc (call := aCall Try.prog ΨS2 10 100 4) (ω := [(384, .soft (.bool false)), (832, .soft (.bool false))]) (LF := 10) (F := 100) (av := [.agg #[.int .i64 ce, .int .i64 cw, .int .i64 cr, .int .i64 cf], .int .i64 now, .bool ok]) (v := Value.int IntKind.i64 (rcheck_0 ce cw cr cf)) (ps := [(rcheck_0 ce cw cr cf == 0) = false, (rcheck_0 ce cw cr cf == 0) = false]) (call_spec ΨS2_spec mixed 4) mixed (by kernel_rfl) (ob_cons h0 (ob_cons h0 ob_nil)) (by kernel_rfl) (by kernel_rfl) w).mono ?_
    rintro e w1 ⟨rfl, hb⟩; exact ⟨by simp only [errs_0, h0, cond_true, cond_false], hb⟩
def ψerrs : CallF := fun f args H _ =>
  if f = 28 then match args with
    | [.agg ⟨[.int .i64 ce, .int .i64 cw, .int .i64 cr, .int .i64 cf]⟩, .int .i64 now, .bool ok] => some (Value.int IntKind.i64 (errs_0 ce cw cr cf now ok), H)
    | _ => none
  else none
theorem ψerrs_spec : CallSpec Try.prog ψerrs := by
  intro g av Hs lo v H1 h D ρ w args hlt hsz hav hw
  unfold ψerrs at h
  split at h
  · rename_i hg
    subst hg
    split at h
    · cases h; exact spec_of_pure (fun w => errs_any _ _ _ _ _ _ w) (by kernel_rfl) (by kernel_rfl) hsz hav hw
    · cases h
  · cases h
def rlate_0 (ce : Int) (cw : Int) (cr : Int) (cf : Int) (up : Bool) (run : Int) (nxt : Int) (out : Bool) (since : Int) (now : Int) : Bool := (bif (rcheck_0 ce cw cr cf == 0) then (bif (out) then (bif (decide (now ≥ since)) then (bif (decide (IntKind.i64.wrap (now - since) ≥ cw)) then true else false) else false) else false) else false)
theorem rlate_any (ce : Int) (cw : Int) (cr : Int) (cf : Int) (up : Bool) (run : Int) (nxt : Int) (out : Bool) (since : Int) (now : Int) (w : World) : Calls Try.prog 21 #[.agg #[.int .i64 ce, .int .i64 cw, .int .i64 cr, .int .i64 cf], .agg #[.bool up, .int .i64 run, .int .i64 nxt, .bool out, .int .i64 since], .int .i64 now] w (fun e w1 => e = .returned (Value.bool (rlate_0 ce cw cr cf up run nxt out since now)) ∧ Below w.heap.size w w1) := by
  rcases Bool.eq_false_or_eq_true (rcheck_0 ce cw cr cf == 0) with h0 | h0
  · rcases Bool.eq_false_or_eq_true (out) with h1 | h1
    · rcases Bool.eq_false_or_eq_true (decide (now ≥ since)) with h2 | h2
      · rcases Bool.eq_false_or_eq_true (decide (IntKind.i64.wrap (now - since) ≥ cw)) with h3 | h3
        · refine (calls_orc (call := aCall Try.prog ΨS2 10 100 4) (ω := [(320, .soft (.bool true)), (512, .soft (.bool true)), (896, .soft (.bool true)), (1472, .soft (.bool true))]) (LF := 10) (F := 100) (av := [.agg #[.int .i64 ce, .int .i64 cw, .int .i64 cr, .int .i64 cf], .agg #[.bool up, .int .i64 run, .int .i64 nxt, .bool out, .int .i64 since], .int .i64 now]) (v := Value.bool true) (ps := [(rcheck_0 ce cw cr cf == 0) = true, (out) = true, (decide (now ≥ since)) = true, (decide (IntKind.i64.wrap (now - since) ≥ cw)) = true]) (call_spec ΨS2_spec mixed 4) mixed (by kernel_rfl) (ob_cons h0 (ob_cons h1 (ob_cons h2 (ob_cons h3 ob_nil)))) (by kernel_rfl) (by kernel_rfl) w).mono ?_
          rintro e w1 ⟨rfl, hb⟩; exact ⟨by simp only [rlate_0, h0, h1, h2, h3, cond_true, cond_false], hb⟩
        · refine (calls_orc (call := aCall Try.prog ΨS2 10 100 4) (ω := [(320, .soft (.bool true)), (512, .soft (.bool true)), (896, .soft (.bool true)), (1472, .soft (.bool false))]) (LF := 10) (F := 100) (av := [.agg #[.int .i64 ce, .int .i64 cw, .int .i64 cr, .int .i64 cf], .agg #[.bool up, .int .i64 run, .int .i64 nxt, .bool out, .int .i64 since], .int .i64 now]) (v := Value.bool false) (ps := [(rcheck_0 ce cw cr cf == 0) = true, (out) = true, (decide (now ≥ since)) = true, (decide (IntKind.i64.wrap (now - since) ≥ cw)) = false]) (call_spec ΨS2_spec mixed 4) mixed (by kernel_rfl) (ob_cons h0 (ob_cons h1 (ob_cons h2 (ob_cons h3 ob_nil)))) (by kernel_rfl) (by kernel_rfl) w).mono ?_
          rintro e w1 ⟨rfl, hb⟩; exact ⟨by simp only [rlate_0, h0, h1, h2, h3, cond_true, cond_false], hb⟩
      · refine (calls_orc (call := aCall Try.prog ΨS2 10 100 4) (ω := [(320, .soft (.bool true)), (512, .soft (.bool true)), (896, .soft (.bool false))]) (LF := 10) (F := 100) (av := [.agg #[.int .i64 ce, .int .i64 cw, .int .i64 cr, .int .i64 cf], .agg #[.bool up, .int .i64 run, .int .i64 nxt, .bool out, .int .i64 since], .int .i64 now]) (v := Value.bool false) (ps := [(rcheck_0 ce cw cr cf == 0) = true, (out) = true, (decide (now ≥ since)) = false]) (call_spec ΨS2_spec mixed 4) mixed (by kernel_rfl) (ob_cons h0 (ob_cons h1 (ob_cons h2 ob_nil))) (by kernel_rfl) (by kernel_rfl) w).mono ?_
        rintro e w1 ⟨rfl, hb⟩; exact ⟨by simp only [rlate_0, h0, h1, h2, cond_true, cond_false], hb⟩
    · refine (calls_orc (call := aCall Try.prog ΨS2 10 100 4) (ω := [(320, .soft (.bool true)), (512, .soft (.bool false))]) (LF := 10) (F := 100) (av := [.agg #[.int .i64 ce, .int .i64 cw, .int .i64 cr, .int .i64 cf], .agg #[.bool up, .int .i64 run, .int .i64 nxt, .bool out, .int .i64 since], .int .i64 now]) (v := Value.bool false) (ps := [(rcheck_0 ce cw cr cf == 0) = true, (out) = false]) (call_spec ΨS2_spec mixed 4) mixed (by kernel_rfl) (ob_cons h0 (ob_cons h1 ob_nil)) (by kernel_rfl) (by kernel_rfl) w).mono ?_
      rintro e w1 ⟨rfl, hb⟩; exact ⟨by simp only [rlate_0, h0, h1, cond_true, cond_false], hb⟩
  · refine (calls_orc (call := aCall Try.prog ΨS2 10 100 4) (ω := [(320, .soft (.bool false))]) (LF := 10) (F := 100) (av := [.agg #[.int .i64 ce, .int .i64 cw, .int .i64 cr, .int .i64 cf], .agg #[.bool up, .int .i64 run, .int .i64 nxt, .bool out, .int .i64 since], .int .i64 now]) (v := Value.bool false) (ps := [(rcheck_0 ce cw cr cf == 0) = false]) (call_spec ΨS2_spec mixed 4) mixed (by kernel_rfl) (ob_cons h0 ob_nil) (by kernel_rfl) (by kernel_rfl) w).mono ?_
    rintro e w1 ⟨rfl, hb⟩; exact ⟨by simp only [rlate_0, h0, cond_true, cond_false], hb⟩
def ψrlate : CallF := fun f args H _ =>
  if f = 21 then match args with
    | [.agg ⟨[.int .i64 ce, .int .i64 cw, .int .i64 cr, .int .i64 cf]⟩, .agg ⟨[.bool up, .int .i64 run, .int .i64 nxt, .bool out, .int .i64 since]⟩, .int .i64 now] => some (Value.bool (rlate_0 ce cw cr cf up run nxt out since now), H)
    | _ => none
  else none
theorem ψrlate_spec : CallSpec Try.prog ψrlate := by
  intro g av Hs lo v H1 h D ρ w args hlt hsz hav hw
  unfold ψrlate at h
  split at h
  · rename_i hg
    subst hg
    split at h
    · cases h; exact spec_of_pure (fun w => rlate_any _ _ _ _ _ _ _ _ _ _ w) (by kernel_rfl) (by kernel_rfl) hsz hav hw
    · cases h
  · cases h
def ΨS3_0 : CallF := orΨ ψmay ΨS2
theorem ΨS3_0_spec : CallSpec Try.prog ΨS3_0 := orΨ_spec ψmay_spec ΨS2_spec
def ΨS3_1 : CallF := orΨ ψlate ΨS3_0
theorem ΨS3_1_spec : CallSpec Try.prog ΨS3_1 := orΨ_spec ψlate_spec ΨS3_0_spec
def ΨS3_2 : CallF := orΨ ψerrs ΨS3_1
theorem ΨS3_2_spec : CallSpec Try.prog ΨS3_2 := orΨ_spec ψerrs_spec ΨS3_1_spec
def ΨS3 : CallF := orΨ ψrlate ΨS3_2
theorem ΨS3_spec : CallSpec Try.prog ΨS3 := orΨ_spec ψrlate_spec ΨS3_2_spec
end Go.Proofs.Ytbmgigbcilgieaa
