/- Contracts that the engine has found; their texts are a program's. -/
import Derived.Test.YtmiheegkilgimaaX13
import Derived.Test.YtmiheegkilgimaaProg
namespace Go.Proofs.Ytmiheegkilgimaa
open Go.RowKit
set_option linter.unusedVariables false
set_option maxRecDepth 100000
theorem mixed : Try.prog.follows .mixedOrders = true := by kernel_rfl
def odd_0 (b : Int) (s : Bool) (d : Int) (l : Bool) : Bool := (bif (decide (b < 0)) then true else (bif (decide (b ≥ 64)) then true else (bif (decide (d < 0)) then true else (bif (decide (d > 7)) then true else (bif (d == 0) then (bif (l) then false else true) else false)))))
theorem odd_any (b : Int) (s : Bool) (d : Int) (l : Bool) (w : World) : Calls Try.prog 33 #[.agg #[.int .i64 b, .bool s, .int .i64 d], .bool l] w (fun e w1 => e = .returned (Value.bool (odd_0 b s d l)) ∧ Below w.heap.size w w1) := by
  rcases Bool.eq_false_or_eq_true (decide (b < 0)) with h0 | h0
  · refine (calls_orc (call := aCall Try.prog noΨ 10 100 4) (ω := [(256, .soft (.bool true))]) (LF := 10) (F := 100) (av := [.agg #[.int .i64 b, .bool s, .int .i64 d], .bool l]) (v := Value.bool true) (ps := [(decide (b < 0)) = true]) (call_spec noΨ_spec mixed 4) mixed (by kernel_rfl) (ob_cons h0 ob_nil) (by kernel_rfl) (by kernel_rfl) w).mono ?_
    rintro e w1 ⟨rfl, hb⟩; exact ⟨by simp only [odd_0, h0, cond_true, cond_false], hb⟩
  · rcases Bool.eq_false_or_eq_true (decide (b ≥ 64)) with h1 | h1
    · refine (calls_orc (call := aCall Try.prog noΨ 10 100 4) (ω := [(256, .soft (.bool false)), (512, .soft (.bool true))]) (LF := 10) (F := 100) (av := [.agg #[.int .i64 b, .bool s, .int .i64 d], .bool l]) (v := Value.bool true) (ps := [(decide (b < 0)) = false, (decide (b ≥ 64)) = true]) (call_spec noΨ_spec mixed 4) mixed (by kernel_rfl) (ob_cons h0 (ob_cons h1 ob_nil)) (by kernel_rfl) (by kernel_rfl) w).mono ?_
      rintro e w1 ⟨rfl, hb⟩; exact ⟨by simp only [odd_0, h0, h1, cond_true, cond_false], hb⟩
    · rcases Bool.eq_false_or_eq_true (decide (d < 0)) with h2 | h2
      · refine (calls_orc (call := aCall Try.prog noΨ 10 100 4) (ω := [(256, .soft (.bool false)), (512, .soft (.bool false)), (832, .soft (.bool true))]) (LF := 10) (F := 100) (av := [.agg #[.int .i64 b, .bool s, .int .i64 d], .bool l]) (v := Value.bool true) (ps := [(decide (b < 0)) = false, (decide (b ≥ 64)) = false, (decide (d < 0)) = true]) (call_spec noΨ_spec mixed 4) mixed (by kernel_rfl) (ob_cons h0 (ob_cons h1 (ob_cons h2 ob_nil))) (by kernel_rfl) (by kernel_rfl) w).mono ?_
        rintro e w1 ⟨rfl, hb⟩; exact ⟨by simp only [odd_0, h0, h1, h2, cond_true, cond_false], hb⟩
      · rcases Bool.eq_false_or_eq_true (decide (d > 7)) with h3 | h3
        · refine (calls_orc (call := aCall Try.prog noΨ 10 100 4) (ω := [(256, .soft (.bool false)), (512, .soft (.bool false)), (832, .soft (.bool false)), (1152, .soft (.bool true))]) (LF := 10) (F := 100) (av := [.agg #[.int .i64 b, .bool s, .int .i64 d], .bool l]) (v := Value.bool true) (ps := [(decide (b < 0)) = false, (decide (b ≥ 64)) = false, (decide (d < 0)) = false, (decide (d > 7)) = true]) (call_spec noΨ_spec mixed 4) mixed (by kernel_rfl) (ob_cons h0 (ob_cons h1 (ob_cons h2 (ob_cons h3 ob_nil)))) (by kernel_rfl) (by kernel_rfl) w).mono ?_
          rintro e w1 ⟨rfl, hb⟩; exact ⟨by simp only [odd_0, h0, h1, h2, h3, cond_true, cond_false], hb⟩
        · rcases Bool.eq_false_or_eq_true (d == 0) with h4 | h4
          · rcases Bool.eq_false_or_eq_true (l) with h5 | h5
            · refine (calls_orc (call := aCall Try.prog noΨ 10 100 4) (ω := [(256, .soft (.bool false)), (512, .soft (.bool false)), (832, .soft (.bool false)), (1152, .soft (.bool false)), (1472, .soft (.bool true)), (1600, .soft (.bool true))]) (LF := 10) (F := 100) (av := [.agg #[.int .i64 b, .bool s, .int .i64 d], .bool l]) (v := Value.bool false) (ps := [(decide (b < 0)) = false, (decide (b ≥ 64)) = false, (decide (d < 0)) = false, (decide (d > 7)) = false, (d == 0) = true, (l) = true]) (call_spec noΨ_spec mixed 4) mixed (by kernel_rfl) (ob_cons h0 (ob_cons h1 (ob_cons h2 (ob_cons h3 (ob_cons h4 (ob_cons h5 ob_nil)))))) (by kernel_rfl) (by kernel_rfl) w).mono ?_
              rintro e w1 ⟨rfl, hb⟩; exact ⟨by simp only [odd_0, h0, h1, h2, h3, h4, h5, cond_true, cond_false], hb⟩
            · refine (calls_orc (call := aCall Try.prog noΨ 10 100 4) (ω := [(256, .soft (.bool false)), (512, .soft (.bool false)), (832, .soft (.bool false)), (1152, .soft (.bool false)), (1472, .soft (.bool true)), (1600, .soft (.bool false))]) (LF := 10) (F := 100) (av := [.agg #[.int .i64 b, .bool s, .int .i64 d], .bool l]) (v := Value.bool true) (ps := [(decide (b < 0)) = false, (decide (b ≥ 64)) = false, (decide (d < 0)) = false, (decide (d > 7)) = false, (d == 0) = true, (l) = false]) (call_spec noΨ_spec mixed 4) mixed (by kernel_rfl) (ob_cons h0 (ob_cons h1 (ob_cons h2 (ob_cons h3 (ob_cons h4 (ob_cons h5 ob_nil)))))) (by kernel_rfl) (by kernel_rfl) w).mono ?_
              rintro e w1 ⟨rfl, hb⟩; exact ⟨by simp only [odd_0, h0, h1, h2, h3, h4, h5, cond_true, cond_false], hb⟩
          · refine (calls_orc (call := aCall Try.prog noΨ 10 100 4) (ω := [(256, .soft (.bool false)), (512, .soft (.bool false)), (832, .soft (.bool false)), (1152, .soft (.bool false)), (1472, .soft (.bool false))]) (LF := 10) (F := 100) (av := [.agg #[.int .i64 b, .bool s, .int .i64 d], .bool l]) (v := Value.bool false) (ps := [(decide (b < 0)) = false, (decide (b ≥ 64)) = false, (decide (d < 0)) = false, (decide (d > 7)) = false, (d == 0) = false]) (call_spec noΨ_spec mixed 4) mixed (by kernel_rfl) (ob_cons h0 (ob_cons h1 (ob_cons h2 (ob_cons h3 (ob_cons h4 ob_nil))))) (by kernel_rfl) (by kernel_rfl) w).mono ?_
            rintro e w1 ⟨rfl, hb⟩; exact ⟨by simp only [odd_0, h0, h1, h2, h3, h4, cond_true, cond_false], hb⟩
def ψodd : CallF := fun f args H _ =>
  if f = 33 then match args with
    | [.agg ⟨[.int .i64 b, .bool s, .int .i64 d]⟩, .bool l] => some (Value.bool (odd_0 b s d l), H)
    | _ => none
  else none
theorem ψodd_spec : CallSpec Try.prog ψodd := by
  intro g av Hs lo v H1 h D ρ w args hlt hsz hav hw
  unfold ψodd at h
  split at h
  · rename_i hg
    subst hg
    split at h
    · cases h; exact spec_of_pure (fun w => odd_any _ _ _ _ w) (by kernel_rfl) (by kernel_rfl) hsz hav hw
    · cases h
  · cases h
def good_0 (b : Int) (s : Bool) (d : Int) : Bool := (bif (d == 1) then true else (bif (d == 7) then true else false))
theorem good_any (b : Int) (s : Bool) (d : Int) (w : World) : Calls Try.prog 35 #[.agg #[.int .i64 b, .bool s, .int .i64 d]] w (fun e w1 => e = .returned (Value.bool (good_0 b s d)) ∧ Below w.heap.size w w1) := by
  rcases Bool.eq_false_or_eq_true (d == 1) with h0 | h0
  · refine (calls_orc (call := aCall Try.prog noΨ 10 100 4) (ω := [(256, .soft (.bool true))]) (LF := 10) (F := 100) (av := [.agg #[.int .i64 b, .bool s, .int .i64 d]]) (v := Value.bool true) (ps := [(d == 1) = true]) (call_spec noΨ_spec mixed 4) mixed (by kernel_rfl) (ob_cons h0 ob_nil) (by kernel_rfl) (by kernel_rfl) w).mono ?_
    rintro e w1 ⟨rfl, hb⟩; exact ⟨by simp only [good_0, h0, cond_true, cond_false], hb⟩
  · rcases Bool.eq_false_or_eq_true (d == 7) with h1 | h1
    · refine (calls_orc (call := aCall Try.prog noΨ 10 100 4) (ω := [(256, .soft (.bool false)), (512, .soft (.bool true))]) (LF := 10) (F := 100) (av := [.agg #[.int .i64 b, .bool s, .int .i64 d]]) (v := Value.bool true) (ps := [(d == 1) = false, (d == 7) = true]) (call_spec noΨ_spec mixed 4) mixed (by kernel_rfl) (ob_cons h0 (ob_cons h1 ob_nil)) (by kernel_rfl) (by kernel_rfl) w).mono ?_
      rintro e w1 ⟨rfl, hb⟩; exact ⟨by simp only [good_0, h0, h1, cond_true, cond_false], hb⟩
    · refine (calls_orc (call := aCall Try.prog noΨ 10 100 4) (ω := [(256, .soft (.bool false)), (512, .soft (.bool false))]) (LF := 10) (F := 100) (av := [.agg #[.int .i64 b, .bool s, .int .i64 d]]) (v := Value.bool false) (ps := [(d == 1) = false, (d == 7) = false]) (call_spec noΨ_spec mixed 4) mixed (by kernel_rfl) (ob_cons h0 (ob_cons h1 ob_nil)) (by kernel_rfl) (by kernel_rfl) w).mono ?_
      rintro e w1 ⟨rfl, hb⟩; exact ⟨by simp only [good_0, h0, h1, cond_true, cond_false], hb⟩
def ψgood : CallF := fun f args H _ =>
  if f = 35 then match args with
    | [.agg ⟨[.int .i64 b, .bool s, .int .i64 d]⟩] => some (Value.bool (good_0 b s d), H)
    | _ => none
  else none
theorem ψgood_spec : CallSpec Try.prog ψgood := by
  intro g av Hs lo v H1 h D ρ w args hlt hsz hav hw
  unfold ψgood at h
  split at h
  · rename_i hg
    subst hg
    split at h
    · cases h; exact spec_of_pure (fun w => good_any _ _ _ w) (by kernel_rfl) (by kernel_rfl) hsz hav hw
    · cases h
  · cases h
def sent_0 (b : Int) (s : Bool) (d : Int) : Bool := (bif (s) then true else false)
theorem sent_any (b : Int) (s : Bool) (d : Int) (w : World) : Calls Try.prog 36 #[.agg #[.int .i64 b, .bool s, .int .i64 d]] w (fun e w1 => e = .returned (Value.bool (sent_0 b s d)) ∧ Below w.heap.size w w1) := by
  rcases Bool.eq_false_or_eq_true (s) with h0 | h0
  · refine (calls_orc (call := aCall Try.prog noΨ 10 100 4) (ω := [(192, .soft (.bool true))]) (LF := 10) (F := 100) (av := [.agg #[.int .i64 b, .bool s, .int .i64 d]]) (v := Value.bool true) (ps := [(s) = true]) (call_spec noΨ_spec mixed 4) mixed (by kernel_rfl) (ob_cons h0 ob_nil) (by kernel_rfl) (by kernel_rfl) w).mono ?_
    rintro e w1 ⟨rfl, hb⟩; exact ⟨by simp only [sent_0, h0, cond_true, cond_false], hb⟩
  · refine (calls_orc (call := aCall Try.prog noΨ 10 100 4) (ω := [(192, .soft (.bool false))]) (LF := 10) (F := 100) (av := [.agg #[.int .i64 b, .bool s, .int .i64 d]]) (v := Value.bool false) (ps := [(s) = false]) (call_spec noΨ_spec mixed 4) mixed (by kernel_rfl) (ob_cons h0 ob_nil) (by kernel_rfl) (by kernel_rfl) w).mono ?_
    rintro e w1 ⟨rfl, hb⟩; exact ⟨by simp only [sent_0, h0, cond_true, cond_false], hb⟩
def ψsent : CallF := fun f args H _ =>
  if f = 36 then match args with
    | [.agg ⟨[.int .i64 b, .bool s, .int .i64 d]⟩] => some (Value.bool (sent_0 b s d), H)
    | _ => none
  else none
theorem ψsent_spec : CallSpec Try.prog ψsent := by
  intro g av Hs lo v H1 h D ρ w args hlt hsz hav hw
  unfold ψsent at h
  split at h
  · rename_i hg
    subst hg
    split at h
    · cases h; exact spec_of_pure (fun w => sent_any _ _ _ w) (by kernel_rfl) (by kernel_rfl) hsz hav hw
    · cases h
  · cases h
def fails_0 (n : Int) : Bool := (bif (decide (n ≥ 2)) then (bif (decide (n ≤ 6)) then true else false) else false)
theorem fails_any (n : Int) (w : World) : Calls Try.prog 22 #[.int .i64 n] w (fun e w1 => e = .returned (Value.bool (fails_0 n)) ∧ Below w.heap.size w w1) := by
  rcases Bool.eq_false_or_eq_true (decide (n ≥ 2)) with h0 | h0
  · rcases Bool.eq_false_or_eq_true (decide (n ≤ 6)) with h1 | h1
    · refine (calls_orc (call := aCall Try.prog noΨ 10 100 4) (ω := [(128, .soft (.bool true)), (320, .soft (.bool true))]) (LF := 10) (F := 100) (av := [.int .i64 n]) (v := Value.bool true) (ps := [(decide (n ≥ 2)) = true, (decide (n ≤ 6)) = true]) (call_spec noΨ_spec mixed 4) mixed (by kernel_rfl) (ob_cons h0 (ob_cons h1 ob_nil)) (by kernel_rfl) (by kernel_rfl) w).mono ?_
      rintro e w1 ⟨rfl, hb⟩; exact ⟨by simp only [fails_0, h0, h1, cond_true, cond_false], hb⟩
    · refine (calls_orc (call := aCall Try.prog noΨ 10 100 4) (ω := [(128, .soft (.bool true)), (320, .soft (.bool false))]) (LF := 10) (F := 100) (av := [.int .i64 n]) (v := Value.bool false) (ps := [(decide (n ≥ 2)) = true, (decide (n ≤ 6)) = false]) (call_spec noΨ_spec mixed 4) mixed (by kernel_rfl) (ob_cons h0 (ob_cons h1 ob_nil)) (by kernel_rfl) (by kernel_rfl) w).mono ?_
      rintro e w1 ⟨rfl, hb⟩; exact ⟨by simp only [fails_0, h0, h1, cond_true, cond_false], hb⟩
  · refine (calls_orc (call := aCall Try.prog noΨ 10 100 4) (ω := [(128, .soft (.bool false))]) (LF := 10) (F := 100) (av := [.int .i64 n]) (v := Value.bool false) (ps := [(decide (n ≥ 2)) = false]) (call_spec noΨ_spec mixed 4) mixed (by kernel_rfl) (ob_cons h0 ob_nil) (by kernel_rfl) (by kernel_rfl) w).mono ?_
    rintro e w1 ⟨rfl, hb⟩; exact ⟨by simp only [fails_0, h0, cond_true, cond_false], hb⟩
def ψfails : CallF := fun f args H _ =>
  if f = 22 then match args with
    | [.int .i64 n] => some (Value.bool (fails_0 n), H)
    | _ => none
  else none
theorem ψfails_spec : CallSpec Try.prog ψfails := by
  intro g av Hs lo v H1 h D ρ w args hlt hsz hav hw
  unfold ψfails at h
  split at h
  · rename_i hg
    subst hg
    split at h
    · cases h; exact spec_of_pure (fun w => fails_any _ w) (by kernel_rfl) (by kernel_rfl) hsz hav hw
    · cases h
  · cases h
def rfails_0 (n : Int) : Bool := (bif (decide (n ≥ 2)) then (bif (decide (n ≤ 6)) then true else false) else false)
theorem rfails_any (n : Int) (w : World) : Calls Try.prog 31 #[.int .i64 n] w (fun e w1 => e = .returned (Value.bool (rfails_0 n)) ∧ Below w.heap.size w w1) := by
  rcases Bool.eq_false_or_eq_true (decide (n ≥ 2)) with h0 | h0
  · rcases Bool.eq_false_or_eq_true (decide (n ≤ 6)) with h1 | h1
    · refine (calls_orc (call := aCall Try.prog noΨ 10 100 4) (ω := [(128, .soft (.bool true)), (320, .soft (.bool true))]) (LF := 10) (F := 100) (av := [.int .i64 n]) (v := Value.bool true) (ps := [(decide (n ≥ 2)) = true, (decide (n ≤ 6)) = true]) (call_spec noΨ_spec mixed 4) mixed (by kernel_rfl) (ob_cons h0 (ob_cons h1 ob_nil)) (by kernel_rfl) (by kernel_rfl) w).mono ?_
      rintro e w1 ⟨rfl, hb⟩; exact ⟨by simp only [rfails_0, h0, h1, cond_true, cond_false], hb⟩
    · refine (calls_orc (call := aCall Try.prog noΨ 10 100 4) (ω := [(128, .soft (.bool true)), (320, .soft (.bool false))]) (LF := 10) (F := 100) (av := [.int .i64 n]) (v := Value.bool false) (ps := [(decide (n ≥ 2)) = true, (decide (n ≤ 6)) = false]) (call_spec noΨ_spec mixed 4) mixed (by kernel_rfl) (ob_cons h0 (ob_cons h1 ob_nil)) (by kernel_rfl) (by kernel_rfl) w).mono ?_
      rintro e w1 ⟨rfl, hb⟩; exact ⟨by simp only [rfails_0, h0, h1, cond_true, cond_false], hb⟩
  · refine (calls_orc (call := aCall Try.prog noΨ 10 100 4) (ω := [(128, .soft (.bool false))]) (LF := 10) (F := 100) (av := [.int .i64 n]) (v := Value.bool false) (ps := [(decide (n ≥ 2)) = false]) (call_spec noΨ_spec mixed 4) mixed (by kernel_rfl) (ob_cons h0 ob_nil) (by kernel_rfl) (by kernel_rfl) w).mono ?_
    rintro e w1 ⟨rfl, hb⟩; exact ⟨by simp only [rfails_0, h0, cond_true, cond_false], hb⟩
def ψrfails : CallF := fun f args H _ =>
  if f = 31 then match args with
    | [.int .i64 n] => some (Value.bool (rfails_0 n), H)
    | _ => none
  else none
theorem ψrfails_spec : CallSpec Try.prog ψrfails := by
  intro g av Hs lo v H1 h D ρ w args hlt hsz hav hw
  unfold ψrfails at h
  split at h
  · rename_i hg
    subst hg
    split at h
    · cases h; exact spec_of_pure (fun w => rfails_any _ w) (by kernel_rfl) (by kernel_rfl) hsz hav hw
    · cases h
  · cases h
theorem lives_any  (w : World) : Calls Try.prog 8 #[] w (fun e w1 => e = .returned (Value.bool true) ∧ Below w.heap.size w w1) := by
  refine (calls_orc (call := aCall Try.prog noΨ 10 100 4) (ω := []) (LF := 10) (F := 100) (av := []) (v := Value.bool true) (ps := []) (call_spec noΨ_spec mixed 4) mixed (by kernel_rfl) ob_nil (by kernel_rfl) (by kernel_rfl) w).mono ?_
  exact fun e w1 h => h
def ψlives : CallF := fun f args H _ =>
  if f = 8 then match args with
    | [] => some (Value.bool true, H)
    | _ => none
  else none
theorem ψlives_spec : CallSpec Try.prog ψlives := by
  intro g av Hs lo v H1 h D ρ w args hlt hsz hav hw
  unfold ψlives at h
  split at h
  · rename_i hg
    subst hg
    split at h
    · cases h; exact spec_of_pure (fun w => lives_any  w) (by kernel_rfl) (by kernel_rfl) hsz hav hw
    · cases h
  · cases h
def ΨS1_0 : CallF := orΨ ψodd noΨ
theorem ΨS1_0_spec : CallSpec Try.prog ΨS1_0 := orΨ_spec ψodd_spec noΨ_spec
def ΨS1_1 : CallF := orΨ ψgood ΨS1_0
theorem ΨS1_1_spec : CallSpec Try.prog ΨS1_1 := orΨ_spec ψgood_spec ΨS1_0_spec
def ΨS1_2 : CallF := orΨ ψsent ΨS1_1
theorem ΨS1_2_spec : CallSpec Try.prog ΨS1_2 := orΨ_spec ψsent_spec ΨS1_1_spec
def ΨS1_3 : CallF := orΨ ψfails ΨS1_2
theorem ΨS1_3_spec : CallSpec Try.prog ΨS1_3 := orΨ_spec ψfails_spec ΨS1_2_spec
def ΨS1_4 : CallF := orΨ ψrfails ΨS1_3
theorem ΨS1_4_spec : CallSpec Try.prog ΨS1_4 := orΨ_spec ψrfails_spec ΨS1_3_spec
def ΨS1 : CallF := orΨ ψlives ΨS1_4
theorem ΨS1_spec : CallSpec Try.prog ΨS1 := orΨ_spec ψlives_spec ΨS1_4_spec
end Go.Proofs.Ytmiheegkilgimaa
