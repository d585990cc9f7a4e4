/- Contracts that the engine has found; their texts are a program's. -/
import Derived.Test.YtbmgigbcilgieaaX13
import Derived.Test.YtbmgigbcilgieaaProg
namespace Go.Proofs.Ytbmgigbcilgieaa
open Go.RowKit
set_option linter.unusedVariables false
set_option maxRecDepth 100000
theorem mixed : Try.prog.follows .mixedOrders = true := by kernel_rfl
def within_0 (n : Int) (most : Int) : Bool := (bif (decide (n ≥ 1)) then (bif (decide (n ≤ most)) then true else false) else false)
theorem within_any (n : Int) (most : Int) (w : World) : Calls Try.prog 24 #[.int .i64 n, .int .i64 most] w (fun e w1 => e = .returned (Value.bool (within_0 n most)) ∧ Below w.heap.size w w1) := by
  rcases Bool.eq_false_or_eq_true (decide (n ≥ 1)) with h0 | h0
  · rcases Bool.eq_false_or_eq_true (decide (n ≤ most)) with h1 | h1
    · refine (calls_orc (call := aCall Try.prog noΨ 10 100 4) (ω := [(128, .soft (.bool true)), (384, .soft (.bool true))]) (LF := 10) (F := 100) (av := [.int .i64 n, .int .i64 most]) (v := Value.bool true) (ps := [(decide (n ≥ 1)) = true, (decide (n ≤ most)) = true]) (call_spec noΨ_spec mixed 4) mixed (by kernel_rfl) (ob_cons h0 (ob_cons h1 ob_nil)) (by kernel_rfl) (by kernel_rfl) w).mono ?_
      rintro e w1 ⟨rfl, hb⟩; exact ⟨by simp only [within_0, h0, h1, cond_true, cond_false], hb⟩
    · refine (calls_orc (call := aCall Try.prog noΨ 10 100 4) (ω := [(128, .soft (.bool true)), (384, .soft (.bool false))]) (LF := 10) (F := 100) (av := [.int .i64 n, .int .i64 most]) (v := Value.bool false) (ps := [(decide (n ≥ 1)) = true, (decide (n ≤ most)) = false]) (call_spec noΨ_spec mixed 4) mixed (by kernel_rfl) (ob_cons h0 (ob_cons h1 ob_nil)) (by kernel_rfl) (by kernel_rfl) w).mono ?_
      rintro e w1 ⟨rfl, hb⟩; exact ⟨by simp only [within_0, h0, h1, cond_true, cond_false], hb⟩
  · refine (calls_orc (call := aCall Try.prog noΨ 10 100 4) (ω := [(128, .soft (.bool false))]) (LF := 10) (F := 100) (av := [.int .i64 n, .int .i64 most]) (v := Value.bool false) (ps := [(decide (n ≥ 1)) = false]) (call_spec noΨ_spec mixed 4) mixed (by kernel_rfl) (ob_cons h0 ob_nil) (by kernel_rfl) (by kernel_rfl) w).mono ?_
    rintro e w1 ⟨rfl, hb⟩; exact ⟨by simp only [within_0, h0, cond_true, cond_false], hb⟩
def ψwithin : CallF := fun f args H _ =>
  if f = 24 then match args with
    | [.int .i64 n, .int .i64 most] => some (Value.bool (within_0 n most), H)
    | _ => none
  else none
theorem ψwithin_spec : CallSpec Try.prog ψwithin := by
  intro g av Hs lo v H1 h D ρ w args hlt hsz hav hw
  unfold ψwithin at h
  split at h
  · rename_i hg
    subst hg
    split at h
    · cases h; exact spec_of_pure (fun w => within_any _ _ w) (by kernel_rfl) (by kernel_rfl) hsz hav hw
    · cases h
  · cases h
theorem newP_any  (w : World) : Calls Try.prog 12 #[] w (fun e w1 => e = .returned (Value.agg #[Value.bool true, Value.int IntKind.i64 0, Value.int IntKind.i64 0, Value.bool false, Value.int IntKind.i64 0]) ∧ Below w.heap.size w w1) := by
  refine (calls_orc (call := aCall Try.prog noΨ 10 100 4) (ω := []) (LF := 10) (F := 100) (av := []) (v := Value.agg #[Value.bool true, Value.int IntKind.i64 0, Value.int IntKind.i64 0, Value.bool false, Value.int IntKind.i64 0]) (ps := []) (call_spec noΨ_spec mixed 4) mixed (by kernel_rfl) ob_nil (by kernel_rfl) (by kernel_rfl) w).mono ?_
  exact fun e w1 h => h
def ψnewP : CallF := fun f args H _ =>
  if f = 12 then match args with
    | [] => some (Value.agg #[Value.bool true, Value.int IntKind.i64 0, Value.int IntKind.i64 0, Value.bool false, Value.int IntKind.i64 0], H)
    | _ => none
  else none
theorem ψnewP_spec : CallSpec Try.prog ψnewP := by
  intro g av Hs lo v H1 h D ρ w args hlt hsz hav hw
  unfold ψnewP at h
  split at h
  · rename_i hg
    subst hg
    split at h
    · cases h; exact spec_of_pure (fun w => newP_any  w) (by kernel_rfl) (by kernel_rfl) hsz hav hw
    · cases h
  · cases h
def number_0 (x : Bool) : Int := (bif (x) then 1 else 0)
theorem number_any (x : Bool) (w : World) : Calls Try.prog 27 #[.bool x] w (fun e w1 => e = .returned (Value.int IntKind.i64 (number_0 x)) ∧ Below w.heap.size w w1) := by
  rcases Bool.eq_false_or_eq_true (x) with h0 | h0
  · refine (calls_orc (call := aCall Try.prog noΨ 10 100 4) (ω := [(64, .soft (.bool true))]) (LF := 10) (F := 100) (av := [.bool x]) (v := Value.int IntKind.i64 1) (ps := [(x) = true]) (call_spec noΨ_spec mixed 4) mixed (by kernel_rfl) (ob_cons h0 ob_nil) (by kernel_rfl) (by kernel_rfl) w).mono ?_
    rintro e w1 ⟨rfl, hb⟩; exact ⟨by simp only [number_0, h0, cond_true, cond_false], hb⟩
  · refine (calls_orc (call := aCall Try.prog noΨ 10 100 4) (ω := [(64, .soft (.bool false))]) (LF := 10) (F := 100) (av := [.bool x]) (v := Value.int IntKind.i64 0) (ps := [(x) = false]) (call_spec noΨ_spec mixed 4) mixed (by kernel_rfl) (ob_cons h0 ob_nil) (by kernel_rfl) (by kernel_rfl) w).mono ?_
    rintro e w1 ⟨rfl, hb⟩; exact ⟨by simp only [number_0, h0, cond_true, cond_false], hb⟩
def ψnumber : CallF := fun f args H _ =>
  if f = 27 then match args with
    | [.bool x] => some (Value.int IntKind.i64 (number_0 x), H)
    | _ => none
  else none
theorem ψnumber_spec : CallSpec Try.prog ψnumber := by
  intro g av Hs lo v H1 h D ρ w args hlt hsz hav hw
  unfold ψnumber at h
  split at h
  · rename_i hg
    subst hg
    split at h
    · cases h; exact spec_of_pure (fun w => number_any _ w) (by kernel_rfl) (by kernel_rfl) hsz hav hw
    · cases h
  · cases h
def behind_0 (now : Int) (wh : Int) : Int := (bif (decide (wh > IntKind.i64.wrap (253402300799 - now))) then 253402300799 else (IntKind.i64.wrap (now + wh)))
theorem behind_any (now : Int) (wh : Int) (w : World) : Calls Try.prog 29 #[.int .i64 now, .int .i64 wh] w (fun e w1 => e = .returned (Value.int IntKind.i64 (behind_0 now wh)) ∧ Below w.heap.size w w1) := by
  rcases Bool.eq_false_or_eq_true (decide (wh > IntKind.i64.wrap (253402300799 - now))) with h0 | h0
  · refine (calls_orc (call := aCall Try.prog noΨ 10 100 4) (ω := [(256, .soft (.bool true))]) (LF := 10) (F := 100) (av := [.int .i64 now, .int .i64 wh]) (v := Value.int IntKind.i64 253402300799) (ps := [(decide (wh > IntKind.i64.wrap (253402300799 - now))) = true]) (call_spec noΨ_spec mixed 4) mixed (by kernel_rfl) (ob_cons h0 ob_nil) (by kernel_rfl) (by kernel_rfl) w).mono ?_
    rintro e w1 ⟨rfl, hb⟩; exact ⟨by simp only [behind_0, h0, cond_true, cond_false], hb⟩
  · refine (calls_orc (call := aCall Try.prog noΨ 10 100 4) (ω := [(256, .soft (.bool false))]) (LF := 10) (F := 100) (av := [.int .i64 now, .int .i64 wh]) (v := Value.int IntKind.i64 (IntKind.i64.wrap (now + wh))) (ps := [(decide (wh > IntKind.i64.wrap (253402300799 - now))) = false]) (call_spec noΨ_spec mixed 4) mixed (by kernel_rfl) (ob_cons h0 ob_nil) (by kernel_rfl) (by kernel_rfl) w).mono ?_
    rintro e w1 ⟨rfl, hb⟩; exact ⟨by simp only [behind_0, h0, cond_true, cond_false], hb⟩
def ψbehind : CallF := fun f args H _ =>
  if f = 29 then match args with
    | [.int .i64 now, .int .i64 wh] => some (Value.int IntKind.i64 (behind_0 now wh), H)
    | _ => none
  else none
theorem ψbehind_spec : CallSpec Try.prog ψbehind := by
  intro g av Hs lo v H1 h D ρ w args hlt hsz hav hw
  unfold ψbehind at h
  split at h
  · rename_i hg
    subst hg
    split at h
    · cases h; exact spec_of_pure (fun w => behind_any _ _ w) (by kernel_rfl) (by kernel_rfl) hsz hav hw
    · cases h
  · cases h
def time_0 (now : Int) : Bool := (bif (decide (now ≥ 0)) then (bif (decide (now ≤ 253402300799)) then true else false) else false)
theorem time_any (now : Int) (w : World) : Calls Try.prog 31 #[.int .i64 now] w (fun e w1 => e = .returned (Value.bool (time_0 now)) ∧ Below w.heap.size w w1) := by
  rcases Bool.eq_false_or_eq_true (decide (now ≥ 0)) with h0 | h0
  · rcases Bool.eq_false_or_eq_true (decide (now ≤ 253402300799)) with h1 | h1
    · refine (calls_orc (call := aCall Try.prog noΨ 10 100 4) (ω := [(128, .soft (.bool true)), (320, .soft (.bool true))]) (LF := 10) (F := 100) (av := [.int .i64 now]) (v := Value.bool true) (ps := [(decide (now ≥ 0)) = true, (decide (now ≤ 253402300799)) = true]) (call_spec noΨ_spec mixed 4) mixed (by kernel_rfl) (ob_cons h0 (ob_cons h1 ob_nil)) (by kernel_rfl) (by kernel_rfl) w).mono ?_
      rintro e w1 ⟨rfl, hb⟩; exact ⟨by simp only [time_0, h0, h1, cond_true, cond_false], hb⟩
    · refine (calls_orc (call := aCall Try.prog noΨ 10 100 4) (ω := [(128, .soft (.bool true)), (320, .soft (.bool false))]) (LF := 10) (F := 100) (av := [.int .i64 now]) (v := Value.bool false) (ps := [(decide (now ≥ 0)) = true, (decide (now ≤ 253402300799)) = false]) (call_spec noΨ_spec mixed 4) mixed (by kernel_rfl) (ob_cons h0 (ob_cons h1 ob_nil)) (by kernel_rfl) (by kernel_rfl) w).mono ?_
      rintro e w1 ⟨rfl, hb⟩; exact ⟨by simp only [time_0, h0, h1, cond_true, cond_false], hb⟩
  · refine (calls_orc (call := aCall Try.prog noΨ 10 100 4) (ω := [(128, .soft (.bool false))]) (LF := 10) (F := 100) (av := [.int .i64 now]) (v := Value.bool false) (ps := [(decide (now ≥ 0)) = false]) (call_spec noΨ_spec mixed 4) mixed (by kernel_rfl) (ob_cons h0 ob_nil) (by kernel_rfl) (by kernel_rfl) w).mono ?_
    rintro e w1 ⟨rfl, hb⟩; exact ⟨by simp only [time_0, h0, cond_true, cond_false], hb⟩
def ψtime : CallF := fun f args H _ =>
  if f = 31 then match args with
    | [.int .i64 now] => some (Value.bool (time_0 now), H)
    | _ => none
  else none
theorem ψtime_spec : CallSpec Try.prog ψtime := by
  intro g av Hs lo v H1 h D ρ w args hlt hsz hav hw
  unfold ψtime at h
  split at h
  · rename_i hg
    subst hg
    split at h
    · cases h; exact spec_of_pure (fun w => time_any _ w) (by kernel_rfl) (by kernel_rfl) hsz hav hw
    · cases h
  · cases h
theorem rnewP_any  (w : World) : Calls Try.prog 30 #[] w (fun e w1 => e = .returned (Value.agg #[Value.bool true, Value.int IntKind.i64 0, Value.int IntKind.i64 0, Value.bool false, Value.int IntKind.i64 0]) ∧ Below w.heap.size w w1) := by
  refine (calls_orc (call := aCall Try.prog noΨ 10 100 4) (ω := []) (LF := 10) (F := 100) (av := []) (v := Value.agg #[Value.bool true, Value.int IntKind.i64 0, Value.int IntKind.i64 0, Value.bool false, Value.int IntKind.i64 0]) (ps := []) (call_spec noΨ_spec mixed 4) mixed (by kernel_rfl) ob_nil (by kernel_rfl) (by kernel_rfl) w).mono ?_
  exact fun e w1 h => h
def ψrnewP : CallF := fun f args H _ =>
  if f = 30 then match args with
    | [] => some (Value.agg #[Value.bool true, Value.int IntKind.i64 0, Value.int IntKind.i64 0, Value.bool false, Value.int IntKind.i64 0], H)
    | _ => none
  else none
theorem ψrnewP_spec : CallSpec Try.prog ψrnewP := by
  intro g av Hs lo v H1 h D ρ w args hlt hsz hav hw
  unfold ψrnewP at h
  split at h
  · rename_i hg
    subst hg
    split at h
    · cases h; exact spec_of_pure (fun w => rnewP_any  w) (by kernel_rfl) (by kernel_rfl) hsz hav hw
    · cases h
  · cases h
def due_0 (up : Bool) (run : Int) (nxt : Int) (out : Bool) (since : Int) (now : Int) : Bool := (bif (out) then false else (bif (decide (nxt ≤ now)) then true else false))
theorem due_any (up : Bool) (run : Int) (nxt : Int) (out : Bool) (since : Int) (now : Int) (w : World) : Calls Try.prog 15 #[.agg #[.bool up, .int .i64 run, .int .i64 nxt, .bool out, .int .i64 since], .int .i64 now] w (fun e w1 => e = .returned (Value.bool (due_0 up run nxt out since now)) ∧ Below w.heap.size w w1) := by
  rcases Bool.eq_false_or_eq_true (out) with h0 | h0
  · refine (calls_orc (call := aCall Try.prog noΨ 10 100 4) (ω := [(192, .soft (.bool true))]) (LF := 10) (F := 100) (av := [.agg #[.bool up, .int .i64 run, .int .i64 nxt, .bool out, .int .i64 since], .int .i64 now]) (v := Value.bool false) (ps := [(out) = true]) (call_spec noΨ_spec mixed 4) mixed (by kernel_rfl) (ob_cons h0 ob_nil) (by kernel_rfl) (by kernel_rfl) w).mono ?_
    rintro e w1 ⟨rfl, hb⟩; exact ⟨by simp only [due_0, h0, cond_true, cond_false], hb⟩
  · rcases Bool.eq_false_or_eq_true (decide (nxt ≤ now)) with h1 | h1
    · refine (calls_orc (call := aCall Try.prog noΨ 10 100 4) (ω := [(192, .soft (.bool false)), (576, .soft (.bool true))]) (LF := 10) (F := 100) (av := [.agg #[.bool up, .int .i64 run, .int .i64 nxt, .bool out, .int .i64 since], .int .i64 now]) (v := Value.bool true) (ps := [(out) = false, (decide (nxt ≤ now)) = true]) (call_spec noΨ_spec mixed 4) mixed (by kernel_rfl) (ob_cons h0 (ob_cons h1 ob_nil)) (by kernel_rfl) (by kernel_rfl) w).mono ?_
      rintro e w1 ⟨rfl, hb⟩; exact ⟨by simp only [due_0, h0, h1, cond_true, cond_false], hb⟩
    · refine (calls_orc (call := aCall Try.prog noΨ 10 100 4) (ω := [(192, .soft (.bool false)), (576, .soft (.bool false))]) (LF := 10) (F := 100) (av := [.agg #[.bool up, .int .i64 run, .int .i64 nxt, .bool out, .int .i64 since], .int .i64 now]) (v := Value.bool false) (ps := [(out) = false, (decide (nxt ≤ now)) = false]) (call_spec noΨ_spec mixed 4) mixed (by kernel_rfl) (ob_cons h0 (ob_cons h1 ob_nil)) (by kernel_rfl) (by kernel_rfl) w).mono ?_
      rintro e w1 ⟨rfl, hb⟩; exact ⟨by simp only [due_0, h0, h1, cond_true, cond_false], hb⟩
def ψdue : CallF := fun f args H _ =>
  if f = 15 then match args with
    | [.agg ⟨[.bool up, .int .i64 run, .int .i64 nxt, .bool out, .int .i64 since]⟩, .int .i64 now] => some (Value.bool (due_0 up run nxt out since now), H)
    | _ => none
  else none
theorem ψdue_spec : CallSpec Try.prog ψdue := by
  intro g av Hs lo v H1 h D ρ w args hlt hsz hav hw
  unfold ψdue at h
  split at h
  · rename_i hg
    subst hg
    split at h
    · cases h; exact spec_of_pure (fun w => due_any _ _ _ _ _ _ w) (by kernel_rfl) (by kernel_rfl) hsz hav hw
    · cases h
  · cases h
def rdue_0 (up : Bool) (run : Int) (nxt : Int) (out : Bool) (since : Int) (now : Int) : Bool := (bif (out) then false else (bif (decide (nxt ≤ now)) then true else false))
theorem rdue_any (up : Bool) (run : Int) (nxt : Int) (out : Bool) (since : Int) (now : Int) (w : World) : Calls Try.prog 20 #[.agg #[.bool up, .int .i64 run, .int .i64 nxt, .bool out, .int .i64 since], .int .i64 now] w (fun e w1 => e = .returned (Value.bool (rdue_0 up run nxt out since now)) ∧ Below w.heap.size w w1) := by
  rcases Bool.eq_false_or_eq_true (out) with h0 | h0
  · refine (calls_orc (call := aCall Try.prog noΨ 10 100 4) (ω := [(192, .soft (.bool true))]) (LF := 10) (F := 100) (av := [.agg #[.bool up, .int .i64 run, .int .i64 nxt, .bool out, .int .i64 since], .int .i64 now]) (v := Value.bool false) (ps := [(out) = true]) (call_spec noΨ_spec mixed 4) mixed (by kernel_rfl) (ob_cons h0 ob_nil) (by kernel_rfl) (by kernel_rfl) w).mono ?_
    rintro e w1 ⟨rfl, hb⟩; exact ⟨by simp only [rdue_0, h0, cond_true, cond_false], hb⟩
  · rcases Bool.eq_false_or_eq_true (decide (nxt ≤ now)) with h1 | h1
    · refine (calls_orc (call := aCall Try.prog noΨ 10 100 4) (ω := [(192, .soft (.bool false)), (576, .soft (.bool true))]) (LF := 10) (F := 100) (av := [.agg #[.bool up, .int .i64 run, .int .i64 nxt, .bool out, .int .i64 since], .int .i64 now]) (v := Value.bool true) (ps := [(out) = false, (decide (nxt ≤ now)) = true]) (call_spec noΨ_spec mixed 4) mixed (by kernel_rfl) (ob_cons h0 (ob_cons h1 ob_nil)) (by kernel_rfl) (by kernel_rfl) w).mono ?_
      rintro e w1 ⟨rfl, hb⟩; exact ⟨by simp only [rdue_0, h0, h1, cond_true, cond_false], hb⟩
    · refine (calls_orc (call := aCall Try.prog noΨ 10 100 4) (ω := [(192, .soft (.bool false)), (576, .soft (.bool false))]) (LF := 10) (F := 100) (av := [.agg #[.bool up, .int .i64 run, .int .i64 nxt, .bool out, .int .i64 since], .int .i64 now]) (v := Value.bool false) (ps := [(out) = false, (decide (nxt ≤ now)) = false]) (call_spec noΨ_spec mixed 4) mixed (by kernel_rfl) (ob_cons h0 (ob_cons h1 ob_nil)) (by kernel_rfl) (by kernel_rfl) w).mono ?_
      rintro e w1 ⟨rfl, hb⟩; exact ⟨by simp only [rdue_0, h0, h1, cond_true, cond_false], hb⟩
def ψrdue : CallF := fun f args H _ =>
  if f = 20 then match args with
    | [.agg ⟨[.bool up, .int .i64 run, .int .i64 nxt, .bool out, .int .i64 since]⟩, .int .i64 now] => some (Value.bool (rdue_0 up run nxt out since now), H)
    | _ => none
  else none
theorem ψrdue_spec : CallSpec Try.prog ψrdue := by
  intro g av Hs lo v H1 h D ρ w args hlt hsz hav hw
  unfold ψrdue at h
  split at h
  · rename_i hg
    subst hg
    split at h
    · cases h; exact spec_of_pure (fun w => rdue_any _ _ _ _ _ _ w) (by kernel_rfl) (by kernel_rfl) hsz hav hw
    · cases h
  · cases h
def ΨS1_0 : CallF := orΨ ψwithin noΨ
theorem ΨS1_0_spec : CallSpec Try.prog ΨS1_0 := orΨ_spec ψwithin_spec noΨ_spec
def ΨS1_1 : CallF := orΨ ψnewP ΨS1_0
theorem ΨS1_1_spec : CallSpec Try.prog ΨS1_1 := orΨ_spec ψnewP_spec ΨS1_0_spec
def ΨS1_2 : CallF := orΨ ψnumber ΨS1_1
theorem ΨS1_2_spec : CallSpec Try.prog ΨS1_2 := orΨ_spec ψnumber_spec ΨS1_1_spec
def ΨS1_3 : CallF := orΨ ψbehind ΨS1_2
theorem ΨS1_3_spec : CallSpec Try.prog ΨS1_3 := orΨ_spec ψbehind_spec ΨS1_2_spec
def ΨS1_4 : CallF := orΨ ψtime ΨS1_3
theorem ΨS1_4_spec : CallSpec Try.prog ΨS1_4 := orΨ_spec ψtime_spec ΨS1_3_spec
def ΨS1_5 : CallF := orΨ ψrnewP ΨS1_4
theorem ΨS1_5_spec : CallSpec Try.prog ΨS1_5 := orΨ_spec ψrnewP_spec ΨS1_4_spec
def ΨS1_6 : CallF := orΨ ψdue ΨS1_5
theorem ΨS1_6_spec : CallSpec Try.prog ΨS1_6 := orΨ_spec ψdue_spec ΨS1_5_spec
def ΨS1 : CallF := orΨ ψrdue ΨS1_6
theorem ΨS1_spec : CallSpec Try.prog ΨS1 := orΨ_spec ψrdue_spec ΨS1_6_spec
end Go.Proofs.Ytbmgigbcilgieaa
