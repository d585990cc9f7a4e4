/- Contracts that the engine has found; their texts are a program's. -/
import Derived.Test.YtaocnakbhicgiaaX13
import Derived.Test.YtaocnakbhicgiaaProg
namespace Go.Proofs.Ytaocnakbhicgiaa
open Go.RowKit
set_option linter.unusedVariables false
set_option maxRecDepth 100000
theorem mixed : Try.prog.follows .mixedOrders = true := by kernel_rfl
def within_0 (n : Int) : Bool := (bif (decide (n ≥ 1)) then (bif (decide (n ≤ 1048576)) then true else false) else false)
theorem within_any (n : Int) (w : World) : Calls Try.prog 17 #[.int .i64 n] w (fun e w1 => e = .returned (Value.bool (within_0 n)) ∧ Below w.heap.size w w1) := by
  rcases Bool.eq_false_or_eq_true (decide (n ≥ 1)) with h0 | h0
  · rcases Bool.eq_false_or_eq_true (decide (n ≤ 1048576)) with h1 | h1
    · refine (calls_orc (call := aCall Try.prog noΨ 10 100 4) (ω := [(128, .soft (.bool true)), (320, .soft (.bool true))]) (LF := 10) (F := 100) (av := [.int .i64 n]) (v := Value.bool true) (ps := [(decide (n ≥ 1)) = true, (decide (n ≤ 1048576)) = true]) (call_spec noΨ_spec mixed 4) mixed (by kernel_rfl) (ob_cons h0 (ob_cons h1 ob_nil)) (by kernel_rfl) (by kernel_rfl) w).mono ?_
      rintro e w1 ⟨rfl, hb⟩; exact ⟨by simp only [within_0, h0, h1, cond_true, cond_false], hb⟩
    · refine (calls_orc (call := aCall Try.prog noΨ 10 100 4) (ω := [(128, .soft (.bool true)), (320, .soft (.bool false))]) (LF := 10) (F := 100) (av := [.int .i64 n]) (v := Value.bool false) (ps := [(decide (n ≥ 1)) = true, (decide (n ≤ 1048576)) = false]) (call_spec noΨ_spec mixed 4) mixed (by kernel_rfl) (ob_cons h0 (ob_cons h1 ob_nil)) (by kernel_rfl) (by kernel_rfl) w).mono ?_
      rintro e w1 ⟨rfl, hb⟩; exact ⟨by simp only [within_0, h0, h1, cond_true, cond_false], hb⟩
  · refine (calls_orc (call := aCall Try.prog noΨ 10 100 4) (ω := [(128, .soft (.bool false))]) (LF := 10) (F := 100) (av := [.int .i64 n]) (v := Value.bool false) (ps := [(decide (n ≥ 1)) = false]) (call_spec noΨ_spec mixed 4) mixed (by kernel_rfl) (ob_cons h0 ob_nil) (by kernel_rfl) (by kernel_rfl) w).mono ?_
    rintro e w1 ⟨rfl, hb⟩; exact ⟨by simp only [within_0, h0, cond_true, cond_false], hb⟩
def ψwithin : CallF := fun f args H _ =>
  if f = 17 then match args with
    | [.int .i64 n] => some (Value.bool (within_0 n), H)
    | _ => none
  else none
theorem ψwithin_spec : CallSpec Try.prog ψwithin := by
  intro g av Hs lo v H1 h D ρ w args hlt hsz hav hw
  unfold ψwithin at h
  split at h
  · rename_i hg
    subst hg
    split at h
    · cases h; exact spec_of_pure (fun w => within_any _ w) (by kernel_rfl) (by kernel_rfl) hsz hav hw
    · cases h
  · cases h
theorem turned_any (s : Int) (f : Int) (u : Int) (o : Int) (g : Int) (p : Int) (t : Int) (x : Int) (w : World) : Calls Try.prog 24 #[.agg #[.int .i64 s, .int .i64 f, .int .i64 u, .int .i64 o, .int .i64 g, .int .i64 p], .int .i64 t, .int .i64 x] w (fun e w1 => e = .returned (Value.agg #[Value.int IntKind.i64 t, Value.int IntKind.i64 0, Value.int IntKind.i64 x, Value.int IntKind.i64 0, Value.int IntKind.i64 0, Value.int IntKind.i64 ((IntKind.i64.wrap (p + 1)))]) ∧ Below w.heap.size w w1) := by
  refine (calls_orc (call := aCall Try.prog noΨ 10 100 4) (ω := []) (LF := 10) (F := 100) (av := [.agg #[.int .i64 s, .int .i64 f, .int .i64 u, .int .i64 o, .int .i64 g, .int .i64 p], .int .i64 t, .int .i64 x]) (v := Value.agg #[Value.int IntKind.i64 t, Value.int IntKind.i64 0, Value.int IntKind.i64 x, Value.int IntKind.i64 0, Value.int IntKind.i64 0, Value.int IntKind.i64 (IntKind.i64.wrap (p + 1))]) (ps := []) (call_spec noΨ_spec mixed 4) mixed (by kernel_rfl) ob_nil (by kernel_rfl) (by kernel_rfl) w).mono ?_
  exact fun e w1 h => h
def ψturned : CallF := fun f args H _ =>
  if f = 24 then match args with
    | [.agg ⟨[.int .i64 s, .int .i64 f, .int .i64 u, .int .i64 o, .int .i64 g, .int .i64 p]⟩, .int .i64 t, .int .i64 x] => some (Value.agg #[Value.int IntKind.i64 t, Value.int IntKind.i64 0, Value.int IntKind.i64 x, Value.int IntKind.i64 0, Value.int IntKind.i64 0, Value.int IntKind.i64 ((IntKind.i64.wrap (p + 1)))], H)
    | _ => none
  else none
theorem ψturned_spec : CallSpec Try.prog ψturned := by
  intro g av Hs lo v H1 h D ρ w args hlt hsz hav hw
  unfold ψturned at h
  split at h
  · rename_i hg
    subst hg
    split at h
    · cases h; exact spec_of_pure (fun w => turned_any _ _ _ _ _ _ _ _ w) (by kernel_rfl) (by kernel_rfl) hsz hav hw
    · cases h
  · cases h
theorem newB_any  (w : World) : Calls Try.prog 9 #[] w (fun e w1 => e = .returned (Value.agg #[Value.int IntKind.i64 1, Value.int IntKind.i64 0, Value.int IntKind.i64 0, Value.int IntKind.i64 0, Value.int IntKind.i64 0, Value.int IntKind.i64 0]) ∧ Below w.heap.size w w1) := by
  refine (calls_orc (call := aCall Try.prog noΨ 10 100 4) (ω := []) (LF := 10) (F := 100) (av := []) (v := Value.agg #[Value.int IntKind.i64 1, Value.int IntKind.i64 0, Value.int IntKind.i64 0, Value.int IntKind.i64 0, Value.int IntKind.i64 0, Value.int IntKind.i64 0]) (ps := []) (call_spec noΨ_spec mixed 4) mixed (by kernel_rfl) ob_nil (by kernel_rfl) (by kernel_rfl) w).mono ?_
  exact fun e w1 h => h
def ψnewB : CallF := fun f args H _ =>
  if f = 9 then match args with
    | [] => some (Value.agg #[Value.int IntKind.i64 1, Value.int IntKind.i64 0, Value.int IntKind.i64 0, Value.int IntKind.i64 0, Value.int IntKind.i64 0, Value.int IntKind.i64 0], H)
    | _ => none
  else none
theorem ψnewB_spec : CallSpec Try.prog ψnewB := by
  intro g av Hs lo v H1 h D ρ w args hlt hsz hav hw
  unfold ψnewB at h
  split at h
  · rename_i hg
    subst hg
    split at h
    · cases h; exact spec_of_pure (fun w => newB_any  w) (by kernel_rfl) (by kernel_rfl) hsz hav hw
    · cases h
  · cases h
def ΨS1_0 : CallF := orΨ ψwithin noΨ
theorem ΨS1_0_spec : CallSpec Try.prog ΨS1_0 := orΨ_spec ψwithin_spec noΨ_spec
def ΨS1_1 : CallF := orΨ ψturned ΨS1_0
theorem ΨS1_1_spec : CallSpec Try.prog ΨS1_1 := orΨ_spec ψturned_spec ΨS1_0_spec
def ΨS1 : CallF := orΨ ψnewB ΨS1_1
theorem ΨS1_spec : CallSpec Try.prog ΨS1 := orΨ_spec ψnewB_spec ΨS1_1_spec
end Go.Proofs.Ytaocnakbhicgiaa
