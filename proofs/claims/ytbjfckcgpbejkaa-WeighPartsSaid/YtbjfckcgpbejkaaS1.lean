/- Contracts that the engine has found; their texts are a program's. -/
import Derived.Test.YtbjfckcgpbejkaaX13
import Derived.Test.YtbjfckcgpbejkaaProg
namespace Go.Proofs.Ytbjfckcgpbejkaa
set_option linter.unusedSectionVars false
open Go.RowKit
set_option linter.unusedVariables false
set_option maxRecDepth 100000
theorem mixed : Try.prog.follows .mixedOrders = true := by kernel_rfl
def cmpu_0 (a : Int) (b : Int) : Int := (bif (a != a) then (bif (b != b) then 0 else (-1)) else (bif (b != b) then 1 else (bif (decide (a < b)) then (-1) else (bif (decide (a > b)) then 1 else 0))))
theorem cmpu_any (a : Int) (b : Int) (w : World) : Calls Try.prog 34 #[.int .u64 a, .int .u64 b] w (fun e w1 => e = .returned (Value.int IntKind.i64 (cmpu_0 a b)) ∧ Below w.heap.size w w1) := by
  rcases Bool.eq_false_or_eq_true (a != a) with h0 | h0
  · rcases Bool.eq_false_or_eq_true (b != b) with h1 | h1
    · refine (calls_orc (call := aCall Try.prog noΨ 10 100 4) (ω := [(128, .soft (.bool true)), (320, .soft (.bool true))]) (LF := 10) (F := 100) (av := [.int .u64 a, .int .u64 b]) (v := Value.int IntKind.i64 0) (ps := [(a != a) = true, (b != b) = true]) (call_spec noΨ_spec mixed 4) mixed (by kernel_rfl) (ob_cons h0 (ob_cons h1 ob_nil)) (by kernel_rfl) (by kernel_rfl) w).mono ?_
      rintro e w1 ⟨rfl, hb⟩; exact ⟨by simp only [cmpu_0, h0, h1, cond_true, cond_false], hb⟩
    · refine (calls_orc (call := aCall Try.prog noΨ 10 100 4) (ω := [(128, .soft (.bool true)), (320, .soft (.bool false))]) (LF := 10) (F := 100) (av := [.int .u64 a, .int .u64 b]) (v := Value.int IntKind.i64 (-1)) (ps := [(a != a) = true, (b != b) = false]) (call_spec noΨ_spec mixed 4) mixed (by kernel_rfl) (ob_cons h0 (ob_cons h1 ob_nil)) (by kernel_rfl) (by kernel_rfl) w).mono ?_
      rintro e w1 ⟨rfl, hb⟩; exact ⟨by simp only [cmpu_0, h0, h1, cond_true, cond_false], hb⟩
  · rcases Bool.eq_false_or_eq_true (b != b) with h1 | h1
    · refine (calls_orc (call := aCall Try.prog noΨ 10 100 4) (ω := [(128, .soft (.bool false)), (320, .soft (.bool true))]) (LF := 10) (F := 100) (av := [.int .u64 a, .int .u64 b]) (v := Value.int IntKind.i64 1) (ps := [(a != a) = false, (b != b) = true]) (call_spec noΨ_spec mixed 4) mixed (by kernel_rfl) (ob_cons h0 (ob_cons h1 ob_nil)) (by kernel_rfl) (by kernel_rfl) w).mono ?_
      rintro e w1 ⟨rfl, hb⟩; exact ⟨by simp only [cmpu_0, h0, h1, cond_true, cond_false], hb⟩
    · rcases Bool.eq_false_or_eq_true (decide (a < b)) with h2 | h2
      · refine (calls_orc (call := aCall Try.prog noΨ 10 100 4) (ω := [(128, .soft (.bool false)), (320, .soft (.bool false)), (704, .soft (.bool true))]) (LF := 10) (F := 100) (av := [.int .u64 a, .int .u64 b]) (v := Value.int IntKind.i64 (-1)) (ps := [(a != a) = false, (b != b) = false, (decide (a < b)) = true]) (call_spec noΨ_spec mixed 4) mixed (by kernel_rfl) (ob_cons h0 (ob_cons h1 (ob_cons h2 ob_nil))) (by kernel_rfl) (by kernel_rfl) w).mono ?_
        rintro e w1 ⟨rfl, hb⟩; exact ⟨by simp only [cmpu_0, h0, h1, h2, cond_true, cond_false], hb⟩
      · rcases Bool.eq_false_or_eq_true (decide (a > b)) with h3 | h3
        · refine (calls_orc (call := aCall Try.prog noΨ 10 100 4) (ω := [(128, .soft (.bool false)), (320, .soft (.bool false)), (704, .soft (.bool false)), (896, .soft (.bool true))]) (LF := 10) (F := 100) (av := [.int .u64 a, .int .u64 b]) (v := Value.int IntKind.i64 1) (ps := [(a != a) = false, (b != b) = false, (decide (a < b)) = false, (decide (a > b)) = true]) (call_spec noΨ_spec mixed 4) mixed (by kernel_rfl) (ob_cons h0 (ob_cons h1 (ob_cons h2 (ob_cons h3 ob_nil)))) (by kernel_rfl) (by kernel_rfl) w).mono ?_
          rintro e w1 ⟨rfl, hb⟩; exact ⟨by simp only [cmpu_0, h0, h1, h2, h3, cond_true, cond_false], hb⟩
        · refine (calls_orc (call := aCall Try.prog noΨ 10 100 4) (ω := [(128, .soft (.bool false)), (320, .soft (.bool false)), (704, .soft (.bool false)), (896, .soft (.bool false))]) (LF := 10) (F := 100) (av := [.int .u64 a, .int .u64 b]) (v := Value.int IntKind.i64 0) (ps := [(a != a) = false, (b != b) = false, (decide (a < b)) = false, (decide (a > b)) = false]) (call_spec noΨ_spec mixed 4) mixed (by kernel_rfl) (ob_cons h0 (ob_cons h1 (ob_cons h2 (ob_cons h3 ob_nil)))) (by kernel_rfl) (by kernel_rfl) w).mono ?_
          rintro e w1 ⟨rfl, hb⟩; exact ⟨by simp only [cmpu_0, h0, h1, h2, h3, cond_true, cond_false], hb⟩
def ψcmpu : CallF := fun f args H _ =>
  if f = 34 then match args with
    | [.int .u64 a, .int .u64 b] => some (Value.int IntKind.i64 (cmpu_0 a b), H)
    | _ => none
  else none
theorem ψcmpu_spec [Inhabited RawG] : CallSpec Try.prog ψcmpu := by
  intro g av Hs lo v H1 h D ρ w args hlt hsz hav hw
  unfold ψcmpu at h
  split at h
  · rename_i hg
    subst hg
    split at h
    · cases h; exact spec_of_pure (fun w => cmpu_any _ _ w) (by kernel_rfl) (by kernel_rfl) hsz hav hw
    · cases h
  · cases h
def ΨS1 : CallF := orΨ ψcmpu noΨ
theorem ΨS1_spec [Inhabited RawG] : CallSpec Try.prog ΨS1 := orΨ_spec ψcmpu_spec noΨ_spec
end Go.Proofs.Ytbjfckcgpbejkaa
