/- Contracts that the engine has found; their texts are a program's. -/
import Derived.Test.YtaocnakbhicgiaaS1
import Derived.Test.YtaocnakbhicgiaaProg
namespace Go.Proofs.Ytaocnakbhicgiaa
open Go.RowKit
set_option linter.unusedVariables false
set_option maxRecDepth 100000
def check_0 (cf : Int) (cd : Int) (ct : Int) (cg : Int) : Int := (bif (within_0 cf) then (bif (within_0 ct) then (bif (within_0 cg) then (bif (decide (cg > ct)) then 190 else (bif (decide (cd < 1)) then 190 else (bif (decide (cd > 253402300799)) then 190 else 0))) else 190) else 190) else 190)
theorem check_any (cf : Int) (cd : Int) (ct : Int) (cg : Int) (w : World) : Calls Try.prog 8 #[.agg #[.int .i64 cf, .int .i64 cd, .int .i64 ct, .int .i64 cg]] w (fun e w1 => e = .returned (Value.int IntKind.i64 (check_0 cf cd ct cg)) ∧ Below w.heap.size w w1) := by
  rcases Bool.eq_false_or_eq_true (within_0 cf) with h0 | h0
  · rcases Bool.eq_false_or_eq_true (within_0 ct) with h1 | h1
    · rcases Bool.eq_false_or_eq_true (within_0 cg) with h2 | h2
      · rcases Bool.eq_false_or_eq_true (decide (cg > ct)) with h3 | h3
        · refine (calls_orc (call := aCall Try.prog ΨS1 10 100 4) (ω := [(256, .soft (.bool true)), (576, .soft (.bool true)), (960, .soft (.bool true)), (1472, .soft (.bool true))]) (LF := 10) (F := 100) (av := [.agg #[.int .i64 cf, .int .i64 cd, .int .i64 ct, .int .i64 cg]]) (v := Value.int IntKind.i64 190) (ps := [(within_0 cf) = true, (within_0 ct) = true, (within_0 cg) = true, (decide (cg > ct)) = true]) (call_spec ΨS1_spec mixed 4) mixed (by kernel_rfl) (ob_cons h0 (ob_cons h1 (ob_cons h2 (ob_cons h3 ob_nil)))) (by kernel_rfl) (by kernel_rfl) w).mono ?_
          rintro e w1 ⟨rfl, hb⟩; exact ⟨by simp only [check_0, h0, h1, h2, h3, cond_true, cond_false], hb⟩
        · rcases Bool.eq_false_or_eq_true (decide (cd < 1)) with h4 | h4
          · refine (calls_orc (call := aCall Try.prog ΨS1 10 100 4) (ω := [(256, .soft (.bool true)), (576, .soft (.bool true)), (960, .soft (.bool true)), (1472, .soft (.bool false)), (1792, .soft (.bool true))]) (LF := 10) (F := 100) (av := [.agg #[.int .i64 cf, .int .i64 cd, .int .i64 ct, .int .i64 cg]]) (v := Value.int IntKind.i64 190) (ps := [(within_0 cf) = true, (within_0 ct) = true, (within_0 cg) = true, (decide (cg > ct)) = false, (decide (cd < 1)) = true]) (call_spec ΨS1_spec mixed 4) mixed (by kernel_rfl) (ob_cons h0 (ob_cons h1 (ob_cons h2 (ob_cons h3 (ob_cons h4 ob_nil))))) (by kernel_rfl) (by kernel_rfl) w).mono ?_
            rintro e w1 ⟨rfl, hb⟩; exact ⟨by simp only [check_0, h0, h1, h2, h3, h4, cond_true, cond_false], hb⟩
          · rcases Bool.eq_false_or_eq_true (decide (cd > 253402300799)) with h5 | h5
            · refine (calls_orc (call := aCall Try.prog ΨS1 10 100 4) (ω := [(256, .soft (.bool true)), (576, .soft (.bool true)), (960, .soft (.bool true)), (1472, .soft (.bool false)), (1792, .soft (.bool false)), (2112, .soft (.bool true))]) (LF := 10) (F := 100) (av := [.agg #[.int .i64 cf, .int .i64 cd, .int .i64 ct, .int .i64 cg]]) (v := Value.int IntKind.i64 190) (ps := [(within_0 cf) = true, (within_0 ct) = true, (within_0 cg) = true, (decide (cg > ct)) = false, (decide (cd < 1)) = false, (decide (cd > 253402300799)) = true]) (call_spec ΨS1_spec mixed 4) mixed (by kernel_rfl) (ob_cons h0 (ob_cons h1 (ob_cons h2 (ob_cons h3 (ob_cons h4 (ob_cons h5 ob_nil)))))) (by kernel_rfl) (by kernel_rfl) w).mono ?_
              rintro e w1 ⟨rfl, hb⟩; exact ⟨by simp only [check_0, h0, h1, h2, h3, h4, h5, cond_true, cond_false], hb⟩
            · refine (calls_orc (call := aCall Try.prog ΨS1 10 100 4) (ω := [(256, .soft (.bool true)), (576, .soft (.bool true)), (960, .soft (.bool true)), (1472, .soft (.bool false)), (1792, .soft (.bool false)), (2112, .soft (.bool false))]) (LF := 10) (F := 100) (av := [.agg #[.int .i64 cf, .int .i64 cd, .int .i64 ct, .int .i64 cg]]) (v := Value.int IntKind.i64 0) (ps := [(within_0 cf) = true, (within_0 ct) = true, (within_0 cg) = true, (decide (cg > ct)) = false, (decide (cd < 1)) = false, (decide (cd > 253402300799)) = false]) (call_spec ΨS1_spec mixed 4) mixed (by kernel_rfl) (ob_cons h0 (ob_cons h1 (ob_cons h2 (ob_cons h3 (ob_cons h4 (ob_cons h5 ob_nil)))))) (by kernel_rfl) (by kernel_rfl) w).mono ?_
              rintro e w1 ⟨rfl, hb⟩; exact ⟨by simp only [check_0, h0, h1, h2, h3, h4, h5, cond_true, cond_false], hb⟩
      · refine (calls_orc (call := aCall Try.prog ΨS1 10 100 4) (ω := [(256, .soft (.bool true)), (576, .soft (.bool true)), (960, .soft (.bool false))]) (LF := 10) (F := 100) (av := [.agg #[.int .i64 cf, .int .i64 cd, .int .i64 ct, .int .i64 cg]]) (v := Value.int IntKind.i64 190) (ps := [(within_0 cf) = true, (within_0 ct) = true, (within_0 cg) = false]) (call_spec ΨS1_spec mixed 4) mixed (by kernel_rfl) (ob_cons h0 (ob_cons h1 (ob_cons h2 ob_nil))) (by kernel_rfl) (by kernel_rfl) w).mono ?_
        rintro e w1 ⟨rfl, hb⟩; exact ⟨by simp only [check_0, h0, h1, h2, cond_true, cond_false], hb⟩
    · refine (calls_orc (call := aCall Try.prog ΨS1 10 100 4) (ω := [(256, .soft (.bool true)), (576, .soft (.bool false))]) (LF := 10) (F := 100) (av := [.agg #[.int .i64 cf, .int .i64 cd, .int .i64 ct, .int .i64 cg]]) (v := Value.int IntKind.i64 190) (ps := [(within_0 cf) = true, (within_0 ct) = false]) (call_spec ΨS1_spec mixed 4) mixed (by kernel_rfl) (ob_cons h0 (ob_cons h1 ob_nil)) (by kernel_rfl) (by kernel_rfl) w).mono ?_
      rintro e w1 ⟨rfl, hb⟩; exact ⟨by simp only [check_0, h0, h1, cond_true, cond_false], hb⟩
  · refine (calls_orc (call := aCall Try.prog ΨS1 10 100 4) (ω := [(256, .soft (.bool false))]) (LF := 10) (F := 100) (av := [.agg #[.int .i64 cf, .int .i64 cd, .int .i64 ct, .int .i64 cg]]) (v := Value.int IntKind.i64 190) (ps := [(within_0 cf) = false]) (call_spec ΨS1_spec mixed 4) mixed (by kernel_rfl) (ob_cons h0 ob_nil) (by kernel_rfl) (by kernel_rfl) w).mono ?_
    rintro e w1 ⟨rfl, hb⟩; exact ⟨by simp only [check_0, h0, cond_true, cond_false], hb⟩
def ψcheck : CallF := fun f args H _ =>
  if f = 8 then match args with
    | [.agg ⟨[.int .i64 cf, .int .i64 cd, .int .i64 ct, .int .i64 cg]⟩] => some (Value.int IntKind.i64 (check_0 cf cd ct cg), H)
    | _ => none
  else none
theorem ψcheck_spec : CallSpec Try.prog ψcheck := by
  intro g av Hs lo v H1 h D ρ w args hlt hsz hav hw
  unfold ψcheck at h
  split at h
  · rename_i hg
    subst hg
    split at h
    · cases h; exact spec_of_pure (fun w => check_any _ _ _ _ w) (by kernel_rfl) (by kernel_rfl) hsz hav hw
    · cases h
  · cases h
theorem opened_any (s : Int) (f : Int) (u : Int) (o : Int) (g : Int) (p : Int) (cf : Int) (cd : Int) (ct : Int) (cg : Int) (now : Int) (w : World) : Calls Try.prog 23 #[.agg #[.int .i64 s, .int .i64 f, .int .i64 u, .int .i64 o, .int .i64 g, .int .i64 p], .agg #[.int .i64 cf, .int .i64 cd, .int .i64 ct, .int .i64 cg], .int .i64 now] w (fun e w1 => e = .returned (Value.agg #[Value.int IntKind.i64 2, Value.int IntKind.i64 0, Value.int IntKind.i64 ((IntKind.i64.wrap ((if IntKind.i64.wrap (253402300799 - cd) < now then IntKind.i64.wrap (253402300799 - cd) else now) + cd))), Value.int IntKind.i64 0, Value.int IntKind.i64 0, Value.int IntKind.i64 ((IntKind.i64.wrap (p + 1)))]) ∧ Below w.heap.size w w1) := by
  refine (calls_orc (call := aCall Try.prog ΨS1 10 100 4) (ω := []) (LF := 10) (F := 100) (av := [.agg #[.int .i64 s, .int .i64 f, .int .i64 u, .int .i64 o, .int .i64 g, .int .i64 p], .agg #[.int .i64 cf, .int .i64 cd, .int .i64 ct, .int .i64 cg], .int .i64 now]) (v := Value.agg #[Value.int IntKind.i64 2, Value.int IntKind.i64 0, Value.int IntKind.i64 (IntKind.i64.wrap ((if IntKind.i64.wrap (253402300799 - cd) < now then IntKind.i64.wrap (253402300799 - cd) else now) + cd)), Value.int IntKind.i64 0, Value.int IntKind.i64 0, Value.int IntKind.i64 (IntKind.i64.wrap (p + 1))]) (ps := []) (call_spec ΨS1_spec mixed 4) mixed (by kernel_rfl) ob_nil (by kernel_rfl) (by kernel_rfl) w).mono ?_
  exact fun e w1 h => h
def ψopened : CallF := fun f args H _ =>
  if f = 23 then match args with
    | [.agg ⟨[.int .i64 s, .int .i64 f, .int .i64 u, .int .i64 o, .int .i64 g, .int .i64 p]⟩, .agg ⟨[.int .i64 cf, .int .i64 cd, .int .i64 ct, .int .i64 cg]⟩, .int .i64 now] => some (Value.agg #[Value.int IntKind.i64 2, Value.int IntKind.i64 0, Value.int IntKind.i64 ((IntKind.i64.wrap ((if IntKind.i64.wrap (253402300799 - cd) < now then IntKind.i64.wrap (253402300799 - cd) else now) + cd))), Value.int IntKind.i64 0, Value.int IntKind.i64 0, Value.int IntKind.i64 ((IntKind.i64.wrap (p + 1)))], H)
    | _ => none
  else none
theorem ψopened_spec : CallSpec Try.prog ψopened := by
  intro g av Hs lo v H1 h D ρ w args hlt hsz hav hw
  unfold ψopened at h
  split at h
  · rename_i hg
    subst hg
    split at h
    · cases h; exact spec_of_pure (fun w => opened_any _ _ _ _ _ _ _ _ _ _ _ w) (by kernel_rfl) (by kernel_rfl) hsz hav hw
    · cases h
  · cases h
def nameS_0 (s : Int) : ByteArray := (bif (s == 1) then { data := #[99, 108, 111, 115, 101, 100] } else (bif (s == 2) then { data := #[111, 112, 101, 110] } else (bif (s == 3) then { data := #[104, 97, 108, 102] } else { data := #[] })))
theorem nameS_any (s : Int) (w : World) : Calls Try.prog 22 #[.int .i64 s] w (fun e w1 => e = .returned (Value.string (nameS_0 s)) ∧ Below w.heap.size w w1) := by
  rcases Bool.eq_false_or_eq_true (s == 1) with h0 | h0
  · refine (calls_orc (call := aCall Try.prog ΨS1 10 100 4) (ω := [(128, .soft (.bool true))]) (LF := 10) (F := 100) (av := [.int .i64 s]) (v := Value.string { data := #[99, 108, 111, 115, 101, 100] }) (ps := [(s == 1) = true]) (call_spec ΨS1_spec mixed 4) mixed (by kernel_rfl) (ob_cons h0 ob_nil) (by kernel_rfl) (by kernel_rfl) w).mono ?_
    rintro e w1 ⟨rfl, hb⟩; exact ⟨by simp only [nameS_0, h0, cond_true, cond_false], hb⟩
  · rcases Bool.eq_false_or_eq_true (s == 2) with h1 | h1
    · refine (calls_orc (call := aCall Try.prog ΨS1 10 100 4) (ω := [(128, .soft (.bool false)), (256, .soft (.bool true))]) (LF := 10) (F := 100) (av := [.int .i64 s]) (v := Value.string { data := #[111, 112, 101, 110] }) (ps := [(s == 1) = false, (s == 2) = true]) (call_spec ΨS1_spec mixed 4) mixed (by kernel_rfl) (ob_cons h0 (ob_cons h1 ob_nil)) (by kernel_rfl) (by kernel_rfl) w).mono ?_
      rintro e w1 ⟨rfl, hb⟩; exact ⟨by simp only [nameS_0, h0, h1, cond_true, cond_false], hb⟩
    · rcases Bool.eq_false_or_eq_true (s == 3) with h2 | h2
      · refine (calls_orc (call := aCall Try.prog ΨS1 10 100 4) (ω := [(128, .soft (.bool false)), (256, .soft (.bool false)), (384, .soft (.bool true))]) (LF := 10) (F := 100) (av := [.int .i64 s]) (v := Value.string { data := #[104, 97, 108, 102] }) (ps := [(s == 1) = false, (s == 2) = false, (s == 3) = true]) (call_spec ΨS1_spec mixed 4) mixed (by kernel_rfl) (ob_cons h0 (ob_cons h1 (ob_cons h2 ob_nil))) (by kernel_rfl) (by kernel_rfl) w).mono ?_
        rintro e w1 ⟨rfl, hb⟩; exact ⟨by simp only [nameS_0, h0, h1, h2, cond_true, cond_false], hb⟩
      · refine (calls_orc (call := aCall Try.prog ΨS1 10 100 4) (ω := [(128, .soft (.bool false)), (256, .soft (.bool false)), (384, .soft (.bool false))]) (LF := 10) (F := 100) (av := [.int .i64 s]) (v := Value.string { data := #[] }) (ps := [(s == 1) = false, (s == 2) = false, (s == 3) = false]) (call_spec ΨS1_spec mixed 4) mixed (by kernel_rfl) (ob_cons h0 (ob_cons h1 (ob_cons h2 ob_nil))) (by kernel_rfl) (by kernel_rfl) w).mono ?_
        rintro e w1 ⟨rfl, hb⟩; exact ⟨by simp only [nameS_0, h0, h1, h2, cond_true, cond_false], hb⟩
def ψnameS : CallF := fun f args H _ =>
  if f = 22 then match args with
    | [.int .i64 s] => some (Value.string (nameS_0 s), H)
    | _ => none
  else none
theorem ψnameS_spec : CallSpec Try.prog ψnameS := by
  intro g av Hs lo v H1 h D ρ w args hlt hsz hav hw
  unfold ψnameS at h
  split at h
  · rename_i hg
    subst hg
    split at h
    · cases h; exact spec_of_pure (fun w => nameS_any _ w) (by kernel_rfl) (by kernel_rfl) hsz hav hw
    · cases h
  · cases h
def ΨS2_0 : CallF := orΨ ψcheck ΨS1
theorem ΨS2_0_spec : CallSpec Try.prog ΨS2_0 := orΨ_spec ψcheck_spec ΨS1_spec
def ΨS2_1 : CallF := orΨ ψopened ΨS2_0
theorem ΨS2_1_spec : CallSpec Try.prog ΨS2_1 := orΨ_spec ψopened_spec ΨS2_0_spec
def ΨS2 : CallF := orΨ ψnameS ΨS2_1
theorem ΨS2_spec : CallSpec Try.prog ΨS2 := orΨ_spec ψnameS_spec ΨS2_1_spec
end Go.Proofs.Ytaocnakbhicgiaa
