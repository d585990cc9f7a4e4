/- Pool: weights, health; printed by a program of mine. -/
import Derived.Test.YtkdalfdfepipiaaP5
import Derived.KernelRfl
namespace Go.Proofs.Ytkdalfdfepipiaa
open Go.RowKit
set_option linter.unusedSimpArgs false
set_option linter.unusedVariables false
set_option linter.unusedSectionVars false
set_option maxRecDepth 100000
def scoreE (q : Nat) : Int := (bif (FloatKind.f64.format.order q 4517110426252607488 == some Ordering.gt || FloatKind.f64.format.order q 4517110426252607488 == some Ordering.eq) then (bif (FloatKind.f64.format.order q 4697254411347427328 == some Ordering.lt || FloatKind.f64.format.order q 4697254411347427328 == some Ordering.eq) then (0) else (230)) else (230))
theorem scoreE_any (q : Nat) (w : World)  : Calls Try.prog 46 #[.float .f64 q] w (fun e w1 => e = .returned (.int .i64 (scoreE q)) ∧ Below w.heap.size w w1) := by
  rcases Bool.eq_false_or_eq_true (FloatKind.f64.format.order q 4517110426252607488 == some Ordering.gt || FloatKind.f64.format.order q 4517110426252607488 == some Ordering.eq) with h0 | h0
  · rcases Bool.eq_false_or_eq_true (FloatKind.f64.format.order q 4697254411347427328 == some Ordering.lt || FloatKind.f64.format.order q 4697254411347427328 == some Ordering.eq) with h1 | h1
    · refine (calls_orc (call := aCall Try.prog ΨnameB 10 100 6) (ω := [(192, OV.soft (Value.bool true)), (384, OV.soft (Value.bool true))]) (LF := 10) (F := 100) (av := [.float .f64 q]) (v := Value.int IntKind.i64 0) (ps := [(FloatKind.f64.format.order q 4517110426252607488 == some Ordering.gt || FloatKind.f64.format.order q 4517110426252607488 == some Ordering.eq) = true, (FloatKind.f64.format.order q 4697254411347427328 == some Ordering.lt || FloatKind.f64.format.order q 4697254411347427328 == some Ordering.eq) = true]) (call_spec ΨnameB_spec mixed 6) mixed (by kernel_rfl) (ob_cons h0 (ob_cons h1 ob_nil)) (by kernel_rfl) (by kernel_rfl) w).mono ?_
      rintro e w1 ⟨rfl, hb⟩; exact ⟨by simp only [scoreE, h0, h1, cond_true, cond_false], hb⟩
    · refine (calls_orc (call := aCall Try.prog ΨnameB 10 100 6) (ω := [(192, OV.soft (Value.bool true)), (384, OV.soft (Value.bool false))]) (LF := 10) (F := 100) (av := [.float .f64 q]) (v := Value.int IntKind.i64 230) (ps := [(FloatKind.f64.format.order q 4517110426252607488 == some Ordering.gt || FloatKind.f64.format.order q 4517110426252607488 == some Ordering.eq) = true, (FloatKind.f64.format.order q 4697254411347427328 == some Ordering.lt || FloatKind.f64.format.order q 4697254411347427328 == some Ordering.eq) = false]) (call_spec ΨnameB_spec mixed 6) mixed (by kernel_rfl) (ob_cons h0 (ob_cons h1 ob_nil)) (by kernel_rfl) (by kernel_rfl) w).mono ?_
      rintro e w1 ⟨rfl, hb⟩; exact ⟨by simp only [scoreE, h0, h1, cond_true, cond_false], hb⟩
  · refine (calls_orc (call := aCall Try.prog ΨnameB 10 100 6) (ω := [(192, OV.soft (Value.bool false))]) (LF := 10) (F := 100) (av := [.float .f64 q]) (v := Value.int IntKind.i64 230) (ps := [(FloatKind.f64.format.order q 4517110426252607488 == some Ordering.gt || FloatKind.f64.format.order q 4517110426252607488 == some Ordering.eq) = false]) (call_spec ΨnameB_spec mixed 6) mixed (by kernel_rfl) (ob_cons h0 ob_nil) (by kernel_rfl) (by kernel_rfl) w).mono ?_
    rintro e w1 ⟨rfl, hb⟩; exact ⟨by simp only [scoreE, h0, cond_true, cond_false], hb⟩

def ψscoreE : CallF := fun f args H _ =>
  if f = 46 then match args with
    | [.float .f64 q] => some (.int .i64 (scoreE q), H)
    | _ => none
  else none
theorem ψscoreE_spec [Inhabited RawG] : CallSpec Try.prog ψscoreE := by
  intro g av Hs lo v H1 h D ρ w args hlt hsz hav hw
  unfold ψscoreE at h
  split at h
  · rename_i hg
    subst hg
    split at h
    · cases h; exact spec_of_pure (fun w => scoreE_any _ w) (by kernel_rfl) (by kernel_rfl) hsz hav hw
    · cases h
  · cases h
def ΨscoreE : CallF := orΨ ψscoreE ΨnameB
theorem ΨscoreE_spec [Inhabited RawG] : CallSpec Try.prog ΨscoreE := orΨ_spec ψscoreE_spec ΨnameB_spec
def bwiB (n : Int) : Bool := (bif (decide (n ≥ 1)) then ((decide (n ≤ 1048576))) else (false))
theorem bwiB_any (n : Int) (w : World)  : Calls Try.prog 67 #[.int .i64 n] w (fun e w1 => e = .returned (.bool (bwiB n)) ∧ Below w.heap.size w w1) := by
  rcases Bool.eq_false_or_eq_true (decide (n ≥ 1)) with h0 | h0
  · refine (calls_orc (call := aCall Try.prog ΨscoreE 10 100 6) (ω := [(192, OV.soft (Value.bool true))]) (LF := 10) (F := 100) (av := [.int .i64 n]) (v := Value.bool (decide (n ≤ 1048576))) (ps := [decide (n ≥ 1) = true]) (call_spec ΨscoreE_spec mixed 6) mixed (by kernel_rfl) (ob_cons h0 ob_nil) (by kernel_rfl) (by kernel_rfl) w).mono ?_
    rintro e w1 ⟨rfl, hb⟩; exact ⟨by simp only [bwiB, h0, cond_true, cond_false], hb⟩
  · refine (calls_orc (call := aCall Try.prog ΨscoreE 10 100 6) (ω := [(192, OV.soft (Value.bool false))]) (LF := 10) (F := 100) (av := [.int .i64 n]) (v := Value.bool false) (ps := [decide (n ≥ 1) = false]) (call_spec ΨscoreE_spec mixed 6) mixed (by kernel_rfl) (ob_cons h0 ob_nil) (by kernel_rfl) (by kernel_rfl) w).mono ?_
    rintro e w1 ⟨rfl, hb⟩; exact ⟨by simp only [bwiB, h0, cond_true, cond_false], hb⟩

def ψbwiB : CallF := fun f args H _ =>
  if f = 67 then match args with
    | [.int .i64 n] => some (.bool (bwiB n), H)
    | _ => none
  else none
theorem ψbwiB_spec [Inhabited RawG] : CallSpec Try.prog ψbwiB := by
  intro g av Hs lo v H1 h D ρ w args hlt hsz hav hw
  unfold ψbwiB at h
  split at h
  · rename_i hg
    subst hg
    split at h
    · cases h; exact spec_of_pure (fun w => bwiB_any _ w) (by kernel_rfl) (by kernel_rfl) hsz hav hw
    · cases h
  · cases h
def ΨbwiB : CallF := orΨ ψbwiB ΨscoreE
theorem ΨbwiB_spec [Inhabited RawG] : CallSpec Try.prog ΨbwiB := orΨ_spec ψbwiB_spec ΨscoreE_spec
def bchE (b1 : Int) (b2 : Int) (b3 : Int) (b4 : Int) : Int := (bif (!bwiB b1) then (190) else (bif (!bwiB b3) then (190) else (bif (!bwiB b4) then (190) else (bif (decide (b4 > b3)) then (190) else (bif (decide (b2 < 1)) then (190) else (bif (decide (b2 > 253402300799)) then (190) else (0)))))))
theorem bchE_any (b1 : Int) (b2 : Int) (b3 : Int) (b4 : Int) (w : World)  : Calls Try.prog 58 #[.agg #[.int .i64 b1, .int .i64 b2, .int .i64 b3, .int .i64 b4]] w (fun e w1 => e = .returned (.int .i64 (bchE b1 b2 b3 b4)) ∧ Below w.heap.size w w1) := by
  rcases Bool.eq_false_or_eq_true (!bwiB b1) with h0 | h0
  · refine (calls_orc (call := aCall Try.prog ΨbwiB 10 100 6) (ω := [(384, OV.soft (Value.bool true))]) (LF := 10) (F := 100) (av := [.agg #[.int .i64 b1, .int .i64 b2, .int .i64 b3, .int .i64 b4]]) (v := Value.int IntKind.i64 190) (ps := [(!bwiB b1) = true]) (call_spec ΨbwiB_spec mixed 6) mixed (by kernel_rfl) (ob_cons h0 ob_nil) (by kernel_rfl) (by kernel_rfl) w).mono ?_
    rintro e w1 ⟨rfl, hb⟩; exact ⟨by simp only [bchE, h0, cond_true, cond_false], hb⟩
  · rcases Bool.eq_false_or_eq_true (!bwiB b3) with h1 | h1
    · refine (calls_orc (call := aCall Try.prog ΨbwiB 10 100 6) (ω := [(384, OV.soft (Value.bool false)), (768, OV.soft (Value.bool true))]) (LF := 10) (F := 100) (av := [.agg #[.int .i64 b1, .int .i64 b2, .int .i64 b3, .int .i64 b4]]) (v := Value.int IntKind.i64 190) (ps := [(!bwiB b1) = false, (!bwiB b3) = true]) (call_spec ΨbwiB_spec mixed 6) mixed (by kernel_rfl) (ob_cons h0 (ob_cons h1 ob_nil)) (by kernel_rfl) (by kernel_rfl) w).mono ?_
      rintro e w1 ⟨rfl, hb⟩; exact ⟨by simp only [bchE, h0, h1, cond_true, cond_false], hb⟩
    · rcases Bool.eq_false_or_eq_true (!bwiB b4) with h2 | h2
      · refine (calls_orc (call := aCall Try.prog ΨbwiB 10 100 6) (ω := [(384, OV.soft (Value.bool false)), (768, OV.soft (Value.bool false)), (1152, OV.soft (Value.bool true))]) (LF := 10) (F := 100) (av := [.agg #[.int .i64 b1, .int .i64 b2, .int .i64 b3, .int .i64 b4]]) (v := Value.int IntKind.i64 190) (ps := [(!bwiB b1) = false, (!bwiB b3) = false, (!bwiB b4) = true]) (call_spec ΨbwiB_spec mixed 6) mixed (by kernel_rfl) (ob_cons h0 (ob_cons h1 (ob_cons h2 ob_nil))) (by kernel_rfl) (by kernel_rfl) w).mono ?_
        rintro e w1 ⟨rfl, hb⟩; exact ⟨by simp only [bchE, h0, h1, h2, cond_true, cond_false], hb⟩
      · rcases Bool.eq_false_or_eq_true (decide (b4 > b3)) with h3 | h3
        · refine (calls_orc (call := aCall Try.prog ΨbwiB 10 100 6) (ω := [(384, OV.soft (Value.bool false)), (768, OV.soft (Value.bool false)), (1152, OV.soft (Value.bool false)), (1600, OV.soft (Value.bool true))]) (LF := 10) (F := 100) (av := [.agg #[.int .i64 b1, .int .i64 b2, .int .i64 b3, .int .i64 b4]]) (v := Value.int IntKind.i64 190) (ps := [(!bwiB b1) = false, (!bwiB b3) = false, (!bwiB b4) = false, decide (b4 > b3) = true]) (call_spec ΨbwiB_spec mixed 6) mixed (by kernel_rfl) (ob_cons h0 (ob_cons h1 (ob_cons h2 (ob_cons h3 ob_nil)))) (by kernel_rfl) (by kernel_rfl) w).mono ?_
          rintro e w1 ⟨rfl, hb⟩; exact ⟨by simp only [bchE, h0, h1, h2, h3, cond_true, cond_false], hb⟩
        · rcases Bool.eq_false_or_eq_true (decide (b2 < 1)) with h4 | h4
          · refine (calls_orc (call := aCall Try.prog ΨbwiB 10 100 6) (ω := [(384, OV.soft (Value.bool false)), (768, OV.soft (Value.bool false)), (1152, OV.soft (Value.bool false)), (1600, OV.soft (Value.bool false)), (1920, OV.soft (Value.bool true))]) (LF := 10) (F := 100) (av := [.agg #[.int .i64 b1, .int .i64 b2, .int .i64 b3, .int .i64 b4]]) (v := Value.int IntKind.i64 190) (ps := [(!bwiB b1) = false, (!bwiB b3) = false, (!bwiB b4) = false, decide (b4 > b3) = false, decide (b2 < 1) = true]) (call_spec ΨbwiB_spec mixed 6) mixed (by kernel_rfl) (ob_cons h0 (ob_cons h1 (ob_cons h2 (ob_cons h3 (ob_cons h4 ob_nil))))) (by kernel_rfl) (by kernel_rfl) w).mono ?_
            rintro e w1 ⟨rfl, hb⟩; exact ⟨by simp only [bchE, h0, h1, h2, h3, h4, cond_true, cond_false], hb⟩
          · rcases Bool.eq_false_or_eq_true (decide (b2 > 253402300799)) with h5 | h5
            · refine (calls_orc (call := aCall Try.prog ΨbwiB 10 100 6) (ω := [(384, OV.soft (Value.bool false)), (768, OV.soft (Value.bool false)), (1152, OV.soft (Value.bool false)), (1600, OV.soft (Value.bool false)), (1920, OV.soft (Value.bool false)), (2176, OV.soft (Value.bool true))]) (LF := 10) (F := 100) (av := [.agg #[.int .i64 b1, .int .i64 b2, .int .i64 b3, .int .i64 b4]]) (v := Value.int IntKind.i64 190) (ps := [(!bwiB b1) = false, (!bwiB b3) = false, (!bwiB b4) = false, decide (b4 > b3) = false, decide (b2 < 1) = false, decide (b2 > 253402300799) = true]) (call_spec ΨbwiB_spec mixed 6) mixed (by kernel_rfl) (ob_cons h0 (ob_cons h1 (ob_cons h2 (ob_cons h3 (ob_cons h4 (ob_cons h5 ob_nil)))))) (by kernel_rfl) (by kernel_rfl) w).mono ?_
              rintro e w1 ⟨rfl, hb⟩; exact ⟨by simp only [bchE, h0, h1, h2, h3, h4, h5, cond_true, cond_false], hb⟩
            · refine (calls_orc (call := aCall Try.prog ΨbwiB 10 100 6) (ω := [(384, OV.soft (Value.bool false)), (768, OV.soft (Value.bool false)), (1152, OV.soft (Value.bool false)), (1600, OV.soft (Value.bool false)), (1920, OV.soft (Value.bool false)), (2176, OV.soft (Value.bool false))]) (LF := 10) (F := 100) (av := [.agg #[.int .i64 b1, .int .i64 b2, .int .i64 b3, .int .i64 b4]]) (v := Value.int IntKind.i64 0) (ps := [(!bwiB b1) = false, (!bwiB b3) = false, (!bwiB b4) = false, decide (b4 > b3) = false, decide (b2 < 1) = false, decide (b2 > 253402300799) = false]) (call_spec ΨbwiB_spec mixed 6) mixed (by kernel_rfl) (ob_cons h0 (ob_cons h1 (ob_cons h2 (ob_cons h3 (ob_cons h4 (ob_cons h5 ob_nil)))))) (by kernel_rfl) (by kernel_rfl) w).mono ?_
              rintro e w1 ⟨rfl, hb⟩; exact ⟨by simp only [bchE, h0, h1, h2, h3, h4, h5, cond_true, cond_false], hb⟩

def ψbchE : CallF := fun f args H _ =>
  if f = 58 then match args with
    | [.agg ⟨[.int .i64 b1, .int .i64 b2, .int .i64 b3, .int .i64 b4]⟩] => some (.int .i64 (bchE b1 b2 b3 b4), H)
    | _ => none
  else none
theorem ψbchE_spec [Inhabited RawG] : CallSpec Try.prog ψbchE := by
  intro g av Hs lo v H1 h D ρ w args hlt hsz hav hw
  unfold ψbchE at h
  split at h
  · rename_i hg
    subst hg
    split at h
    · cases h; exact spec_of_pure (fun w => bchE_any _ _ _ _ w) (by kernel_rfl) (by kernel_rfl) hsz hav hw
    · cases h
  · cases h
def ΨbchE : CallF := orΨ ψbchE ΨbwiB
theorem ΨbchE_spec [Inhabited RawG] : CallSpec Try.prog ΨbchE := orΨ_spec ψbchE_spec ΨbwiB_spec
def echE (e1 : Int) (e2 : Int) (e3 : Int) (e4 : Int) : Int := (bif (decide (e1 < 1)) then (200) else (bif (decide (e1 > 1048576)) then (200) else (bif (decide (e2 < 1)) then (200) else (bif (decide (e2 > 253402300799)) then (200) else (bif (decide (e3 < e2)) then (200) else (bif (decide (e3 > 253402300799)) then (200) else (bif (decide (e4 < 0)) then (200) else (bif (decide (e4 > 100)) then (200) else (0)))))))))
theorem echE_any (e1 : Int) (e2 : Int) (e3 : Int) (e4 : Int) (w : World)  : Calls Try.prog 59 #[.agg #[.int .i64 e1, .int .i64 e2, .int .i64 e3, .int .i64 e4]] w (fun e w1 => e = .returned (.int .i64 (echE e1 e2 e3 e4)) ∧ Below w.heap.size w w1) := by
  rcases Bool.eq_false_or_eq_true (decide (e1 < 1)) with h0 | h0
  · refine (calls_orc (call := aCall Try.prog ΨbchE 10 100 6) (ω := [(320, OV.soft (Value.bool true))]) (LF := 10) (F := 100) (av := [.agg #[.int .i64 e1, .int .i64 e2, .int .i64 e3, .int .i64 e4]]) (v := Value.int IntKind.i64 200) (ps := [decide (e1 < 1) = true]) (call_spec ΨbchE_spec mixed 6) mixed (by kernel_rfl) (ob_cons h0 ob_nil) (by kernel_rfl) (by kernel_rfl) w).mono ?_
    rintro e w1 ⟨rfl, hb⟩; exact ⟨by simp only [echE, h0, cond_true, cond_false], hb⟩
  · rcases Bool.eq_false_or_eq_true (decide (e1 > 1048576)) with h1 | h1
    · refine (calls_orc (call := aCall Try.prog ΨbchE 10 100 6) (ω := [(320, OV.soft (Value.bool false)), (640, OV.soft (Value.bool true))]) (LF := 10) (F := 100) (av := [.agg #[.int .i64 e1, .int .i64 e2, .int .i64 e3, .int .i64 e4]]) (v := Value.int IntKind.i64 200) (ps := [decide (e1 < 1) = false, decide (e1 > 1048576) = true]) (call_spec ΨbchE_spec mixed 6) mixed (by kernel_rfl) (ob_cons h0 (ob_cons h1 ob_nil)) (by kernel_rfl) (by kernel_rfl) w).mono ?_
      rintro e w1 ⟨rfl, hb⟩; exact ⟨by simp only [echE, h0, h1, cond_true, cond_false], hb⟩
    · rcases Bool.eq_false_or_eq_true (decide (e2 < 1)) with h2 | h2
      · refine (calls_orc (call := aCall Try.prog ΨbchE 10 100 6) (ω := [(320, OV.soft (Value.bool false)), (640, OV.soft (Value.bool false)), (960, OV.soft (Value.bool true))]) (LF := 10) (F := 100) (av := [.agg #[.int .i64 e1, .int .i64 e2, .int .i64 e3, .int .i64 e4]]) (v := Value.int IntKind.i64 200) (ps := [decide (e1 < 1) = false, decide (e1 > 1048576) = false, decide (e2 < 1) = true]) (call_spec ΨbchE_spec mixed 6) mixed (by kernel_rfl) (ob_cons h0 (ob_cons h1 (ob_cons h2 ob_nil))) (by kernel_rfl) (by kernel_rfl) w).mono ?_
        rintro e w1 ⟨rfl, hb⟩; exact ⟨by simp only [echE, h0, h1, h2, cond_true, cond_false], hb⟩
      · rcases Bool.eq_false_or_eq_true (decide (e2 > 253402300799)) with h3 | h3
        · refine (calls_orc (call := aCall Try.prog ΨbchE 10 100 6) (ω := [(320, OV.soft (Value.bool false)), (640, OV.soft (Value.bool false)), (960, OV.soft (Value.bool false)), (1280, OV.soft (Value.bool true))]) (LF := 10) (F := 100) (av := [.agg #[.int .i64 e1, .int .i64 e2, .int .i64 e3, .int .i64 e4]]) (v := Value.int IntKind.i64 200) (ps := [decide (e1 < 1) = false, decide (e1 > 1048576) = false, decide (e2 < 1) = false, decide (e2 > 253402300799) = true]) (call_spec ΨbchE_spec mixed 6) mixed (by kernel_rfl) (ob_cons h0 (ob_cons h1 (ob_cons h2 (ob_cons h3 ob_nil)))) (by kernel_rfl) (by kernel_rfl) w).mono ?_
          rintro e w1 ⟨rfl, hb⟩; exact ⟨by simp only [echE, h0, h1, h2, h3, cond_true, cond_false], hb⟩
        · rcases Bool.eq_false_or_eq_true (decide (e3 < e2)) with h4 | h4
          · refine (calls_orc (call := aCall Try.prog ΨbchE 10 100 6) (ω := [(320, OV.soft (Value.bool false)), (640, OV.soft (Value.bool false)), (960, OV.soft (Value.bool false)), (1280, OV.soft (Value.bool false)), (1728, OV.soft (Value.bool true))]) (LF := 10) (F := 100) (av := [.agg #[.int .i64 e1, .int .i64 e2, .int .i64 e3, .int .i64 e4]]) (v := Value.int IntKind.i64 200) (ps := [decide (e1 < 1) = false, decide (e1 > 1048576) = false, decide (e2 < 1) = false, decide (e2 > 253402300799) = false, decide (e3 < e2) = true]) (call_spec ΨbchE_spec mixed 6) mixed (by kernel_rfl) (ob_cons h0 (ob_cons h1 (ob_cons h2 (ob_cons h3 (ob_cons h4 ob_nil))))) (by kernel_rfl) (by kernel_rfl) w).mono ?_
            rintro e w1 ⟨rfl, hb⟩; exact ⟨by simp only [echE, h0, h1, h2, h3, h4, cond_true, cond_false], hb⟩
          · rcases Bool.eq_false_or_eq_true (decide (e3 > 253402300799)) with h5 | h5
            · refine (calls_orc (call := aCall Try.prog ΨbchE 10 100 6) (ω := [(320, OV.soft (Value.bool false)), (640, OV.soft (Value.bool false)), (960, OV.soft (Value.bool false)), (1280, OV.soft (Value.bool false)), (1728, OV.soft (Value.bool false)), (2048, OV.soft (Value.bool true))]) (LF := 10) (F := 100) (av := [.agg #[.int .i64 e1, .int .i64 e2, .int .i64 e3, .int .i64 e4]]) (v := Value.int IntKind.i64 200) (ps := [decide (e1 < 1) = false, decide (e1 > 1048576) = false, decide (e2 < 1) = false, decide (e2 > 253402300799) = false, decide (e3 < e2) = false, decide (e3 > 253402300799) = true]) (call_spec ΨbchE_spec mixed 6) mixed (by kernel_rfl) (ob_cons h0 (ob_cons h1 (ob_cons h2 (ob_cons h3 (ob_cons h4 (ob_cons h5 ob_nil)))))) (by kernel_rfl) (by kernel_rfl) w).mono ?_
              rintro e w1 ⟨rfl, hb⟩; exact ⟨by simp only [echE, h0, h1, h2, h3, h4, h5, cond_true, cond_false], hb⟩
            · rcases Bool.eq_false_or_eq_true (decide (e4 < 0)) with h6 | h6
              · refine (calls_orc (call := aCall Try.prog ΨbchE 10 100 6) (ω := [(320, OV.soft (Value.bool false)), (640, OV.soft (Value.bool false)), (960, OV.soft (Value.bool false)), (1280, OV.soft (Value.bool false)), (1728, OV.soft (Value.bool false)), (2048, OV.soft (Value.bool false)), (2368, OV.soft (Value.bool true))]) (LF := 10) (F := 100) (av := [.agg #[.int .i64 e1, .int .i64 e2, .int .i64 e3, .int .i64 e4]]) (v := Value.int IntKind.i64 200) (ps := [decide (e1 < 1) = false, decide (e1 > 1048576) = false, decide (e2 < 1) = false, decide (e2 > 253402300799) = false, decide (e3 < e2) = false, decide (e3 > 253402300799) = false, decide (e4 < 0) = true]) (call_spec ΨbchE_spec mixed 6) mixed (by kernel_rfl) (ob_cons h0 (ob_cons h1 (ob_cons h2 (ob_cons h3 (ob_cons h4 (ob_cons h5 (ob_cons h6 ob_nil))))))) (by kernel_rfl) (by kernel_rfl) w).mono ?_
                rintro e w1 ⟨rfl, hb⟩; exact ⟨by simp only [echE, h0, h1, h2, h3, h4, h5, h6, cond_true, cond_false], hb⟩
              · rcases Bool.eq_false_or_eq_true (decide (e4 > 100)) with h7 | h7
                · refine (calls_orc (call := aCall Try.prog ΨbchE 10 100 6) (ω := [(320, OV.soft (Value.bool false)), (640, OV.soft (Value.bool false)), (960, OV.soft (Value.bool false)), (1280, OV.soft (Value.bool false)), (1728, OV.soft (Value.bool false)), (2048, OV.soft (Value.bool false)), (2368, OV.soft (Value.bool false)), (2624, OV.soft (Value.bool true))]) (LF := 10) (F := 100) (av := [.agg #[.int .i64 e1, .int .i64 e2, .int .i64 e3, .int .i64 e4]]) (v := Value.int IntKind.i64 200) (ps := [decide (e1 < 1) = false, decide (e1 > 1048576) = false, decide (e2 < 1) = false, decide (e2 > 253402300799) = false, decide (e3 < e2) = false, decide (e3 > 253402300799) = false, decide (e4 < 0) = false, decide (e4 > 100) = true]) (call_spec ΨbchE_spec mixed 6) mixed (by kernel_rfl) (ob_cons h0 (ob_cons h1 (ob_cons h2 (ob_cons h3 (ob_cons h4 (ob_cons h5 (ob_cons h6 (ob_cons h7 ob_nil)))))))) (by kernel_rfl) (by kernel_rfl) w).mono ?_
                  rintro e w1 ⟨rfl, hb⟩; exact ⟨by simp only [echE, h0, h1, h2, h3, h4, h5, h6, h7, cond_true, cond_false], hb⟩
                · refine (calls_orc (call := aCall Try.prog ΨbchE 10 100 6) (ω := [(320, OV.soft (Value.bool false)), (640, OV.soft (Value.bool false)), (960, OV.soft (Value.bool false)), (1280, OV.soft (Value.bool false)), (1728, OV.soft (Value.bool false)), (2048, OV.soft (Value.bool false)), (2368, OV.soft (Value.bool false)), (2624, OV.soft (Value.bool false))]) (LF := 10) (F := 100) (av := [.agg #[.int .i64 e1, .int .i64 e2, .int .i64 e3, .int .i64 e4]]) (v := Value.int IntKind.i64 0) (ps := [decide (e1 < 1) = false, decide (e1 > 1048576) = false, decide (e2 < 1) = false, decide (e2 > 253402300799) = false, decide (e3 < e2) = false, decide (e3 > 253402300799) = false, decide (e4 < 0) = false, decide (e4 > 100) = false]) (call_spec ΨbchE_spec mixed 6) mixed (by kernel_rfl) (ob_cons h0 (ob_cons h1 (ob_cons h2 (ob_cons h3 (ob_cons h4 (ob_cons h5 (ob_cons h6 (ob_cons h7 ob_nil)))))))) (by kernel_rfl) (by kernel_rfl) w).mono ?_
                  rintro e w1 ⟨rfl, hb⟩; exact ⟨by simp only [echE, h0, h1, h2, h3, h4, h5, h6, h7, cond_true, cond_false], hb⟩

def ψechE : CallF := fun f args H _ =>
  if f = 59 then match args with
    | [.agg ⟨[.int .i64 e1, .int .i64 e2, .int .i64 e3, .int .i64 e4]⟩] => some (.int .i64 (echE e1 e2 e3 e4), H)
    | _ => none
  else none
theorem ψechE_spec [Inhabited RawG] : CallSpec Try.prog ψechE := by
  intro g av Hs lo v H1 h D ρ w args hlt hsz hav hw
  unfold ψechE at h
  split at h
  · rename_i hg
    subst hg
    split at h
    · cases h; exact spec_of_pure (fun w => echE_any _ _ _ _ w) (by kernel_rfl) (by kernel_rfl) hsz hav hw
    · cases h
  · cases h
def ΨechE : CallF := orΨ ψechE ΨbchE
theorem ΨechE_spec [Inhabited RawG] : CallSpec Try.prog ΨechE := orΨ_spec ψechE_spec ΨbchE_spec
def pwiB (n m : Int) : Bool := (bif (decide (n ≥ 1)) then ((decide (n ≤ m))) else (false))
theorem pwiB_any (n m : Int) (w : World)  : Calls Try.prog 68 #[.int .i64 n, .int .i64 m] w (fun e w1 => e = .returned (.bool (pwiB n m)) ∧ Below w.heap.size w w1) := by
  rcases Bool.eq_false_or_eq_true (decide (n ≥ 1)) with h0 | h0
  · refine (calls_orc (call := aCall Try.prog ΨechE 10 100 6) (ω := [(192, OV.soft (Value.bool true))]) (LF := 10) (F := 100) (av := [.int .i64 n, .int .i64 m]) (v := Value.bool (decide (n ≤ m))) (ps := [decide (n ≥ 1) = true]) (call_spec ΨechE_spec mixed 6) mixed (by kernel_rfl) (ob_cons h0 ob_nil) (by kernel_rfl) (by kernel_rfl) w).mono ?_
    rintro e w1 ⟨rfl, hb⟩; exact ⟨by simp only [pwiB, h0, cond_true, cond_false], hb⟩
  · refine (calls_orc (call := aCall Try.prog ΨechE 10 100 6) (ω := [(192, OV.soft (Value.bool false))]) (LF := 10) (F := 100) (av := [.int .i64 n, .int .i64 m]) (v := Value.bool false) (ps := [decide (n ≥ 1) = false]) (call_spec ΨechE_spec mixed 6) mixed (by kernel_rfl) (ob_cons h0 ob_nil) (by kernel_rfl) (by kernel_rfl) w).mono ?_
    rintro e w1 ⟨rfl, hb⟩; exact ⟨by simp only [pwiB, h0, cond_true, cond_false], hb⟩

def ψpwiB : CallF := fun f args H _ =>
  if f = 68 then match args with
    | [.int .i64 n, .int .i64 m] => some (.bool (pwiB n m), H)
    | _ => none
  else none
theorem ψpwiB_spec [Inhabited RawG] : CallSpec Try.prog ψpwiB := by
  intro g av Hs lo v H1 h D ρ w args hlt hsz hav hw
  unfold ψpwiB at h
  split at h
  · rename_i hg
    subst hg
    split at h
    · cases h; exact spec_of_pure (fun w => pwiB_any _ _ w) (by kernel_rfl) (by kernel_rfl) hsz hav hw
    · cases h
  · cases h
def ΨpwiB : CallF := orΨ ψpwiB ΨechE
theorem ΨpwiB_spec [Inhabited RawG] : CallSpec Try.prog ΨpwiB := orΨ_spec ψpwiB_spec ΨechE_spec
def pchE (p1 : Int) (p2 : Int) (p3 : Int) (p4 : Int) : Int := (bif (!pwiB p1 253402300799) then (210) else (bif (!pwiB p2 253402300799) then (210) else (bif (!pwiB p3 1048576) then (210) else (bif (!pwiB p4 1048576) then (210) else (0)))))
theorem pchE_any (p1 : Int) (p2 : Int) (p3 : Int) (p4 : Int) (w : World)  : Calls Try.prog 60 #[.agg #[.int .i64 p1, .int .i64 p2, .int .i64 p3, .int .i64 p4]] w (fun e w1 => e = .returned (.int .i64 (pchE p1 p2 p3 p4)) ∧ Below w.heap.size w w1) := by
  rcases Bool.eq_false_or_eq_true (!pwiB p1 253402300799) with h0 | h0
  · refine (calls_orc (call := aCall Try.prog ΨpwiB 10 100 6) (ω := [(384, OV.soft (Value.bool true))]) (LF := 10) (F := 100) (av := [.agg #[.int .i64 p1, .int .i64 p2, .int .i64 p3, .int .i64 p4]]) (v := Value.int IntKind.i64 210) (ps := [(!pwiB p1 253402300799) = true]) (call_spec ΨpwiB_spec mixed 6) mixed (by kernel_rfl) (ob_cons h0 ob_nil) (by kernel_rfl) (by kernel_rfl) w).mono ?_
    rintro e w1 ⟨rfl, hb⟩; exact ⟨by simp only [pchE, h0, cond_true, cond_false], hb⟩
  · rcases Bool.eq_false_or_eq_true (!pwiB p2 253402300799) with h1 | h1
    · refine (calls_orc (call := aCall Try.prog ΨpwiB 10 100 6) (ω := [(384, OV.soft (Value.bool false)), (768, OV.soft (Value.bool true))]) (LF := 10) (F := 100) (av := [.agg #[.int .i64 p1, .int .i64 p2, .int .i64 p3, .int .i64 p4]]) (v := Value.int IntKind.i64 210) (ps := [(!pwiB p1 253402300799) = false, (!pwiB p2 253402300799) = true]) (call_spec ΨpwiB_spec mixed 6) mixed (by kernel_rfl) (ob_cons h0 (ob_cons h1 ob_nil)) (by kernel_rfl) (by kernel_rfl) w).mono ?_
      rintro e w1 ⟨rfl, hb⟩; exact ⟨by simp only [pchE, h0, h1, cond_true, cond_false], hb⟩
    · rcases Bool.eq_false_or_eq_true (!pwiB p3 1048576) with h2 | h2
      · refine (calls_orc (call := aCall Try.prog ΨpwiB 10 100 6) (ω := [(384, OV.soft (Value.bool false)), (768, OV.soft (Value.bool false)), (1152, OV.soft (Value.bool true))]) (LF := 10) (F := 100) (av := [.agg #[.int .i64 p1, .int .i64 p2, .int .i64 p3, .int .i64 p4]]) (v := Value.int IntKind.i64 210) (ps := [(!pwiB p1 253402300799) = false, (!pwiB p2 253402300799) = false, (!pwiB p3 1048576) = true]) (call_spec ΨpwiB_spec mixed 6) mixed (by kernel_rfl) (ob_cons h0 (ob_cons h1 (ob_cons h2 ob_nil))) (by kernel_rfl) (by kernel_rfl) w).mono ?_
        rintro e w1 ⟨rfl, hb⟩; exact ⟨by simp only [pchE, h0, h1, h2, cond_true, cond_false], hb⟩
      · rcases Bool.eq_false_or_eq_true (!pwiB p4 1048576) with h3 | h3
        · refine (calls_orc (call := aCall Try.prog ΨpwiB 10 100 6) (ω := [(384, OV.soft (Value.bool false)), (768, OV.soft (Value.bool false)), (1152, OV.soft (Value.bool false)), (1472, OV.soft (Value.bool true))]) (LF := 10) (F := 100) (av := [.agg #[.int .i64 p1, .int .i64 p2, .int .i64 p3, .int .i64 p4]]) (v := Value.int IntKind.i64 210) (ps := [(!pwiB p1 253402300799) = false, (!pwiB p2 253402300799) = false, (!pwiB p3 1048576) = false, (!pwiB p4 1048576) = true]) (call_spec ΨpwiB_spec mixed 6) mixed (by kernel_rfl) (ob_cons h0 (ob_cons h1 (ob_cons h2 (ob_cons h3 ob_nil)))) (by kernel_rfl) (by kernel_rfl) w).mono ?_
          rintro e w1 ⟨rfl, hb⟩; exact ⟨by simp only [pchE, h0, h1, h2, h3, cond_true, cond_false], hb⟩
        · refine (calls_orc (call := aCall Try.prog ΨpwiB 10 100 6) (ω := [(384, OV.soft (Value.bool false)), (768, OV.soft (Value.bool false)), (1152, OV.soft (Value.bool false)), (1472, OV.soft (Value.bool false))]) (LF := 10) (F := 100) (av := [.agg #[.int .i64 p1, .int .i64 p2, .int .i64 p3, .int .i64 p4]]) (v := Value.int IntKind.i64 0) (ps := [(!pwiB p1 253402300799) = false, (!pwiB p2 253402300799) = false, (!pwiB p3 1048576) = false, (!pwiB p4 1048576) = false]) (call_spec ΨpwiB_spec mixed 6) mixed (by kernel_rfl) (ob_cons h0 (ob_cons h1 (ob_cons h2 (ob_cons h3 ob_nil)))) (by kernel_rfl) (by kernel_rfl) w).mono ?_
          rintro e w1 ⟨rfl, hb⟩; exact ⟨by simp only [pchE, h0, h1, h2, h3, cond_true, cond_false], hb⟩

def ψpchE : CallF := fun f args H _ =>
  if f = 60 then match args with
    | [.agg ⟨[.int .i64 p1, .int .i64 p2, .int .i64 p3, .int .i64 p4]⟩] => some (.int .i64 (pchE p1 p2 p3 p4), H)
    | _ => none
  else none
theorem ψpchE_spec [Inhabited RawG] : CallSpec Try.prog ψpchE := by
  intro g av Hs lo v H1 h D ρ w args hlt hsz hav hw
  unfold ψpchE at h
  split at h
  · rename_i hg
    subst hg
    split at h
    · cases h; exact spec_of_pure (fun w => pchE_any _ _ _ _ w) (by kernel_rfl) (by kernel_rfl) hsz hav hw
    · cases h
  · cases h
def ΨpchE : CallF := orΨ ψpchE ΨpwiB
theorem ΨpchE_spec [Inhabited RawG] : CallSpec Try.prog ΨpchE := orΨ_spec ψpchE_spec ΨpwiB_spec
def hchE (b1 : Int) (b2 : Int) (b3 : Int) (b4 : Int) (e1 : Int) (e2 : Int) (e3 : Int) (e4 : Int) (p1 : Int) (p2 : Int) (p3 : Int) (p4 : Int) : Int := (bif (bchE b1 b2 b3 b4 != 0) then ((bchE b1 b2 b3 b4)) else (bif (echE e1 e2 e3 e4 != 0) then ((echE e1 e2 e3 e4)) else ((pchE p1 p2 p3 p4))))
theorem hchE_any (b1 : Int) (b2 : Int) (b3 : Int) (b4 : Int) (e1 : Int) (e2 : Int) (e3 : Int) (e4 : Int) (p1 : Int) (p2 : Int) (p3 : Int) (p4 : Int) (w : World)  : Calls Try.prog 47 #[.agg #[.int .i64 b1, .int .i64 b2, .int .i64 b3, .int .i64 b4, .int .i64 e1, .int .i64 e2, .int .i64 e3, .int .i64 e4, .int .i64 p1, .int .i64 p2, .int .i64 p3, .int .i64 p4]] w (fun e w1 => e = .returned (.int .i64 (hchE b1 b2 b3 b4 e1 e2 e3 e4 p1 p2 p3 p4)) ∧ Below w.heap.size w w1) := by
  rcases Bool.eq_false_or_eq_true (bchE b1 b2 b3 b4 != 0) with h0 | h0
  · refine (calls_orc (call := aCall Try.prog ΨpchE 10 100 6) (ω := [(448, OV.soft (Value.bool true))]) (LF := 10) (F := 100) (av := [.agg #[.int .i64 b1, .int .i64 b2, .int .i64 b3, .int .i64 b4, .int .i64 e1, .int .i64 e2, .int .i64 e3, .int .i64 e4, .int .i64 p1, .int .i64 p2, .int .i64 p3, .int .i64 p4]]) (v := Value.int IntKind.i64 (bchE b1 b2 b3 b4)) (ps := [(bchE b1 b2 b3 b4 != 0) = true]) (call_spec ΨpchE_spec mixed 6) mixed (by kernel_rfl) (ob_cons h0 ob_nil) (by kernel_rfl) (by kernel_rfl) w).mono ?_
    rintro e w1 ⟨rfl, hb⟩; exact ⟨by simp only [hchE, h0, cond_true, cond_false], hb⟩
  · rcases Bool.eq_false_or_eq_true (echE e1 e2 e3 e4 != 0) with h1 | h1
    · refine (calls_orc (call := aCall Try.prog ΨpchE 10 100 6) (ω := [(448, OV.soft (Value.bool false)), (832, OV.soft (Value.bool true))]) (LF := 10) (F := 100) (av := [.agg #[.int .i64 b1, .int .i64 b2, .int .i64 b3, .int .i64 b4, .int .i64 e1, .int .i64 e2, .int .i64 e3, .int .i64 e4, .int .i64 p1, .int .i64 p2, .int .i64 p3, .int .i64 p4]]) (v := Value.int IntKind.i64 (echE e1 e2 e3 e4)) (ps := [(bchE b1 b2 b3 b4 != 0) = false, (echE e1 e2 e3 e4 != 0) = true]) (call_spec ΨpchE_spec mixed 6) mixed (by kernel_rfl) (ob_cons h0 (ob_cons h1 ob_nil)) (by kernel_rfl) (by kernel_rfl) w).mono ?_
      rintro e w1 ⟨rfl, hb⟩; exact ⟨by simp only [hchE, h0, h1, cond_true, cond_false], hb⟩
    · refine (calls_orc (call := aCall Try.prog ΨpchE 10 100 6) (ω := [(448, OV.soft (Value.bool false)), (832, OV.soft (Value.bool false))]) (LF := 10) (F := 100) (av := [.agg #[.int .i64 b1, .int .i64 b2, .int .i64 b3, .int .i64 b4, .int .i64 e1, .int .i64 e2, .int .i64 e3, .int .i64 e4, .int .i64 p1, .int .i64 p2, .int .i64 p3, .int .i64 p4]]) (v := Value.int IntKind.i64 (pchE p1 p2 p3 p4)) (ps := [(bchE b1 b2 b3 b4 != 0) = false, (echE e1 e2 e3 e4 != 0) = false]) (call_spec ΨpchE_spec mixed 6) mixed (by kernel_rfl) (ob_cons h0 (ob_cons h1 ob_nil)) (by kernel_rfl) (by kernel_rfl) w).mono ?_
      rintro e w1 ⟨rfl, hb⟩; exact ⟨by simp only [hchE, h0, h1, cond_true, cond_false], hb⟩

def ψhchE : CallF := fun f args H _ =>
  if f = 47 then match args with
    | [.agg ⟨[.int .i64 b1, .int .i64 b2, .int .i64 b3, .int .i64 b4, .int .i64 e1, .int .i64 e2, .int .i64 e3, .int .i64 e4, .int .i64 p1, .int .i64 p2, .int .i64 p3, .int .i64 p4]⟩] => some (.int .i64 (hchE b1 b2 b3 b4 e1 e2 e3 e4 p1 p2 p3 p4), H)
    | _ => none
  else none
theorem ψhchE_spec [Inhabited RawG] : CallSpec Try.prog ψhchE := by
  intro g av Hs lo v H1 h D ρ w args hlt hsz hav hw
  unfold ψhchE at h
  split at h
  · rename_i hg
    subst hg
    split at h
    · cases h; exact spec_of_pure (fun w => hchE_any _ _ _ _ _ _ _ _ _ _ _ _ w) (by kernel_rfl) (by kernel_rfl) hsz hav hw
    · cases h
  · cases h
def ΨhchE : CallF := orΨ ψhchE ΨpchE
theorem ΨhchE_spec [Inhabited RawG] : CallSpec Try.prog ΨhchE := orΨ_spec ψhchE_spec ΨpchE_spec
noncomputable def callC [Inhabited RawG] : CallF := aCall Try.prog ΨhchE 10 100 6
theorem callC_spec [Inhabited RawG] : CallSpec Try.prog callC := call_spec ΨhchE_spec mixed 6
end Go.Proofs.Ytkdalfdfepipiaa
