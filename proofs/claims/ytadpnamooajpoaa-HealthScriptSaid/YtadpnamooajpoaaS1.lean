/- Contracts that the engine has found; their texts are a program's. -/
import Derived.Test.YtadpnamooajpoaaK1

import Derived.Test.YtadpnamooajpoaaX17
namespace Go.Proofs.Ytadpnamooajpoaa
open Go.RowKit
set_option linter.unusedVariables false
set_option linter.unusedSectionVars false
set_option linter.unusedSimpArgs false
set_option maxRecDepth 100000
def bwithin_0 (n : Int) : Bool := (bif (decide (n ≥ 1)) then (decide (n ≤ 1048576)) else false)
theorem bwithin_any (n : Int) (w : World) : Calls Try.prog 71 #[.int .i64 n] w (fun e w1 => e = .returned (Value.bool (bwithin_0 n)) ∧ Below w.heap.size w w1) := by
  rcases Bool.eq_false_or_eq_true (decide (n ≥ 1)) with h0 | h0
  · refine (calls_orc (call := aCall Try.prog ΨK1 10 100 4) (ω := [(192, OV.soft (Value.bool true))]) (LF := 10) (F := 100) (av := [.int .i64 n]) (v := Value.bool (decide (n ≤ 1048576))) (ps := [decide (n ≥ 1) = true]) (call_spec ΨK1_spec mixed 4) mixed (by kernel_rfl) (ob_cons h0 ob_nil) (by kernel_rfl) (by kernel_rfl) w).mono ?_
    rintro e w1 ⟨rfl, hb⟩; exact ⟨by simp only [bwithin_0, h0, cond_true, cond_false], hb⟩
  · refine (calls_orc (call := aCall Try.prog ΨK1 10 100 4) (ω := [(192, OV.soft (Value.bool false))]) (LF := 10) (F := 100) (av := [.int .i64 n]) (v := Value.bool false) (ps := [decide (n ≥ 1) = false]) (call_spec ΨK1_spec mixed 4) mixed (by kernel_rfl) (ob_cons h0 ob_nil) (by kernel_rfl) (by kernel_rfl) w).mono ?_
    rintro e w1 ⟨rfl, hb⟩; exact ⟨by simp only [bwithin_0, h0, cond_true, cond_false], hb⟩
def ψbwithin : CallF := fun f args H _ =>
  if f = 71 then match args with
    | [.int .i64 n] => some (Value.bool (bwithin_0 n), H)
    | _ => none
  else none
theorem ψbwithin_spec [Inhabited RawG] : CallSpec Try.prog ψbwithin := by
  intro g av Hs lo v H1 h D ρ w args hlt hsz hav hw
  unfold ψbwithin at h
  split at h
  · rename_i hg
    subst hg
    split at h
    · cases h; exact spec_of_pure (fun w => bwithin_any _ w) (by kernel_rfl) (by kernel_rfl) hsz hav hw
    · cases h
  · cases h
theorem turned_any (s : Int) (f : Int) (u : Int) (o : Int) (g : Int) (p : Int) (t : Int) (x : Int) (w : World) : Calls Try.prog 91 #[.agg #[.int .i64 s, .int .i64 f, .int .i64 u, .int .i64 o, .int .i64 g, .int .i64 p], .int .i64 t, .int .i64 x] w (fun e w1 => e = .returned (Value.agg #[Value.int IntKind.i64 t, Value.int IntKind.i64 0, Value.int IntKind.i64 x, Value.int IntKind.i64 0, Value.int IntKind.i64 0, Value.int IntKind.i64 ((IntKind.i64.wrap (p + 1)))]) ∧ Below w.heap.size w w1) := by
  refine (calls_orc (call := aCall Try.prog ΨK1 10 100 4) (ω := []) (LF := 10) (F := 100) (av := [.agg #[.int .i64 s, .int .i64 f, .int .i64 u, .int .i64 o, .int .i64 g, .int .i64 p], .int .i64 t, .int .i64 x]) (v := Value.agg #[Value.int IntKind.i64 t, Value.int IntKind.i64 0, Value.int IntKind.i64 x, Value.int IntKind.i64 0, Value.int IntKind.i64 0, Value.int IntKind.i64 (IntKind.i64.wrap (p + 1))]) (ps := []) (call_spec ΨK1_spec mixed 4) mixed (by kernel_rfl) ob_nil (by kernel_rfl) (by kernel_rfl) w).mono ?_
  exact fun e w1 h => h
def ψturned : CallF := fun f args H _ =>
  if f = 91 then match args with
    | [.agg ⟨[.int .i64 s, .int .i64 f, .int .i64 u, .int .i64 o, .int .i64 g, .int .i64 p]⟩, .int .i64 t, .int .i64 x] => some (Value.agg #[Value.int IntKind.i64 t, Value.int IntKind.i64 0, Value.int IntKind.i64 x, Value.int IntKind.i64 0, Value.int IntKind.i64 0, Value.int IntKind.i64 ((IntKind.i64.wrap (p + 1)))], H)
    | _ => none
  else none
theorem ψturned_spec [Inhabited RawG] : CallSpec Try.prog ψturned := by
  intro g av Hs lo v H1 h D ρ w args hlt hsz hav hw
  unfold ψturned at h
  split at h
  · rename_i hg
    subst hg
    split at h
    · cases h; exact spec_of_pure (fun w => turned_any _ _ _ _ _ _ _ _ w) (by kernel_rfl) (by kernel_rfl) hsz hav hw
    · cases h
  · cases h
theorem newB_any  (w : World) : Calls Try.prog 37 #[] w (fun e w1 => e = .returned (Value.agg #[Value.int IntKind.i64 1, Value.int IntKind.i64 0, Value.int IntKind.i64 0, Value.int IntKind.i64 0, Value.int IntKind.i64 0, Value.int IntKind.i64 0]) ∧ Below w.heap.size w w1) := by
  refine (calls_orc (call := aCall Try.prog ΨK1 10 100 4) (ω := []) (LF := 10) (F := 100) (av := []) (v := Value.agg #[Value.int IntKind.i64 1, Value.int IntKind.i64 0, Value.int IntKind.i64 0, Value.int IntKind.i64 0, Value.int IntKind.i64 0, Value.int IntKind.i64 0]) (ps := []) (call_spec ΨK1_spec mixed 4) mixed (by kernel_rfl) ob_nil (by kernel_rfl) (by kernel_rfl) w).mono ?_
  exact fun e w1 h => h
def ψnewB : CallF := fun f args H _ =>
  if f = 37 then match args with
    | [] => some (Value.agg #[Value.int IntKind.i64 1, Value.int IntKind.i64 0, Value.int IntKind.i64 0, Value.int IntKind.i64 0, Value.int IntKind.i64 0, Value.int IntKind.i64 0], H)
    | _ => none
  else none
theorem ψnewB_spec [Inhabited RawG] : CallSpec Try.prog ψnewB := by
  intro g av Hs lo v H1 h D ρ w args hlt hsz hav hw
  unfold ψnewB at h
  split at h
  · rename_i hg
    subst hg
    split at h
    · cases h; exact spec_of_pure (fun w => newB_any  w) (by kernel_rfl) (by kernel_rfl) hsz hav hw
    · cases h
  · cases h
def pwithin_0 (n : Int) (most : Int) : Bool := (bif (decide (n ≥ 1)) then (decide (n ≤ most)) else false)
theorem pwithin_any (n : Int) (most : Int) (w : World) : Calls Try.prog 72 #[.int .i64 n, .int .i64 most] w (fun e w1 => e = .returned (Value.bool (pwithin_0 n most)) ∧ Below w.heap.size w w1) := by
  rcases Bool.eq_false_or_eq_true (decide (n ≥ 1)) with h0 | h0
  · refine (calls_orc (call := aCall Try.prog ΨK1 10 100 4) (ω := [(192, OV.soft (Value.bool true))]) (LF := 10) (F := 100) (av := [.int .i64 n, .int .i64 most]) (v := Value.bool (decide (n ≤ most))) (ps := [decide (n ≥ 1) = true]) (call_spec ΨK1_spec mixed 4) mixed (by kernel_rfl) (ob_cons h0 ob_nil) (by kernel_rfl) (by kernel_rfl) w).mono ?_
    rintro e w1 ⟨rfl, hb⟩; exact ⟨by simp only [pwithin_0, h0, cond_true, cond_false], hb⟩
  · refine (calls_orc (call := aCall Try.prog ΨK1 10 100 4) (ω := [(192, OV.soft (Value.bool false))]) (LF := 10) (F := 100) (av := [.int .i64 n, .int .i64 most]) (v := Value.bool false) (ps := [decide (n ≥ 1) = false]) (call_spec ΨK1_spec mixed 4) mixed (by kernel_rfl) (ob_cons h0 ob_nil) (by kernel_rfl) (by kernel_rfl) w).mono ?_
    rintro e w1 ⟨rfl, hb⟩; exact ⟨by simp only [pwithin_0, h0, cond_true, cond_false], hb⟩
def ψpwithin : CallF := fun f args H _ =>
  if f = 72 then match args with
    | [.int .i64 n, .int .i64 most] => some (Value.bool (pwithin_0 n most), H)
    | _ => none
  else none
theorem ψpwithin_spec [Inhabited RawG] : CallSpec Try.prog ψpwithin := by
  intro g av Hs lo v H1 h D ρ w args hlt hsz hav hw
  unfold ψpwithin at h
  split at h
  · rename_i hg
    subst hg
    split at h
    · cases h; exact spec_of_pure (fun w => pwithin_any _ _ w) (by kernel_rfl) (by kernel_rfl) hsz hav hw
    · cases h
  · cases h
theorem newP_any  (w : World) : Calls Try.prog 38 #[] w (fun e w1 => e = .returned (Value.agg #[Value.bool true, Value.int IntKind.i64 0, Value.int IntKind.i64 0, Value.bool false, Value.int IntKind.i64 0]) ∧ Below w.heap.size w w1) := by
  refine (calls_orc (call := aCall Try.prog ΨK1 10 100 4) (ω := []) (LF := 10) (F := 100) (av := []) (v := Value.agg #[Value.bool true, Value.int IntKind.i64 0, Value.int IntKind.i64 0, Value.bool false, Value.int IntKind.i64 0]) (ps := []) (call_spec ΨK1_spec mixed 4) mixed (by kernel_rfl) ob_nil (by kernel_rfl) (by kernel_rfl) w).mono ?_
  exact fun e w1 h => h
def ψnewP : CallF := fun f args H _ =>
  if f = 38 then match args with
    | [] => some (Value.agg #[Value.bool true, Value.int IntKind.i64 0, Value.int IntKind.i64 0, Value.bool false, Value.int IntKind.i64 0], H)
    | _ => none
  else none
theorem ψnewP_spec [Inhabited RawG] : CallSpec Try.prog ψnewP := by
  intro g av Hs lo v H1 h D ρ w args hlt hsz hav hw
  unfold ψnewP at h
  split at h
  · rename_i hg
    subst hg
    split at h
    · cases h; exact spec_of_pure (fun w => newP_any  w) (by kernel_rfl) (by kernel_rfl) hsz hav hw
    · cases h
  · cases h
def number_0 (x : Bool) : Int := (bif (x) then 1 else 0)
theorem number_any (x : Bool) (w : World) : Calls Try.prog 82 #[.bool x] w (fun e w1 => e = .returned (Value.int IntKind.i64 (number_0 x)) ∧ Below w.heap.size w w1) := by
  rcases Bool.eq_false_or_eq_true (x) with h0 | h0
  · refine (calls_orc (call := aCall Try.prog ΨK1 10 100 4) (ω := [(64, OV.soft (Value.bool true))]) (LF := 10) (F := 100) (av := [.bool x]) (v := Value.int IntKind.i64 1) (ps := [x = true]) (call_spec ΨK1_spec mixed 4) mixed (by kernel_rfl) (ob_cons h0 ob_nil) (by kernel_rfl) (by kernel_rfl) w).mono ?_
    rintro e w1 ⟨rfl, hb⟩; exact ⟨by simp only [number_0, h0, cond_true, cond_false], hb⟩
  · refine (calls_orc (call := aCall Try.prog ΨK1 10 100 4) (ω := [(64, OV.soft (Value.bool false))]) (LF := 10) (F := 100) (av := [.bool x]) (v := Value.int IntKind.i64 0) (ps := [x = false]) (call_spec ΨK1_spec mixed 4) mixed (by kernel_rfl) (ob_cons h0 ob_nil) (by kernel_rfl) (by kernel_rfl) w).mono ?_
    rintro e w1 ⟨rfl, hb⟩; exact ⟨by simp only [number_0, h0, cond_true, cond_false], hb⟩
def ψnumber : CallF := fun f args H _ =>
  if f = 82 then match args with
    | [.bool x] => some (Value.int IntKind.i64 (number_0 x), H)
    | _ => none
  else none
theorem ψnumber_spec [Inhabited RawG] : CallSpec Try.prog ψnumber := by
  intro g av Hs lo v H1 h D ρ w args hlt hsz hav hw
  unfold ψnumber at h
  split at h
  · rename_i hg
    subst hg
    split at h
    · cases h; exact spec_of_pure (fun w => number_any _ w) (by kernel_rfl) (by kernel_rfl) hsz hav hw
    · cases h
  · cases h
def due_0 (up : Bool) (run : Int) (nxt : Int) (out : Bool) (since : Int) (now : Int) : Bool := (bif (!out) then (decide (nxt ≤ now)) else false)
theorem due_any (up : Bool) (run : Int) (nxt : Int) (out : Bool) (since : Int) (now : Int) (w : World) : Calls Try.prog 81 #[.agg #[.bool up, .int .i64 run, .int .i64 nxt, .bool out, .int .i64 since], .int .i64 now] w (fun e w1 => e = .returned (Value.bool (due_0 up run nxt out since now)) ∧ Below w.heap.size w w1) := by
  rcases Bool.eq_false_or_eq_true (!out) with h0 | h0
  · refine (calls_orc (call := aCall Try.prog ΨK1 10 100 4) (ω := [(320, OV.soft (Value.bool true))]) (LF := 10) (F := 100) (av := [.agg #[.bool up, .int .i64 run, .int .i64 nxt, .bool out, .int .i64 since], .int .i64 now]) (v := Value.bool (decide (nxt ≤ now))) (ps := [(!out) = true]) (call_spec ΨK1_spec mixed 4) mixed (by kernel_rfl) (ob_cons h0 ob_nil) (by kernel_rfl) (by kernel_rfl) w).mono ?_
    rintro e w1 ⟨rfl, hb⟩; exact ⟨by simp only [due_0, h0, cond_true, cond_false], hb⟩
  · refine (calls_orc (call := aCall Try.prog ΨK1 10 100 4) (ω := [(320, OV.soft (Value.bool false))]) (LF := 10) (F := 100) (av := [.agg #[.bool up, .int .i64 run, .int .i64 nxt, .bool out, .int .i64 since], .int .i64 now]) (v := Value.bool false) (ps := [(!out) = false]) (call_spec ΨK1_spec mixed 4) mixed (by kernel_rfl) (ob_cons h0 ob_nil) (by kernel_rfl) (by kernel_rfl) w).mono ?_
    rintro e w1 ⟨rfl, hb⟩; exact ⟨by simp only [due_0, h0, cond_true, cond_false], hb⟩
def ψdue : CallF := fun f args H _ =>
  if f = 81 then match args with
    | [.agg ⟨[.bool up, .int .i64 run, .int .i64 nxt, .bool out, .int .i64 since]⟩, .int .i64 now] => some (Value.bool (due_0 up run nxt out since now), H)
    | _ => none
  else none
theorem ψdue_spec [Inhabited RawG] : CallSpec Try.prog ψdue := by
  intro g av Hs lo v H1 h D ρ w args hlt hsz hav hw
  unfold ψdue at h
  split at h
  · rename_i hg
    subst hg
    split at h
    · cases h; exact spec_of_pure (fun w => due_any _ _ _ _ _ _ w) (by kernel_rfl) (by kernel_rfl) hsz hav hw
    · cases h
  · cases h
def check_0 (cf : Int) (cb : Int) (cm : Int) (cp : Int) : Int := (bif (decide (cf < 1)) then 200 else (bif (decide (cf > 1048576)) then 200 else (bif (decide (cb < 1)) then 200 else (bif (decide (cb > 253402300799)) then 200 else (bif (decide (cm < cb)) then 200 else (bif (decide (cm > 253402300799)) then 200 else (bif (decide (cp < 0)) then 200 else (bif (decide (cp > 100)) then 200 else 0))))))))
theorem check_any (cf : Int) (cb : Int) (cm : Int) (cp : Int) (w : World) : Calls Try.prog 40 #[.agg #[.int .i64 cf, .int .i64 cb, .int .i64 cm, .int .i64 cp]] w (fun e w1 => e = .returned (Value.int IntKind.i64 (check_0 cf cb cm cp)) ∧ Below w.heap.size w w1) := by
  rcases Bool.eq_false_or_eq_true (decide (cf < 1)) with h0 | h0
  · refine (calls_orc (call := aCall Try.prog ΨK1 10 100 4) (ω := [(320, OV.soft (Value.bool true))]) (LF := 10) (F := 100) (av := [.agg #[.int .i64 cf, .int .i64 cb, .int .i64 cm, .int .i64 cp]]) (v := Value.int IntKind.i64 200) (ps := [decide (cf < 1) = true]) (call_spec ΨK1_spec mixed 4) mixed (by kernel_rfl) (ob_cons h0 ob_nil) (by kernel_rfl) (by kernel_rfl) w).mono ?_
    rintro e w1 ⟨rfl, hb⟩; exact ⟨by simp only [check_0, h0, cond_true, cond_false], hb⟩
  · rcases Bool.eq_false_or_eq_true (decide (cf > 1048576)) with h1 | h1
    · refine (calls_orc (call := aCall Try.prog ΨK1 10 100 4) (ω := [(320, OV.soft (Value.bool false)), (640, OV.soft (Value.bool true))]) (LF := 10) (F := 100) (av := [.agg #[.int .i64 cf, .int .i64 cb, .int .i64 cm, .int .i64 cp]]) (v := Value.int IntKind.i64 200) (ps := [decide (cf < 1) = false, decide (cf > 1048576) = true]) (call_spec ΨK1_spec mixed 4) mixed (by kernel_rfl) (ob_cons h0 (ob_cons h1 ob_nil)) (by kernel_rfl) (by kernel_rfl) w).mono ?_
      rintro e w1 ⟨rfl, hb⟩; exact ⟨by simp only [check_0, h0, h1, cond_true, cond_false], hb⟩
    · rcases Bool.eq_false_or_eq_true (decide (cb < 1)) with h2 | h2
      · refine (calls_orc (call := aCall Try.prog ΨK1 10 100 4) (ω := [(320, OV.soft (Value.bool false)), (640, OV.soft (Value.bool false)), (960, OV.soft (Value.bool true))]) (LF := 10) (F := 100) (av := [.agg #[.int .i64 cf, .int .i64 cb, .int .i64 cm, .int .i64 cp]]) (v := Value.int IntKind.i64 200) (ps := [decide (cf < 1) = false, decide (cf > 1048576) = false, decide (cb < 1) = true]) (call_spec ΨK1_spec mixed 4) mixed (by kernel_rfl) (ob_cons h0 (ob_cons h1 (ob_cons h2 ob_nil))) (by kernel_rfl) (by kernel_rfl) w).mono ?_
        rintro e w1 ⟨rfl, hb⟩; exact ⟨by simp only [check_0, h0, h1, h2, cond_true, cond_false], hb⟩
      · rcases Bool.eq_false_or_eq_true (decide (cb > 253402300799)) with h3 | h3
        · refine (calls_orc (call := aCall Try.prog ΨK1 10 100 4) (ω := [(320, OV.soft (Value.bool false)), (640, OV.soft (Value.bool false)), (960, OV.soft (Value.bool false)), (1280, OV.soft (Value.bool true))]) (LF := 10) (F := 100) (av := [.agg #[.int .i64 cf, .int .i64 cb, .int .i64 cm, .int .i64 cp]]) (v := Value.int IntKind.i64 200) (ps := [decide (cf < 1) = false, decide (cf > 1048576) = false, decide (cb < 1) = false, decide (cb > 253402300799) = true]) (call_spec ΨK1_spec mixed 4) mixed (by kernel_rfl) (ob_cons h0 (ob_cons h1 (ob_cons h2 (ob_cons h3 ob_nil)))) (by kernel_rfl) (by kernel_rfl) w).mono ?_
          rintro e w1 ⟨rfl, hb⟩; exact ⟨by simp only [check_0, h0, h1, h2, h3, cond_true, cond_false], hb⟩
        · rcases Bool.eq_false_or_eq_true (decide (cm < cb)) with h4 | h4
          · refine (calls_orc (call := aCall Try.prog ΨK1 10 100 4) (ω := [(320, OV.soft (Value.bool false)), (640, OV.soft (Value.bool false)), (960, OV.soft (Value.bool false)), (1280, OV.soft (Value.bool false)), (1728, OV.soft (Value.bool true))]) (LF := 10) (F := 100) (av := [.agg #[.int .i64 cf, .int .i64 cb, .int .i64 cm, .int .i64 cp]]) (v := Value.int IntKind.i64 200) (ps := [decide (cf < 1) = false, decide (cf > 1048576) = false, decide (cb < 1) = false, decide (cb > 253402300799) = false, decide (cm < cb) = true]) (call_spec ΨK1_spec mixed 4) mixed (by kernel_rfl) (ob_cons h0 (ob_cons h1 (ob_cons h2 (ob_cons h3 (ob_cons h4 ob_nil))))) (by kernel_rfl) (by kernel_rfl) w).mono ?_
            rintro e w1 ⟨rfl, hb⟩; exact ⟨by simp only [check_0, h0, h1, h2, h3, h4, cond_true, cond_false], hb⟩
          · rcases Bool.eq_false_or_eq_true (decide (cm > 253402300799)) with h5 | h5
            · refine (calls_orc (call := aCall Try.prog ΨK1 10 100 4) (ω := [(320, OV.soft (Value.bool false)), (640, OV.soft (Value.bool false)), (960, OV.soft (Value.bool false)), (1280, OV.soft (Value.bool false)), (1728, OV.soft (Value.bool false)), (2048, OV.soft (Value.bool true))]) (LF := 10) (F := 100) (av := [.agg #[.int .i64 cf, .int .i64 cb, .int .i64 cm, .int .i64 cp]]) (v := Value.int IntKind.i64 200) (ps := [decide (cf < 1) = false, decide (cf > 1048576) = false, decide (cb < 1) = false, decide (cb > 253402300799) = false, decide (cm < cb) = false, decide (cm > 253402300799) = true]) (call_spec ΨK1_spec mixed 4) mixed (by kernel_rfl) (ob_cons h0 (ob_cons h1 (ob_cons h2 (ob_cons h3 (ob_cons h4 (ob_cons h5 ob_nil)))))) (by kernel_rfl) (by kernel_rfl) w).mono ?_
              rintro e w1 ⟨rfl, hb⟩; exact ⟨by simp only [check_0, h0, h1, h2, h3, h4, h5, cond_true, cond_false], hb⟩
            · rcases Bool.eq_false_or_eq_true (decide (cp < 0)) with h6 | h6
              · refine (calls_orc (call := aCall Try.prog ΨK1 10 100 4) (ω := [(320, OV.soft (Value.bool false)), (640, OV.soft (Value.bool false)), (960, OV.soft (Value.bool false)), (1280, OV.soft (Value.bool false)), (1728, OV.soft (Value.bool false)), (2048, OV.soft (Value.bool false)), (2368, OV.soft (Value.bool true))]) (LF := 10) (F := 100) (av := [.agg #[.int .i64 cf, .int .i64 cb, .int .i64 cm, .int .i64 cp]]) (v := Value.int IntKind.i64 200) (ps := [decide (cf < 1) = false, decide (cf > 1048576) = false, decide (cb < 1) = false, decide (cb > 253402300799) = false, decide (cm < cb) = false, decide (cm > 253402300799) = false, decide (cp < 0) = true]) (call_spec ΨK1_spec mixed 4) mixed (by kernel_rfl) (ob_cons h0 (ob_cons h1 (ob_cons h2 (ob_cons h3 (ob_cons h4 (ob_cons h5 (ob_cons h6 ob_nil))))))) (by kernel_rfl) (by kernel_rfl) w).mono ?_
                rintro e w1 ⟨rfl, hb⟩; exact ⟨by simp only [check_0, h0, h1, h2, h3, h4, h5, h6, cond_true, cond_false], hb⟩
              · rcases Bool.eq_false_or_eq_true (decide (cp > 100)) with h7 | h7
                · refine (calls_orc (call := aCall Try.prog ΨK1 10 100 4) (ω := [(320, OV.soft (Value.bool false)), (640, OV.soft (Value.bool false)), (960, OV.soft (Value.bool false)), (1280, OV.soft (Value.bool false)), (1728, OV.soft (Value.bool false)), (2048, OV.soft (Value.bool false)), (2368, OV.soft (Value.bool false)), (2624, OV.soft (Value.bool true))]) (LF := 10) (F := 100) (av := [.agg #[.int .i64 cf, .int .i64 cb, .int .i64 cm, .int .i64 cp]]) (v := Value.int IntKind.i64 200) (ps := [decide (cf < 1) = false, decide (cf > 1048576) = false, decide (cb < 1) = false, decide (cb > 253402300799) = false, decide (cm < cb) = false, decide (cm > 253402300799) = false, decide (cp < 0) = false, decide (cp > 100) = true]) (call_spec ΨK1_spec mixed 4) mixed (by kernel_rfl) (ob_cons h0 (ob_cons h1 (ob_cons h2 (ob_cons h3 (ob_cons h4 (ob_cons h5 (ob_cons h6 (ob_cons h7 ob_nil)))))))) (by kernel_rfl) (by kernel_rfl) w).mono ?_
                  rintro e w1 ⟨rfl, hb⟩; exact ⟨by simp only [check_0, h0, h1, h2, h3, h4, h5, h6, h7, cond_true, cond_false], hb⟩
                · refine (calls_orc (call := aCall Try.prog ΨK1 10 100 4) (ω := [(320, OV.soft (Value.bool false)), (640, OV.soft (Value.bool false)), (960, OV.soft (Value.bool false)), (1280, OV.soft (Value.bool false)), (1728, OV.soft (Value.bool false)), (2048, OV.soft (Value.bool false)), (2368, OV.soft (Value.bool false)), (2624, OV.soft (Value.bool false))]) (LF := 10) (F := 100) (av := [.agg #[.int .i64 cf, .int .i64 cb, .int .i64 cm, .int .i64 cp]]) (v := Value.int IntKind.i64 0) (ps := [decide (cf < 1) = false, decide (cf > 1048576) = false, decide (cb < 1) = false, decide (cb > 253402300799) = false, decide (cm < cb) = false, decide (cm > 253402300799) = false, decide (cp < 0) = false, decide (cp > 100) = false]) (call_spec ΨK1_spec mixed 4) mixed (by kernel_rfl) (ob_cons h0 (ob_cons h1 (ob_cons h2 (ob_cons h3 (ob_cons h4 (ob_cons h5 (ob_cons h6 (ob_cons h7 ob_nil)))))))) (by kernel_rfl) (by kernel_rfl) w).mono ?_
                  rintro e w1 ⟨rfl, hb⟩; exact ⟨by simp only [check_0, h0, h1, h2, h3, h4, h5, h6, h7, cond_true, cond_false], hb⟩
def ψcheck : CallF := fun f args H _ =>
  if f = 40 then match args with
    | [.agg ⟨[.int .i64 cf, .int .i64 cb, .int .i64 cm, .int .i64 cp]⟩] => some (Value.int IntKind.i64 (check_0 cf cb cm cp), H)
    | _ => none
  else none
theorem ψcheck_spec [Inhabited RawG] : CallSpec Try.prog ψcheck := by
  intro g av Hs lo v H1 h D ρ w args hlt hsz hav hw
  unfold ψcheck at h
  split at h
  · rename_i hg
    subst hg
    split at h
    · cases h; exact spec_of_pure (fun w => check_any _ _ _ _ w) (by kernel_rfl) (by kernel_rfl) hsz hav hw
    · cases h
  · cases h
def ΨS1_0 : CallF := orΨ ψbwithin ΨK1
theorem ΨS1_0_spec [Inhabited RawG] : CallSpec Try.prog ΨS1_0 := orΨ_spec ψbwithin_spec ΨK1_spec
def ΨS1_1 : CallF := orΨ ψturned ΨS1_0
theorem ΨS1_1_spec [Inhabited RawG] : CallSpec Try.prog ΨS1_1 := orΨ_spec ψturned_spec ΨS1_0_spec
def ΨS1_2 : CallF := orΨ ψnewB ΨS1_1
theorem ΨS1_2_spec [Inhabited RawG] : CallSpec Try.prog ΨS1_2 := orΨ_spec ψnewB_spec ΨS1_1_spec
def ΨS1_3 : CallF := orΨ ψpwithin ΨS1_2
theorem ΨS1_3_spec [Inhabited RawG] : CallSpec Try.prog ΨS1_3 := orΨ_spec ψpwithin_spec ΨS1_2_spec
def ΨS1_4 : CallF := orΨ ψnewP ΨS1_3
theorem ΨS1_4_spec [Inhabited RawG] : CallSpec Try.prog ΨS1_4 := orΨ_spec ψnewP_spec ΨS1_3_spec
def ΨS1_5 : CallF := orΨ ψnumber ΨS1_4
theorem ΨS1_5_spec [Inhabited RawG] : CallSpec Try.prog ΨS1_5 := orΨ_spec ψnumber_spec ΨS1_4_spec
def ΨS1_6 : CallF := orΨ ψdue ΨS1_5
theorem ΨS1_6_spec [Inhabited RawG] : CallSpec Try.prog ΨS1_6 := orΨ_spec ψdue_spec ΨS1_5_spec
def ΨS1 : CallF := orΨ ψcheck ΨS1_6
theorem ΨS1_spec [Inhabited RawG] : CallSpec Try.prog ΨS1 := orΨ_spec ψcheck_spec ΨS1_6_spec
end Go.Proofs.Ytadpnamooajpoaa
