/- Contracts that the engine has found; their texts are a program's. -/
import Derived.Test.YtadpnamooajpoaaS1

import Derived.Test.YtadpnamooajpoaaX17
namespace Go.Proofs.Ytadpnamooajpoaa
open Go.RowKit
set_option linter.unusedVariables false
set_option linter.unusedSectionVars false
set_option linter.unusedSimpArgs false
set_option maxRecDepth 100000
def bcheck_0 (cf : Int) (cd : Int) (ct : Int) (cg : Int) : Int := (bif (!bwithin_0 cf) then 190 else (bif (!bwithin_0 ct) then 190 else (bif (!bwithin_0 cg) then 190 else (bif (decide (cg > ct)) then 190 else (bif (decide (cd < 1)) then 190 else (bif (decide (cd > 253402300799)) then 190 else 0))))))
theorem bcheck_any (cf : Int) (cd : Int) (ct : Int) (cg : Int) (w : World) : Calls Try.prog 39 #[.agg #[.int .i64 cf, .int .i64 cd, .int .i64 ct, .int .i64 cg]] w (fun e w1 => e = .returned (Value.int IntKind.i64 (bcheck_0 cf cd ct cg)) ∧ Below w.heap.size w w1) := by
  rcases Bool.eq_false_or_eq_true (!bwithin_0 cf) with h0 | h0
  · refine (calls_orc (call := aCall Try.prog ΨS1 10 100 4) (ω := [(384, OV.soft (Value.bool true))]) (LF := 10) (F := 100) (av := [.agg #[.int .i64 cf, .int .i64 cd, .int .i64 ct, .int .i64 cg]]) (v := Value.int IntKind.i64 190) (ps := [(!bwithin_0 cf) = true]) (call_spec ΨS1_spec mixed 4) mixed (by kernel_rfl) (ob_cons h0 ob_nil) (by kernel_rfl) (by kernel_rfl) w).mono ?_
    rintro e w1 ⟨rfl, hb⟩; exact ⟨by simp only [bcheck_0, h0, cond_true, cond_false], hb⟩
  · rcases Bool.eq_false_or_eq_true (!bwithin_0 ct) with h1 | h1
    · refine (calls_orc (call := aCall Try.prog ΨS1 10 100 4) (ω := [(384, OV.soft (Value.bool false)), (768, OV.soft (Value.bool true))]) (LF := 10) (F := 100) (av := [.agg #[.int .i64 cf, .int .i64 cd, .int .i64 ct, .int .i64 cg]]) (v := Value.int IntKind.i64 190) (ps := [(!bwithin_0 cf) = false, (!bwithin_0 ct) = true]) (call_spec ΨS1_spec mixed 4) mixed (by kernel_rfl) (ob_cons h0 (ob_cons h1 ob_nil)) (by kernel_rfl) (by kernel_rfl) w).mono ?_
      rintro e w1 ⟨rfl, hb⟩; exact ⟨by simp only [bcheck_0, h0, h1, cond_true, cond_false], hb⟩
    · rcases Bool.eq_false_or_eq_true (!bwithin_0 cg) with h2 | h2
      · refine (calls_orc (call := aCall Try.prog ΨS1 10 100 4) (ω := [(384, OV.soft (Value.bool false)), (768, OV.soft (Value.bool false)), (1152, OV.soft (Value.bool true))]) (LF := 10) (F := 100) (av := [.agg #[.int .i64 cf, .int .i64 cd, .int .i64 ct, .int .i64 cg]]) (v := Value.int IntKind.i64 190) (ps := [(!bwithin_0 cf) = false, (!bwithin_0 ct) = false, (!bwithin_0 cg) = true]) (call_spec ΨS1_spec mixed 4) mixed (by kernel_rfl) (ob_cons h0 (ob_cons h1 (ob_cons h2 ob_nil))) (by kernel_rfl) (by kernel_rfl) w).mono ?_
        rintro e w1 ⟨rfl, hb⟩; exact ⟨by simp only [bcheck_0, h0, h1, h2, cond_true, cond_false], hb⟩
      · rcases Bool.eq_false_or_eq_true (decide (cg > ct)) with h3 | h3
        · refine (calls_orc (call := aCall Try.prog ΨS1 10 100 4) (ω := [(384, OV.soft (Value.bool false)), (768, OV.soft (Value.bool false)), (1152, OV.soft (Value.bool false)), (1600, OV.soft (Value.bool true))]) (LF := 10) (F := 100) (av := [.agg #[.int .i64 cf, .int .i64 cd, .int .i64 ct, .int .i64 cg]]) (v := Value.int IntKind.i64 190) (ps := [(!bwithin_0 cf) = false, (!bwithin_0 ct) = false, (!bwithin_0 cg) = false, decide (cg > ct) = true]) (call_spec ΨS1_spec mixed 4) mixed (by kernel_rfl) (ob_cons h0 (ob_cons h1 (ob_cons h2 (ob_cons h3 ob_nil)))) (by kernel_rfl) (by kernel_rfl) w).mono ?_
          rintro e w1 ⟨rfl, hb⟩; exact ⟨by simp only [bcheck_0, h0, h1, h2, h3, cond_true, cond_false], hb⟩
        · rcases Bool.eq_false_or_eq_true (decide (cd < 1)) with h4 | h4
          · refine (calls_orc (call := aCall Try.prog ΨS1 10 100 4) (ω := [(384, OV.soft (Value.bool false)), (768, OV.soft (Value.bool false)), (1152, OV.soft (Value.bool false)), (1600, OV.soft (Value.bool false)), (1920, OV.soft (Value.bool true))]) (LF := 10) (F := 100) (av := [.agg #[.int .i64 cf, .int .i64 cd, .int .i64 ct, .int .i64 cg]]) (v := Value.int IntKind.i64 190) (ps := [(!bwithin_0 cf) = false, (!bwithin_0 ct) = false, (!bwithin_0 cg) = false, decide (cg > ct) = false, decide (cd < 1) = true]) (call_spec ΨS1_spec mixed 4) mixed (by kernel_rfl) (ob_cons h0 (ob_cons h1 (ob_cons h2 (ob_cons h3 (ob_cons h4 ob_nil))))) (by kernel_rfl) (by kernel_rfl) w).mono ?_
            rintro e w1 ⟨rfl, hb⟩; exact ⟨by simp only [bcheck_0, h0, h1, h2, h3, h4, cond_true, cond_false], hb⟩
          · rcases Bool.eq_false_or_eq_true (decide (cd > 253402300799)) with h5 | h5
            · refine (calls_orc (call := aCall Try.prog ΨS1 10 100 4) (ω := [(384, OV.soft (Value.bool false)), (768, OV.soft (Value.bool false)), (1152, OV.soft (Value.bool false)), (1600, OV.soft (Value.bool false)), (1920, OV.soft (Value.bool false)), (2176, OV.soft (Value.bool true))]) (LF := 10) (F := 100) (av := [.agg #[.int .i64 cf, .int .i64 cd, .int .i64 ct, .int .i64 cg]]) (v := Value.int IntKind.i64 190) (ps := [(!bwithin_0 cf) = false, (!bwithin_0 ct) = false, (!bwithin_0 cg) = false, decide (cg > ct) = false, decide (cd < 1) = false, decide (cd > 253402300799) = true]) (call_spec ΨS1_spec mixed 4) mixed (by kernel_rfl) (ob_cons h0 (ob_cons h1 (ob_cons h2 (ob_cons h3 (ob_cons h4 (ob_cons h5 ob_nil)))))) (by kernel_rfl) (by kernel_rfl) w).mono ?_
              rintro e w1 ⟨rfl, hb⟩; exact ⟨by simp only [bcheck_0, h0, h1, h2, h3, h4, h5, cond_true, cond_false], hb⟩
            · refine (calls_orc (call := aCall Try.prog ΨS1 10 100 4) (ω := [(384, OV.soft (Value.bool false)), (768, OV.soft (Value.bool false)), (1152, OV.soft (Value.bool false)), (1600, OV.soft (Value.bool false)), (1920, OV.soft (Value.bool false)), (2176, OV.soft (Value.bool false))]) (LF := 10) (F := 100) (av := [.agg #[.int .i64 cf, .int .i64 cd, .int .i64 ct, .int .i64 cg]]) (v := Value.int IntKind.i64 0) (ps := [(!bwithin_0 cf) = false, (!bwithin_0 ct) = false, (!bwithin_0 cg) = false, decide (cg > ct) = false, decide (cd < 1) = false, decide (cd > 253402300799) = false]) (call_spec ΨS1_spec mixed 4) mixed (by kernel_rfl) (ob_cons h0 (ob_cons h1 (ob_cons h2 (ob_cons h3 (ob_cons h4 (ob_cons h5 ob_nil)))))) (by kernel_rfl) (by kernel_rfl) w).mono ?_
              rintro e w1 ⟨rfl, hb⟩; exact ⟨by simp only [bcheck_0, h0, h1, h2, h3, h4, h5, cond_true, cond_false], hb⟩
def ψbcheck : CallF := fun f args H _ =>
  if f = 39 then match args with
    | [.agg ⟨[.int .i64 cf, .int .i64 cd, .int .i64 ct, .int .i64 cg]⟩] => some (Value.int IntKind.i64 (bcheck_0 cf cd ct cg), H)
    | _ => none
  else none
theorem ψbcheck_spec [Inhabited RawG] : CallSpec Try.prog ψbcheck := by
  intro g av Hs lo v H1 h D ρ w args hlt hsz hav hw
  unfold ψbcheck at h
  split at h
  · rename_i hg
    subst hg
    split at h
    · cases h; exact spec_of_pure (fun w => bcheck_any _ _ _ _ w) (by kernel_rfl) (by kernel_rfl) hsz hav hw
    · cases h
  · cases h
theorem opened_any (s : Int) (f : Int) (u : Int) (o : Int) (g : Int) (p : Int) (cf : Int) (cd : Int) (ct : Int) (cg : Int) (now : Int) (w : World) : Calls Try.prog 90 #[.agg #[.int .i64 s, .int .i64 f, .int .i64 u, .int .i64 o, .int .i64 g, .int .i64 p], .agg #[.int .i64 cf, .int .i64 cd, .int .i64 ct, .int .i64 cg], .int .i64 now] w (fun e w1 => e = .returned (Value.agg #[Value.int IntKind.i64 2, Value.int IntKind.i64 0, Value.int IntKind.i64 ((IntKind.i64.wrap ((if IntKind.i64.wrap (253402300799 - cd) < now then IntKind.i64.wrap (253402300799 - cd) else now) + cd))), Value.int IntKind.i64 0, Value.int IntKind.i64 0, Value.int IntKind.i64 ((IntKind.i64.wrap (p + 1)))]) ∧ Below w.heap.size w w1) := by
  refine (calls_orc (call := aCall Try.prog ΨS1 10 100 4) (ω := []) (LF := 10) (F := 100) (av := [.agg #[.int .i64 s, .int .i64 f, .int .i64 u, .int .i64 o, .int .i64 g, .int .i64 p], .agg #[.int .i64 cf, .int .i64 cd, .int .i64 ct, .int .i64 cg], .int .i64 now]) (v := Value.agg #[Value.int IntKind.i64 2, Value.int IntKind.i64 0, Value.int IntKind.i64 (IntKind.i64.wrap ((if IntKind.i64.wrap (253402300799 - cd) < now then IntKind.i64.wrap (253402300799 - cd) else now) + cd)), Value.int IntKind.i64 0, Value.int IntKind.i64 0, Value.int IntKind.i64 (IntKind.i64.wrap (p + 1))]) (ps := []) (call_spec ΨS1_spec mixed 4) mixed (by kernel_rfl) ob_nil (by kernel_rfl) (by kernel_rfl) w).mono ?_
  exact fun e w1 h => h
def ψopened : CallF := fun f args H _ =>
  if f = 90 then match args with
    | [.agg ⟨[.int .i64 s, .int .i64 f, .int .i64 u, .int .i64 o, .int .i64 g, .int .i64 p]⟩, .agg ⟨[.int .i64 cf, .int .i64 cd, .int .i64 ct, .int .i64 cg]⟩, .int .i64 now] => some (Value.agg #[Value.int IntKind.i64 2, Value.int IntKind.i64 0, Value.int IntKind.i64 ((IntKind.i64.wrap ((if IntKind.i64.wrap (253402300799 - cd) < now then IntKind.i64.wrap (253402300799 - cd) else now) + cd))), Value.int IntKind.i64 0, Value.int IntKind.i64 0, Value.int IntKind.i64 ((IntKind.i64.wrap (p + 1)))], H)
    | _ => none
  else none
theorem ψopened_spec [Inhabited RawG] : CallSpec Try.prog ψopened := by
  intro g av Hs lo v H1 h D ρ w args hlt hsz hav hw
  unfold ψopened at h
  split at h
  · rename_i hg
    subst hg
    split at h
    · cases h; exact spec_of_pure (fun w => opened_any _ _ _ _ _ _ _ _ _ _ _ w) (by kernel_rfl) (by kernel_rfl) hsz hav hw
    · cases h
  · cases h
def pcheck_0 (ce : Int) (cw : Int) (cr : Int) (cf : Int) : Int := (bif (!pwithin_0 ce 253402300799) then 210 else (bif (!pwithin_0 cw 253402300799) then 210 else (bif (!pwithin_0 cr 1048576) then 210 else (bif (!pwithin_0 cf 1048576) then 210 else 0))))
theorem pcheck_any (ce : Int) (cw : Int) (cr : Int) (cf : Int) (w : World) : Calls Try.prog 41 #[.agg #[.int .i64 ce, .int .i64 cw, .int .i64 cr, .int .i64 cf]] w (fun e w1 => e = .returned (Value.int IntKind.i64 (pcheck_0 ce cw cr cf)) ∧ Below w.heap.size w w1) := by
  rcases Bool.eq_false_or_eq_true (!pwithin_0 ce 253402300799) with h0 | h0
  · refine (calls_orc (call := aCall Try.prog ΨS1 10 100 4) (ω := [(384, OV.soft (Value.bool true))]) (LF := 10) (F := 100) (av := [.agg #[.int .i64 ce, .int .i64 cw, .int .i64 cr, .int .i64 cf]]) (v := Value.int IntKind.i64 210) (ps := [(!pwithin_0 ce 253402300799) = true]) (call_spec ΨS1_spec mixed 4) mixed (by kernel_rfl) (ob_cons h0 ob_nil) (by kernel_rfl) (by kernel_rfl) w).mono ?_
    rintro e w1 ⟨rfl, hb⟩; exact ⟨by simp only [pcheck_0, h0, cond_true, cond_false], hb⟩
  · rcases Bool.eq_false_or_eq_true (!pwithin_0 cw 253402300799) with h1 | h1
    · refine (calls_orc (call := aCall Try.prog ΨS1 10 100 4) (ω := [(384, OV.soft (Value.bool false)), (768, OV.soft (Value.bool true))]) (LF := 10) (F := 100) (av := [.agg #[.int .i64 ce, .int .i64 cw, .int .i64 cr, .int .i64 cf]]) (v := Value.int IntKind.i64 210) (ps := [(!pwithin_0 ce 253402300799) = false, (!pwithin_0 cw 253402300799) = true]) (call_spec ΨS1_spec mixed 4) mixed (by kernel_rfl) (ob_cons h0 (ob_cons h1 ob_nil)) (by kernel_rfl) (by kernel_rfl) w).mono ?_
      rintro e w1 ⟨rfl, hb⟩; exact ⟨by simp only [pcheck_0, h0, h1, cond_true, cond_false], hb⟩
    · rcases Bool.eq_false_or_eq_true (!pwithin_0 cr 1048576) with h2 | h2
      · refine (calls_orc (call := aCall Try.prog ΨS1 10 100 4) (ω := [(384, OV.soft (Value.bool false)), (768, OV.soft (Value.bool false)), (1152, OV.soft (Value.bool true))]) (LF := 10) (F := 100) (av := [.agg #[.int .i64 ce, .int .i64 cw, .int .i64 cr, .int .i64 cf]]) (v := Value.int IntKind.i64 210) (ps := [(!pwithin_0 ce 253402300799) = false, (!pwithin_0 cw 253402300799) = false, (!pwithin_0 cr 1048576) = true]) (call_spec ΨS1_spec mixed 4) mixed (by kernel_rfl) (ob_cons h0 (ob_cons h1 (ob_cons h2 ob_nil))) (by kernel_rfl) (by kernel_rfl) w).mono ?_
        rintro e w1 ⟨rfl, hb⟩; exact ⟨by simp only [pcheck_0, h0, h1, h2, cond_true, cond_false], hb⟩
      · rcases Bool.eq_false_or_eq_true (!pwithin_0 cf 1048576) with h3 | h3
        · refine (calls_orc (call := aCall Try.prog ΨS1 10 100 4) (ω := [(384, OV.soft (Value.bool false)), (768, OV.soft (Value.bool false)), (1152, OV.soft (Value.bool false)), (1472, OV.soft (Value.bool true))]) (LF := 10) (F := 100) (av := [.agg #[.int .i64 ce, .int .i64 cw, .int .i64 cr, .int .i64 cf]]) (v := Value.int IntKind.i64 210) (ps := [(!pwithin_0 ce 253402300799) = false, (!pwithin_0 cw 253402300799) = false, (!pwithin_0 cr 1048576) = false, (!pwithin_0 cf 1048576) = true]) (call_spec ΨS1_spec mixed 4) mixed (by kernel_rfl) (ob_cons h0 (ob_cons h1 (ob_cons h2 (ob_cons h3 ob_nil)))) (by kernel_rfl) (by kernel_rfl) w).mono ?_
          rintro e w1 ⟨rfl, hb⟩; exact ⟨by simp only [pcheck_0, h0, h1, h2, h3, cond_true, cond_false], hb⟩
        · refine (calls_orc (call := aCall Try.prog ΨS1 10 100 4) (ω := [(384, OV.soft (Value.bool false)), (768, OV.soft (Value.bool false)), (1152, OV.soft (Value.bool false)), (1472, OV.soft (Value.bool false))]) (LF := 10) (F := 100) (av := [.agg #[.int .i64 ce, .int .i64 cw, .int .i64 cr, .int .i64 cf]]) (v := Value.int IntKind.i64 0) (ps := [(!pwithin_0 ce 253402300799) = false, (!pwithin_0 cw 253402300799) = false, (!pwithin_0 cr 1048576) = false, (!pwithin_0 cf 1048576) = false]) (call_spec ΨS1_spec mixed 4) mixed (by kernel_rfl) (ob_cons h0 (ob_cons h1 (ob_cons h2 (ob_cons h3 ob_nil)))) (by kernel_rfl) (by kernel_rfl) w).mono ?_
          rintro e w1 ⟨rfl, hb⟩; exact ⟨by simp only [pcheck_0, h0, h1, h2, h3, cond_true, cond_false], hb⟩
def ψpcheck : CallF := fun f args H _ =>
  if f = 41 then match args with
    | [.agg ⟨[.int .i64 ce, .int .i64 cw, .int .i64 cr, .int .i64 cf]⟩] => some (Value.int IntKind.i64 (pcheck_0 ce cw cr cf), H)
    | _ => none
  else none
theorem ψpcheck_spec [Inhabited RawG] : CallSpec Try.prog ψpcheck := by
  intro g av Hs lo v H1 h D ρ w args hlt hsz hav hw
  unfold ψpcheck at h
  split at h
  · rename_i hg
    subst hg
    split at h
    · cases h; exact spec_of_pure (fun w => pcheck_any _ _ _ _ w) (by kernel_rfl) (by kernel_rfl) hsz hav hw
    · cases h
  · cases h
def may_0 (cf : Int) (cb : Int) (cm : Int) (cp : Int) (now : Int) : Int := (bif (check_0 cf cb cm cp != 0) then (check_0 cf cb cm cp) else (bif (decide (now < 0)) then 2 else (bif (decide (now > 253402300799)) then 2 else 0)))
theorem may_any (cf : Int) (cb : Int) (cm : Int) (cp : Int) (now : Int) (w : World) : Calls Try.prog 76 #[.agg #[.int .i64 cf, .int .i64 cb, .int .i64 cm, .int .i64 cp], .int .i64 now] w (fun e w1 => e = .returned (Value.int IntKind.i64 (may_0 cf cb cm cp now)) ∧ Below w.heap.size w w1) := by
  rcases Bool.eq_false_or_eq_true (check_0 cf cb cm cp != 0) with h0 | h0
  · refine (calls_orc (call := aCall Try.prog ΨS1 10 100 4) (ω := [(384, OV.soft (Value.bool true))]) (LF := 10) (F := 100) (av := [.agg #[.int .i64 cf, .int .i64 cb, .int .i64 cm, .int .i64 cp], .int .i64 now]) (v := Value.int IntKind.i64 (check_0 cf cb cm cp)) (ps := [(check_0 cf cb cm cp != 0) = true]) (call_spec ΨS1_spec mixed 4) mixed (by kernel_rfl) (ob_cons h0 ob_nil) (by kernel_rfl) (by kernel_rfl) w).mono ?_
    rintro e w1 ⟨rfl, hb⟩; exact ⟨by simp only [may_0, h0, cond_true, cond_false], hb⟩
  · rcases Bool.eq_false_or_eq_true (decide (now < 0)) with h1 | h1
    · refine (calls_orc (call := aCall Try.prog ΨS1 10 100 4) (ω := [(384, OV.soft (Value.bool false)), (576, OV.soft (Value.bool true))]) (LF := 10) (F := 100) (av := [.agg #[.int .i64 cf, .int .i64 cb, .int .i64 cm, .int .i64 cp], .int .i64 now]) (v := Value.int IntKind.i64 2) (ps := [(check_0 cf cb cm cp != 0) = false, decide (now < 0) = true]) (call_spec ΨS1_spec mixed 4) mixed (by kernel_rfl) (ob_cons h0 (ob_cons h1 ob_nil)) (by kernel_rfl) (by kernel_rfl) w).mono ?_
      rintro e w1 ⟨rfl, hb⟩; exact ⟨by simp only [may_0, h0, h1, cond_true, cond_false], hb⟩
    · rcases Bool.eq_false_or_eq_true (decide (now > 253402300799)) with h2 | h2
      · refine (calls_orc (call := aCall Try.prog ΨS1 10 100 4) (ω := [(384, OV.soft (Value.bool false)), (576, OV.soft (Value.bool false)), (768, OV.soft (Value.bool true))]) (LF := 10) (F := 100) (av := [.agg #[.int .i64 cf, .int .i64 cb, .int .i64 cm, .int .i64 cp], .int .i64 now]) (v := Value.int IntKind.i64 2) (ps := [(check_0 cf cb cm cp != 0) = false, decide (now < 0) = false, decide (now > 253402300799) = true]) (call_spec ΨS1_spec mixed 4) mixed (by kernel_rfl) (ob_cons h0 (ob_cons h1 (ob_cons h2 ob_nil))) (by kernel_rfl) (by kernel_rfl) w).mono ?_
        rintro e w1 ⟨rfl, hb⟩; exact ⟨by simp only [may_0, h0, h1, h2, cond_true, cond_false], hb⟩
      · refine (calls_orc (call := aCall Try.prog ΨS1 10 100 4) (ω := [(384, OV.soft (Value.bool false)), (576, OV.soft (Value.bool false)), (768, OV.soft (Value.bool false))]) (LF := 10) (F := 100) (av := [.agg #[.int .i64 cf, .int .i64 cb, .int .i64 cm, .int .i64 cp], .int .i64 now]) (v := Value.int IntKind.i64 0) (ps := [(check_0 cf cb cm cp != 0) = false, decide (now < 0) = false, decide (now > 253402300799) = false]) (call_spec ΨS1_spec mixed 4) mixed (by kernel_rfl) (ob_cons h0 (ob_cons h1 (ob_cons h2 ob_nil))) (by kernel_rfl) (by kernel_rfl) w).mono ?_
        rintro e w1 ⟨rfl, hb⟩; exact ⟨by simp only [may_0, h0, h1, h2, cond_true, cond_false], hb⟩
def ψmay : CallF := fun f args H _ =>
  if f = 76 then match args with
    | [.agg ⟨[.int .i64 cf, .int .i64 cb, .int .i64 cm, .int .i64 cp]⟩, .int .i64 now] => some (Value.int IntKind.i64 (may_0 cf cb cm cp now), H)
    | _ => none
  else none
theorem ψmay_spec [Inhabited RawG] : CallSpec Try.prog ψmay := by
  intro g av Hs lo v H1 h D ρ w args hlt hsz hav hw
  unfold ψmay at h
  split at h
  · rename_i hg
    subst hg
    split at h
    · cases h; exact spec_of_pure (fun w => may_any _ _ _ _ _ w) (by kernel_rfl) (by kernel_rfl) hsz hav hw
    · cases h
  · cases h
def ΨS2_0 : CallF := orΨ ψbcheck ΨS1
theorem ΨS2_0_spec [Inhabited RawG] : CallSpec Try.prog ΨS2_0 := orΨ_spec ψbcheck_spec ΨS1_spec
def ΨS2_1 : CallF := orΨ ψopened ΨS2_0
theorem ΨS2_1_spec [Inhabited RawG] : CallSpec Try.prog ΨS2_1 := orΨ_spec ψopened_spec ΨS2_0_spec
def ΨS2_2 : CallF := orΨ ψpcheck ΨS2_1
theorem ΨS2_2_spec [Inhabited RawG] : CallSpec Try.prog ΨS2_2 := orΨ_spec ψpcheck_spec ΨS2_1_spec
def ΨS2 : CallF := orΨ ψmay ΨS2_2
theorem ΨS2_spec [Inhabited RawG] : CallSpec Try.prog ΨS2 := orΨ_spec ψmay_spec ΨS2_2_spec
end Go.Proofs.Ytadpnamooajpoaa
