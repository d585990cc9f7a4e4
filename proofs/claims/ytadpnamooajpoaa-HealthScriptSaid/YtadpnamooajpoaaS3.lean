/- Contracts that the engine has found; their texts are a program's. -/
import Derived.Test.YtadpnamooajpoaaS2
import Derived.Test.YtadpnamooajpoaaP1

import Derived.Test.YtadpnamooajpoaaX17
namespace Go.Proofs.Ytadpnamooajpoaa
open Go.RowKit
set_option linter.unusedVariables false
set_option linter.unusedSectionVars false
set_option linter.unusedSimpArgs false
set_option maxRecDepth 100000
def bmay_0 (cf : Int) (cd : Int) (ct : Int) (cg : Int) (now : Int) : Int := (bif (bcheck_0 cf cd ct cg != 0) then (bcheck_0 cf cd ct cg) else (bif (decide (now < 0)) then 2 else (bif (decide (now > 253402300799)) then 2 else 0)))
theorem bmay_any (cf : Int) (cd : Int) (ct : Int) (cg : Int) (now : Int) (w : World) : Calls Try.prog 73 #[.agg #[.int .i64 cf, .int .i64 cd, .int .i64 ct, .int .i64 cg], .int .i64 now] w (fun e w1 => e = .returned (Value.int IntKind.i64 (bmay_0 cf cd ct cg now)) ∧ Below w.heap.size w w1) := by
  rcases Bool.eq_false_or_eq_true (bcheck_0 cf cd ct cg != 0) with h0 | h0
  · refine (calls_orc (call := aCall Try.prog ΨS2 10 100 4) (ω := [(384, OV.soft (Value.bool true))]) (LF := 10) (F := 100) (av := [.agg #[.int .i64 cf, .int .i64 cd, .int .i64 ct, .int .i64 cg], .int .i64 now]) (v := Value.int IntKind.i64 (bcheck_0 cf cd ct cg)) (ps := [(bcheck_0 cf cd ct cg != 0) = true]) (call_spec ΨS2_spec mixed 4) mixed (by kernel_rfl) (ob_cons h0 ob_nil) (by kernel_rfl) (by kernel_rfl) w).mono ?_
    rintro e w1 ⟨rfl, hb⟩; exact ⟨by simp only [bmay_0, h0, cond_true, cond_false], hb⟩
  · rcases Bool.eq_false_or_eq_true (decide (now < 0)) with h1 | h1
    · refine (calls_orc (call := aCall Try.prog ΨS2 10 100 4) (ω := [(384, OV.soft (Value.bool false)), (576, OV.soft (Value.bool true))]) (LF := 10) (F := 100) (av := [.agg #[.int .i64 cf, .int .i64 cd, .int .i64 ct, .int .i64 cg], .int .i64 now]) (v := Value.int IntKind.i64 2) (ps := [(bcheck_0 cf cd ct cg != 0) = false, decide (now < 0) = true]) (call_spec ΨS2_spec mixed 4) mixed (by kernel_rfl) (ob_cons h0 (ob_cons h1 ob_nil)) (by kernel_rfl) (by kernel_rfl) w).mono ?_
      rintro e w1 ⟨rfl, hb⟩; exact ⟨by simp only [bmay_0, h0, h1, cond_true, cond_false], hb⟩
    · rcases Bool.eq_false_or_eq_true (decide (now > 253402300799)) with h2 | h2
      · refine (calls_orc (call := aCall Try.prog ΨS2 10 100 4) (ω := [(384, OV.soft (Value.bool false)), (576, OV.soft (Value.bool false)), (768, OV.soft (Value.bool true))]) (LF := 10) (F := 100) (av := [.agg #[.int .i64 cf, .int .i64 cd, .int .i64 ct, .int .i64 cg], .int .i64 now]) (v := Value.int IntKind.i64 2) (ps := [(bcheck_0 cf cd ct cg != 0) = false, decide (now < 0) = false, decide (now > 253402300799) = true]) (call_spec ΨS2_spec mixed 4) mixed (by kernel_rfl) (ob_cons h0 (ob_cons h1 (ob_cons h2 ob_nil))) (by kernel_rfl) (by kernel_rfl) w).mono ?_
        rintro e w1 ⟨rfl, hb⟩; exact ⟨by simp only [bmay_0, h0, h1, h2, cond_true, cond_false], hb⟩
      · refine (calls_orc (call := aCall Try.prog ΨS2 10 100 4) (ω := [(384, OV.soft (Value.bool false)), (576, OV.soft (Value.bool false)), (768, OV.soft (Value.bool false))]) (LF := 10) (F := 100) (av := [.agg #[.int .i64 cf, .int .i64 cd, .int .i64 ct, .int .i64 cg], .int .i64 now]) (v := Value.int IntKind.i64 0) (ps := [(bcheck_0 cf cd ct cg != 0) = false, decide (now < 0) = false, decide (now > 253402300799) = false]) (call_spec ΨS2_spec mixed 4) mixed (by kernel_rfl) (ob_cons h0 (ob_cons h1 (ob_cons h2 ob_nil))) (by kernel_rfl) (by kernel_rfl) w).mono ?_
        rintro e w1 ⟨rfl, hb⟩; exact ⟨by simp only [bmay_0, h0, h1, h2, cond_true, cond_false], hb⟩
def ψbmay : CallF := fun f args H _ =>
  if f = 73 then match args with
    | [.agg ⟨[.int .i64 cf, .int .i64 cd, .int .i64 ct, .int .i64 cg]⟩, .int .i64 now] => some (Value.int IntKind.i64 (bmay_0 cf cd ct cg now), H)
    | _ => none
  else none
theorem ψbmay_spec [Inhabited RawG] : CallSpec Try.prog ψbmay := by
  intro g av Hs lo v H1 h D ρ w args hlt hsz hav hw
  unfold ψbmay at h
  split at h
  · rename_i hg
    subst hg
    split at h
    · cases h; exact spec_of_pure (fun w => bmay_any _ _ _ _ _ w) (by kernel_rfl) (by kernel_rfl) hsz hav hw
    · cases h
  · cases h
def ended_0 (s : Int) (f : Int) (u : Int) (o : Int) (g : Int) (p : Int) (cf : Int) (cd : Int) (ct : Int) (cg : Int) (well : Bool) (now : Int) : Int := (bif (well) then s else (bif (decide (IntKind.i64.wrap (f + 1) ≥ cf)) then 2 else s))
def ended_1 (s : Int) (f : Int) (u : Int) (o : Int) (g : Int) (p : Int) (cf : Int) (cd : Int) (ct : Int) (cg : Int) (well : Bool) (now : Int) : Int := (bif (well) then 0 else (bif (decide (IntKind.i64.wrap (f + 1) ≥ cf)) then 0 else (IntKind.i64.wrap (f + 1))))
def ended_2 (s : Int) (f : Int) (u : Int) (o : Int) (g : Int) (p : Int) (cf : Int) (cd : Int) (ct : Int) (cg : Int) (well : Bool) (now : Int) : Int := (bif (well) then u else (bif (decide (IntKind.i64.wrap (f + 1) ≥ cf)) then (IntKind.i64.wrap ((if IntKind.i64.wrap (253402300799 - cd) < now then IntKind.i64.wrap (253402300799 - cd) else now) + cd)) else u))
def ended_3 (s : Int) (f : Int) (u : Int) (o : Int) (g : Int) (p : Int) (cf : Int) (cd : Int) (ct : Int) (cg : Int) (well : Bool) (now : Int) : Int := (bif (well) then o else (bif (decide (IntKind.i64.wrap (f + 1) ≥ cf)) then 0 else o))
def ended_4 (s : Int) (f : Int) (u : Int) (o : Int) (g : Int) (p : Int) (cf : Int) (cd : Int) (ct : Int) (cg : Int) (well : Bool) (now : Int) : Int := (bif (well) then g else (bif (decide (IntKind.i64.wrap (f + 1) ≥ cf)) then 0 else g))
def ended_5 (s : Int) (f : Int) (u : Int) (o : Int) (g : Int) (p : Int) (cf : Int) (cd : Int) (ct : Int) (cg : Int) (well : Bool) (now : Int) : Int := (bif (well) then p else (bif (decide (IntKind.i64.wrap (f + 1) ≥ cf)) then (IntKind.i64.wrap (p + 1)) else p))
theorem ended_any (s : Int) (f : Int) (u : Int) (o : Int) (g : Int) (p : Int) (cf : Int) (cd : Int) (ct : Int) (cg : Int) (well : Bool) (now : Int) (w : World) : Calls Try.prog 74 #[.agg #[.int .i64 s, .int .i64 f, .int .i64 u, .int .i64 o, .int .i64 g, .int .i64 p], .agg #[.int .i64 cf, .int .i64 cd, .int .i64 ct, .int .i64 cg], .bool well, .int .i64 now] w (fun e w1 => e = .returned (Value.agg #[Value.int IntKind.i64 (ended_0 s f u o g p cf cd ct cg well now), Value.int IntKind.i64 (ended_1 s f u o g p cf cd ct cg well now), Value.int IntKind.i64 (ended_2 s f u o g p cf cd ct cg well now), Value.int IntKind.i64 (ended_3 s f u o g p cf cd ct cg well now), Value.int IntKind.i64 (ended_4 s f u o g p cf cd ct cg well now), Value.int IntKind.i64 (ended_5 s f u o g p cf cd ct cg well now)]) ∧ Below w.heap.size w w1) := by
  rcases Bool.eq_false_or_eq_true (well) with h0 | h0
  · refine (calls_orc (call := aCall Try.prog ΨS2 10 100 4) (ω := [(192, OV.soft (Value.bool true))]) (LF := 10) (F := 100) (av := [.agg #[.int .i64 s, .int .i64 f, .int .i64 u, .int .i64 o, .int .i64 g, .int .i64 p], .agg #[.int .i64 cf, .int .i64 cd, .int .i64 ct, .int .i64 cg], .bool well, .int .i64 now]) (v := Value.agg #[Value.int IntKind.i64 s, Value.int IntKind.i64 0, Value.int IntKind.i64 u, Value.int IntKind.i64 o, Value.int IntKind.i64 g, Value.int IntKind.i64 p]) (ps := [well = true]) (call_spec ΨS2_spec mixed 4) mixed (by kernel_rfl) (ob_cons h0 ob_nil) (by kernel_rfl) (by kernel_rfl) w).mono ?_
    rintro e w1 ⟨rfl, hb⟩; exact ⟨by simp only [ended_0, ended_1, ended_2, ended_3, ended_4, ended_5, h0, cond_true, cond_false], hb⟩
  · rcases Bool.eq_false_or_eq_true (decide (IntKind.i64.wrap (f + 1) ≥ cf)) with h1 | h1
    · refine (calls_orc (call := aCall Try.prog ΨS2 10 100 4) (ω := [(192, OV.soft (Value.bool false)), (1024, OV.soft (Value.bool true))]) (LF := 10) (F := 100) (av := [.agg #[.int .i64 s, .int .i64 f, .int .i64 u, .int .i64 o, .int .i64 g, .int .i64 p], .agg #[.int .i64 cf, .int .i64 cd, .int .i64 ct, .int .i64 cg], .bool well, .int .i64 now]) (v := Value.agg #[Value.int IntKind.i64 2, Value.int IntKind.i64 0, Value.int IntKind.i64 (IntKind.i64.wrap ((if IntKind.i64.wrap (253402300799 - cd) < now then IntKind.i64.wrap (253402300799 - cd) else now) + cd)), Value.int IntKind.i64 0, Value.int IntKind.i64 0, Value.int IntKind.i64 (IntKind.i64.wrap (p + 1))]) (ps := [well = false, decide (IntKind.i64.wrap (f + 1) ≥ cf) = true]) (call_spec ΨS2_spec mixed 4) mixed (by kernel_rfl) (ob_cons h0 (ob_cons h1 ob_nil)) (by kernel_rfl) (by kernel_rfl) w).mono ?_
      rintro e w1 ⟨rfl, hb⟩; exact ⟨by simp only [ended_0, ended_1, ended_2, ended_3, ended_4, ended_5, h0, h1, cond_true, cond_false], hb⟩
    · refine (calls_orc (call := aCall Try.prog ΨS2 10 100 4) (ω := [(192, OV.soft (Value.bool false)), (1024, OV.soft (Value.bool false))]) (LF := 10) (F := 100) (av := [.agg #[.int .i64 s, .int .i64 f, .int .i64 u, .int .i64 o, .int .i64 g, .int .i64 p], .agg #[.int .i64 cf, .int .i64 cd, .int .i64 ct, .int .i64 cg], .bool well, .int .i64 now]) (v := Value.agg #[Value.int IntKind.i64 s, Value.int IntKind.i64 (IntKind.i64.wrap (f + 1)), Value.int IntKind.i64 u, Value.int IntKind.i64 o, Value.int IntKind.i64 g, Value.int IntKind.i64 p]) (ps := [well = false, decide (IntKind.i64.wrap (f + 1) ≥ cf) = false]) (call_spec ΨS2_spec mixed 4) mixed (by kernel_rfl) (ob_cons h0 (ob_cons h1 ob_nil)) (by kernel_rfl) (by kernel_rfl) w).mono ?_
      rintro e w1 ⟨rfl, hb⟩; exact ⟨by simp only [ended_0, ended_1, ended_2, ended_3, ended_4, ended_5, h0, h1, cond_true, cond_false], hb⟩
def ψended : CallF := fun f args H _ =>
  if f = 74 then match args with
    | [.agg ⟨[.int .i64 s, .int .i64 f, .int .i64 u, .int .i64 o, .int .i64 g, .int .i64 p]⟩, .agg ⟨[.int .i64 cf, .int .i64 cd, .int .i64 ct, .int .i64 cg]⟩, .bool well, .int .i64 now] => some (Value.agg #[Value.int IntKind.i64 (ended_0 s f u o g p cf cd ct cg well now), Value.int IntKind.i64 (ended_1 s f u o g p cf cd ct cg well now), Value.int IntKind.i64 (ended_2 s f u o g p cf cd ct cg well now), Value.int IntKind.i64 (ended_3 s f u o g p cf cd ct cg well now), Value.int IntKind.i64 (ended_4 s f u o g p cf cd ct cg well now), Value.int IntKind.i64 (ended_5 s f u o g p cf cd ct cg well now)], H)
    | _ => none
  else none
theorem ψended_spec [Inhabited RawG] : CallSpec Try.prog ψended := by
  intro g av Hs lo v H1 h D ρ w args hlt hsz hav hw
  unfold ψended at h
  split at h
  · rename_i hg
    subst hg
    split at h
    · cases h; exact spec_of_pure (fun w => ended_any _ _ _ _ _ _ _ _ _ _ _ _ w) (by kernel_rfl) (by kernel_rfl) hsz hav hw
    · cases h
  · cases h
def tried_0 (s : Int) (f : Int) (u : Int) (o : Int) (g : Int) (p : Int) (cf : Int) (cd : Int) (ct : Int) (cg : Int) (well : Bool) (now : Int) : Int := (bif (!well) then 2 else (bif (decide (IntKind.i64.wrap (g + 1) ≥ cg)) then 1 else s))
def tried_1 (s : Int) (f : Int) (u : Int) (o : Int) (g : Int) (p : Int) (cf : Int) (cd : Int) (ct : Int) (cg : Int) (well : Bool) (now : Int) : Int := (bif (!well) then 0 else (bif (decide (IntKind.i64.wrap (g + 1) ≥ cg)) then 0 else f))
def tried_2 (s : Int) (f : Int) (u : Int) (o : Int) (g : Int) (p : Int) (cf : Int) (cd : Int) (ct : Int) (cg : Int) (well : Bool) (now : Int) : Int := (bif (!well) then (IntKind.i64.wrap ((if IntKind.i64.wrap (253402300799 - cd) < now then IntKind.i64.wrap (253402300799 - cd) else now) + cd)) else (bif (decide (IntKind.i64.wrap (g + 1) ≥ cg)) then 0 else u))
def tried_3 (s : Int) (f : Int) (u : Int) (o : Int) (g : Int) (p : Int) (cf : Int) (cd : Int) (ct : Int) (cg : Int) (well : Bool) (now : Int) : Int := (bif (!well) then 0 else (bif (decide (IntKind.i64.wrap (g + 1) ≥ cg)) then 0 else (if IntKind.i64.wrap (o - 1) > 0 then IntKind.i64.wrap (o - 1) else 0)))
def tried_4 (s : Int) (f : Int) (u : Int) (o : Int) (g : Int) (p : Int) (cf : Int) (cd : Int) (ct : Int) (cg : Int) (well : Bool) (now : Int) : Int := (bif (!well) then 0 else (bif (decide (IntKind.i64.wrap (g + 1) ≥ cg)) then 0 else (IntKind.i64.wrap (g + 1))))
def tried_5 (s : Int) (f : Int) (u : Int) (o : Int) (g : Int) (p : Int) (cf : Int) (cd : Int) (ct : Int) (cg : Int) (well : Bool) (now : Int) : Int := (bif (!well) then (IntKind.i64.wrap (p + 1)) else (bif (decide (IntKind.i64.wrap (g + 1) ≥ cg)) then (IntKind.i64.wrap (p + 1)) else p))
theorem tried_any (s : Int) (f : Int) (u : Int) (o : Int) (g : Int) (p : Int) (cf : Int) (cd : Int) (ct : Int) (cg : Int) (well : Bool) (now : Int) (w : World) : Calls Try.prog 75 #[.agg #[.int .i64 s, .int .i64 f, .int .i64 u, .int .i64 o, .int .i64 g, .int .i64 p], .agg #[.int .i64 cf, .int .i64 cd, .int .i64 ct, .int .i64 cg], .bool well, .int .i64 now] w (fun e w1 => e = .returned (Value.agg #[Value.int IntKind.i64 (tried_0 s f u o g p cf cd ct cg well now), Value.int IntKind.i64 (tried_1 s f u o g p cf cd ct cg well now), Value.int IntKind.i64 (tried_2 s f u o g p cf cd ct cg well now), Value.int IntKind.i64 (tried_3 s f u o g p cf cd ct cg well now), Value.int IntKind.i64 (tried_4 s f u o g p cf cd ct cg well now), Value.int IntKind.i64 (tried_5 s f u o g p cf cd ct cg well now)]) ∧ Below w.heap.size w w1) := by
  rcases Bool.eq_false_or_eq_true (!well) with h0 | h0
  · refine (calls_orc (call := aCall Try.prog ΨS2 10 100 4) (ω := [(768, OV.soft (Value.bool true))]) (LF := 10) (F := 100) (av := [.agg #[.int .i64 s, .int .i64 f, .int .i64 u, .int .i64 o, .int .i64 g, .int .i64 p], .agg #[.int .i64 cf, .int .i64 cd, .int .i64 ct, .int .i64 cg], .bool well, .int .i64 now]) (v := Value.agg #[Value.int IntKind.i64 2, Value.int IntKind.i64 0, Value.int IntKind.i64 (IntKind.i64.wrap ((if IntKind.i64.wrap (253402300799 - cd) < now then IntKind.i64.wrap (253402300799 - cd) else now) + cd)), Value.int IntKind.i64 0, Value.int IntKind.i64 0, Value.int IntKind.i64 (IntKind.i64.wrap (p + 1))]) (ps := [(!well) = true]) (call_spec ΨS2_spec mixed 4) mixed (by kernel_rfl) (ob_cons h0 ob_nil) (by kernel_rfl) (by kernel_rfl) w).mono ?_
    rintro e w1 ⟨rfl, hb⟩; exact ⟨by simp only [tried_0, tried_1, tried_2, tried_3, tried_4, tried_5, h0, cond_true, cond_false], hb⟩
  · rcases Bool.eq_false_or_eq_true (decide (IntKind.i64.wrap (g + 1) ≥ cg)) with h1 | h1
    · refine (calls_orc (call := aCall Try.prog ΨS2 10 100 4) (ω := [(768, OV.soft (Value.bool false)), (1600, OV.soft (Value.bool true))]) (LF := 10) (F := 100) (av := [.agg #[.int .i64 s, .int .i64 f, .int .i64 u, .int .i64 o, .int .i64 g, .int .i64 p], .agg #[.int .i64 cf, .int .i64 cd, .int .i64 ct, .int .i64 cg], .bool well, .int .i64 now]) (v := Value.agg #[Value.int IntKind.i64 1, Value.int IntKind.i64 0, Value.int IntKind.i64 0, Value.int IntKind.i64 0, Value.int IntKind.i64 0, Value.int IntKind.i64 (IntKind.i64.wrap (p + 1))]) (ps := [(!well) = false, decide (IntKind.i64.wrap (g + 1) ≥ cg) = true]) (call_spec ΨS2_spec mixed 4) mixed (by kernel_rfl) (ob_cons h0 (ob_cons h1 ob_nil)) (by kernel_rfl) (by kernel_rfl) w).mono ?_
      rintro e w1 ⟨rfl, hb⟩; exact ⟨by simp only [tried_0, tried_1, tried_2, tried_3, tried_4, tried_5, h0, h1, cond_true, cond_false], hb⟩
    · refine (calls_orc (call := aCall Try.prog ΨS2 10 100 4) (ω := [(768, OV.soft (Value.bool false)), (1600, OV.soft (Value.bool false))]) (LF := 10) (F := 100) (av := [.agg #[.int .i64 s, .int .i64 f, .int .i64 u, .int .i64 o, .int .i64 g, .int .i64 p], .agg #[.int .i64 cf, .int .i64 cd, .int .i64 ct, .int .i64 cg], .bool well, .int .i64 now]) (v := Value.agg #[Value.int IntKind.i64 s, Value.int IntKind.i64 f, Value.int IntKind.i64 u, Value.int IntKind.i64 (if IntKind.i64.wrap (o - 1) > 0 then IntKind.i64.wrap (o - 1) else 0), Value.int IntKind.i64 (IntKind.i64.wrap (g + 1)), Value.int IntKind.i64 p]) (ps := [(!well) = false, decide (IntKind.i64.wrap (g + 1) ≥ cg) = false]) (call_spec ΨS2_spec mixed 4) mixed (by kernel_rfl) (ob_cons h0 (ob_cons h1 ob_nil)) (by kernel_rfl) (by kernel_rfl) w).mono ?_
      rintro e w1 ⟨rfl, hb⟩; exact ⟨by simp only [tried_0, tried_1, tried_2, tried_3, tried_4, tried_5, h0, h1, cond_true, cond_false], hb⟩
def ψtried : CallF := fun f args H _ =>
  if f = 75 then match args with
    | [.agg ⟨[.int .i64 s, .int .i64 f, .int .i64 u, .int .i64 o, .int .i64 g, .int .i64 p]⟩, .agg ⟨[.int .i64 cf, .int .i64 cd, .int .i64 ct, .int .i64 cg]⟩, .bool well, .int .i64 now] => some (Value.agg #[Value.int IntKind.i64 (tried_0 s f u o g p cf cd ct cg well now), Value.int IntKind.i64 (tried_1 s f u o g p cf cd ct cg well now), Value.int IntKind.i64 (tried_2 s f u o g p cf cd ct cg well now), Value.int IntKind.i64 (tried_3 s f u o g p cf cd ct cg well now), Value.int IntKind.i64 (tried_4 s f u o g p cf cd ct cg well now), Value.int IntKind.i64 (tried_5 s f u o g p cf cd ct cg well now)], H)
    | _ => none
  else none
theorem ψtried_spec [Inhabited RawG] : CallSpec Try.prog ψtried := by
  intro g av Hs lo v H1 h D ρ w args hlt hsz hav hw
  unfold ψtried at h
  split at h
  · rename_i hg
    subst hg
    split at h
    · cases h; exact spec_of_pure (fun w => tried_any _ _ _ _ _ _ _ _ _ _ _ _ w) (by kernel_rfl) (by kernel_rfl) hsz hav hw
    · cases h
  · cases h
def give_3 (cf : Int) (cd : Int) (ct : Int) (cg : Int) (s : Int) (f : Int) (u : Int) (o : Int) (g : Int) (p : Int) (ep : Int) : Int := (bif (bcheck_0 cf cd ct cg != 0) then o else (bif (ep == p) then (bif (s == 3) then (if IntKind.i64.wrap (o - 1) > 0 then IntKind.i64.wrap (o - 1) else 0) else o) else o))
def give_6 (cf : Int) (cd : Int) (ct : Int) (cg : Int) (s : Int) (f : Int) (u : Int) (o : Int) (g : Int) (p : Int) (ep : Int) : Int := (bif (bcheck_0 cf cd ct cg != 0) then (bcheck_0 cf cd ct cg) else (bif (ep == p) then (bif (s == 3) then 0 else 0) else 0))
theorem give_any (cf : Int) (cd : Int) (ct : Int) (cg : Int) (s : Int) (f : Int) (u : Int) (o : Int) (g : Int) (p : Int) (ep : Int) (w : World) : Calls Try.prog 46 #[.agg #[.int .i64 cf, .int .i64 cd, .int .i64 ct, .int .i64 cg], .agg #[.int .i64 s, .int .i64 f, .int .i64 u, .int .i64 o, .int .i64 g, .int .i64 p], .int .i64 ep] w (fun e w1 => e = .returned (Value.tuple #[Value.agg #[Value.int IntKind.i64 s, Value.int IntKind.i64 f, Value.int IntKind.i64 u, Value.int IntKind.i64 (give_3 cf cd ct cg s f u o g p ep), Value.int IntKind.i64 g, Value.int IntKind.i64 p], Value.int IntKind.i64 (give_6 cf cd ct cg s f u o g p ep)]) ∧ Below w.heap.size w w1) := by
  rcases Bool.eq_false_or_eq_true (bcheck_0 cf cd ct cg != 0) with h0 | h0
  · refine (calls_orc (call := aCall Try.prog ΨS2 10 100 4) (ω := [(512, OV.soft (Value.bool true))]) (LF := 10) (F := 100) (av := [.agg #[.int .i64 cf, .int .i64 cd, .int .i64 ct, .int .i64 cg], .agg #[.int .i64 s, .int .i64 f, .int .i64 u, .int .i64 o, .int .i64 g, .int .i64 p], .int .i64 ep]) (v := Value.tuple #[Value.agg #[Value.int IntKind.i64 s, Value.int IntKind.i64 f, Value.int IntKind.i64 u, Value.int IntKind.i64 o, Value.int IntKind.i64 g, Value.int IntKind.i64 p], Value.int IntKind.i64 (bcheck_0 cf cd ct cg)]) (ps := [(bcheck_0 cf cd ct cg != 0) = true]) (call_spec ΨS2_spec mixed 4) mixed (by kernel_rfl) (ob_cons h0 ob_nil) (by kernel_rfl) (by kernel_rfl) w).mono ?_
    rintro e w1 ⟨rfl, hb⟩; exact ⟨by simp only [give_3, give_6, h0, cond_true, cond_false], hb⟩
  · rcases Bool.eq_false_or_eq_true (ep == p) with h1 | h1
    · rcases Bool.eq_false_or_eq_true (s == 3) with h2 | h2
      · refine (calls_orc (call := aCall Try.prog ΨS2 10 100 4) (ω := [(512, OV.soft (Value.bool false)), (832, OV.soft (Value.bool true)), (1088, OV.soft (Value.bool true))]) (LF := 10) (F := 100) (av := [.agg #[.int .i64 cf, .int .i64 cd, .int .i64 ct, .int .i64 cg], .agg #[.int .i64 s, .int .i64 f, .int .i64 u, .int .i64 o, .int .i64 g, .int .i64 p], .int .i64 ep]) (v := Value.tuple #[Value.agg #[Value.int IntKind.i64 s, Value.int IntKind.i64 f, Value.int IntKind.i64 u, Value.int IntKind.i64 (if IntKind.i64.wrap (o - 1) > 0 then IntKind.i64.wrap (o - 1) else 0), Value.int IntKind.i64 g, Value.int IntKind.i64 p], Value.int IntKind.i64 0]) (ps := [(bcheck_0 cf cd ct cg != 0) = false, (ep == p) = true, (s == 3) = true]) (call_spec ΨS2_spec mixed 4) mixed (by kernel_rfl) (ob_cons h0 (ob_cons h1 (ob_cons h2 ob_nil))) (by kernel_rfl) (by kernel_rfl) w).mono ?_
        rintro e w1 ⟨rfl, hb⟩; exact ⟨by simp only [give_3, give_6, h0, h1, h2, cond_true, cond_false], hb⟩
      · refine (calls_orc (call := aCall Try.prog ΨS2 10 100 4) (ω := [(512, OV.soft (Value.bool false)), (832, OV.soft (Value.bool true)), (1088, OV.soft (Value.bool false))]) (LF := 10) (F := 100) (av := [.agg #[.int .i64 cf, .int .i64 cd, .int .i64 ct, .int .i64 cg], .agg #[.int .i64 s, .int .i64 f, .int .i64 u, .int .i64 o, .int .i64 g, .int .i64 p], .int .i64 ep]) (v := Value.tuple #[Value.agg #[Value.int IntKind.i64 s, Value.int IntKind.i64 f, Value.int IntKind.i64 u, Value.int IntKind.i64 o, Value.int IntKind.i64 g, Value.int IntKind.i64 p], Value.int IntKind.i64 0]) (ps := [(bcheck_0 cf cd ct cg != 0) = false, (ep == p) = true, (s == 3) = false]) (call_spec ΨS2_spec mixed 4) mixed (by kernel_rfl) (ob_cons h0 (ob_cons h1 (ob_cons h2 ob_nil))) (by kernel_rfl) (by kernel_rfl) w).mono ?_
        rintro e w1 ⟨rfl, hb⟩; exact ⟨by simp only [give_3, give_6, h0, h1, h2, cond_true, cond_false], hb⟩
    · refine (calls_orc (call := aCall Try.prog ΨS2 10 100 4) (ω := [(512, OV.soft (Value.bool false)), (832, OV.soft (Value.bool false))]) (LF := 10) (F := 100) (av := [.agg #[.int .i64 cf, .int .i64 cd, .int .i64 ct, .int .i64 cg], .agg #[.int .i64 s, .int .i64 f, .int .i64 u, .int .i64 o, .int .i64 g, .int .i64 p], .int .i64 ep]) (v := Value.tuple #[Value.agg #[Value.int IntKind.i64 s, Value.int IntKind.i64 f, Value.int IntKind.i64 u, Value.int IntKind.i64 o, Value.int IntKind.i64 g, Value.int IntKind.i64 p], Value.int IntKind.i64 0]) (ps := [(bcheck_0 cf cd ct cg != 0) = false, (ep == p) = false]) (call_spec ΨS2_spec mixed 4) mixed (by kernel_rfl) (ob_cons h0 (ob_cons h1 ob_nil)) (by kernel_rfl) (by kernel_rfl) w).mono ?_
      rintro e w1 ⟨rfl, hb⟩; exact ⟨by simp only [give_3, give_6, h0, h1, cond_true, cond_false], hb⟩
def ψgive : CallF := fun f args H _ =>
  if f = 46 then match args with
    | [.agg ⟨[.int .i64 cf, .int .i64 cd, .int .i64 ct, .int .i64 cg]⟩, .agg ⟨[.int .i64 s, .int .i64 f, .int .i64 u, .int .i64 o, .int .i64 g, .int .i64 p]⟩, .int .i64 ep] => some (Value.tuple #[Value.agg #[Value.int IntKind.i64 s, Value.int IntKind.i64 f, Value.int IntKind.i64 u, Value.int IntKind.i64 (give_3 cf cd ct cg s f u o g p ep), Value.int IntKind.i64 g, Value.int IntKind.i64 p], Value.int IntKind.i64 (give_6 cf cd ct cg s f u o g p ep)], H)
    | _ => none
  else none
theorem ψgive_spec [Inhabited RawG] : CallSpec Try.prog ψgive := by
  intro g av Hs lo v H1 h D ρ w args hlt hsz hav hw
  unfold ψgive at h
  split at h
  · rename_i hg
    subst hg
    split at h
    · cases h; exact spec_of_pure (fun w => give_any _ _ _ _ _ _ _ _ _ _ _ w) (by kernel_rfl) (by kernel_rfl) hsz hav hw
    · cases h
  · cases h
def pmay_0 (ce : Int) (cw : Int) (cr : Int) (cf : Int) (now : Int) : Int := (bif (pcheck_0 ce cw cr cf != 0) then (pcheck_0 ce cw cr cf) else (bif (decide (now < 0)) then 2 else (bif (decide (now > 253402300799)) then 2 else 0)))
theorem pmay_any (ce : Int) (cw : Int) (cr : Int) (cf : Int) (now : Int) (w : World) : Calls Try.prog 80 #[.agg #[.int .i64 ce, .int .i64 cw, .int .i64 cr, .int .i64 cf], .int .i64 now] w (fun e w1 => e = .returned (Value.int IntKind.i64 (pmay_0 ce cw cr cf now)) ∧ Below w.heap.size w w1) := by
  rcases Bool.eq_false_or_eq_true (pcheck_0 ce cw cr cf != 0) with h0 | h0
  · refine (calls_orc (call := aCall Try.prog ΨS2 10 100 4) (ω := [(384, OV.soft (Value.bool true))]) (LF := 10) (F := 100) (av := [.agg #[.int .i64 ce, .int .i64 cw, .int .i64 cr, .int .i64 cf], .int .i64 now]) (v := Value.int IntKind.i64 (pcheck_0 ce cw cr cf)) (ps := [(pcheck_0 ce cw cr cf != 0) = true]) (call_spec ΨS2_spec mixed 4) mixed (by kernel_rfl) (ob_cons h0 ob_nil) (by kernel_rfl) (by kernel_rfl) w).mono ?_
    rintro e w1 ⟨rfl, hb⟩; exact ⟨by simp only [pmay_0, h0, cond_true, cond_false], hb⟩
  · rcases Bool.eq_false_or_eq_true (decide (now < 0)) with h1 | h1
    · refine (calls_orc (call := aCall Try.prog ΨS2 10 100 4) (ω := [(384, OV.soft (Value.bool false)), (576, OV.soft (Value.bool true))]) (LF := 10) (F := 100) (av := [.agg #[.int .i64 ce, .int .i64 cw, .int .i64 cr, .int .i64 cf], .int .i64 now]) (v := Value.int IntKind.i64 2) (ps := [(pcheck_0 ce cw cr cf != 0) = false, decide (now < 0) = true]) (call_spec ΨS2_spec mixed 4) mixed (by kernel_rfl) (ob_cons h0 (ob_cons h1 ob_nil)) (by kernel_rfl) (by kernel_rfl) w).mono ?_
      rintro e w1 ⟨rfl, hb⟩; exact ⟨by simp only [pmay_0, h0, h1, cond_true, cond_false], hb⟩
    · rcases Bool.eq_false_or_eq_true (decide (now > 253402300799)) with h2 | h2
      · refine (calls_orc (call := aCall Try.prog ΨS2 10 100 4) (ω := [(384, OV.soft (Value.bool false)), (576, OV.soft (Value.bool false)), (768, OV.soft (Value.bool true))]) (LF := 10) (F := 100) (av := [.agg #[.int .i64 ce, .int .i64 cw, .int .i64 cr, .int .i64 cf], .int .i64 now]) (v := Value.int IntKind.i64 2) (ps := [(pcheck_0 ce cw cr cf != 0) = false, decide (now < 0) = false, decide (now > 253402300799) = true]) (call_spec ΨS2_spec mixed 4) mixed (by kernel_rfl) (ob_cons h0 (ob_cons h1 (ob_cons h2 ob_nil))) (by kernel_rfl) (by kernel_rfl) w).mono ?_
        rintro e w1 ⟨rfl, hb⟩; exact ⟨by simp only [pmay_0, h0, h1, h2, cond_true, cond_false], hb⟩
      · refine (calls_orc (call := aCall Try.prog ΨS2 10 100 4) (ω := [(384, OV.soft (Value.bool false)), (576, OV.soft (Value.bool false)), (768, OV.soft (Value.bool false))]) (LF := 10) (F := 100) (av := [.agg #[.int .i64 ce, .int .i64 cw, .int .i64 cr, .int .i64 cf], .int .i64 now]) (v := Value.int IntKind.i64 0) (ps := [(pcheck_0 ce cw cr cf != 0) = false, decide (now < 0) = false, decide (now > 253402300799) = false]) (call_spec ΨS2_spec mixed 4) mixed (by kernel_rfl) (ob_cons h0 (ob_cons h1 (ob_cons h2 ob_nil))) (by kernel_rfl) (by kernel_rfl) w).mono ?_
        rintro e w1 ⟨rfl, hb⟩; exact ⟨by simp only [pmay_0, h0, h1, h2, cond_true, cond_false], hb⟩
def ψpmay : CallF := fun f args H _ =>
  if f = 80 then match args with
    | [.agg ⟨[.int .i64 ce, .int .i64 cw, .int .i64 cr, .int .i64 cf]⟩, .int .i64 now] => some (Value.int IntKind.i64 (pmay_0 ce cw cr cf now), H)
    | _ => none
  else none
theorem ψpmay_spec [Inhabited RawG] : CallSpec Try.prog ψpmay := by
  intro g av Hs lo v H1 h D ρ w args hlt hsz hav hw
  unfold ψpmay at h
  split at h
  · rename_i hg
    subst hg
    split at h
    · cases h; exact spec_of_pure (fun w => pmay_any _ _ _ _ _ w) (by kernel_rfl) (by kernel_rfl) hsz hav hw
    · cases h
  · cases h
def late_0 (ce : Int) (cw : Int) (cr : Int) (cf : Int) (up : Bool) (run : Int) (nxt : Int) (out : Bool) (since : Int) (now : Int) : Bool := (bif (pcheck_0 ce cw cr cf == 0) then (bif (out) then (decide (since ≤ IntKind.i64.wrap (now - cw))) else false) else false)
theorem late_any (ce : Int) (cw : Int) (cr : Int) (cf : Int) (up : Bool) (run : Int) (nxt : Int) (out : Bool) (since : Int) (now : Int) (w : World) : Calls Try.prog 83 #[.agg #[.int .i64 ce, .int .i64 cw, .int .i64 cr, .int .i64 cf], .agg #[.bool up, .int .i64 run, .int .i64 nxt, .bool out, .int .i64 since], .int .i64 now] w (fun e w1 => e = .returned (Value.bool (late_0 ce cw cr cf up run nxt out since now)) ∧ Below w.heap.size w w1) := by
  rcases Bool.eq_false_or_eq_true (pcheck_0 ce cw cr cf == 0) with h0 | h0
  · rcases Bool.eq_false_or_eq_true (out) with h1 | h1
    · refine (calls_orc (call := aCall Try.prog ΨS2 10 100 4) (ω := [(384, OV.soft (Value.bool true)), (640, OV.soft (Value.bool true))]) (LF := 10) (F := 100) (av := [.agg #[.int .i64 ce, .int .i64 cw, .int .i64 cr, .int .i64 cf], .agg #[.bool up, .int .i64 run, .int .i64 nxt, .bool out, .int .i64 since], .int .i64 now]) (v := Value.bool (decide (since ≤ IntKind.i64.wrap (now - cw)))) (ps := [(pcheck_0 ce cw cr cf == 0) = true, out = true]) (call_spec ΨS2_spec mixed 4) mixed (by kernel_rfl) (ob_cons h0 (ob_cons h1 ob_nil)) (by kernel_rfl) (by kernel_rfl) w).mono ?_
      rintro e w1 ⟨rfl, hb⟩; exact ⟨by simp only [late_0, h0, h1, cond_true, cond_false], hb⟩
    · refine (calls_orc (call := aCall Try.prog ΨS2 10 100 4) (ω := [(384, OV.soft (Value.bool true)), (640, OV.soft (Value.bool false))]) (LF := 10) (F := 100) (av := [.agg #[.int .i64 ce, .int .i64 cw, .int .i64 cr, .int .i64 cf], .agg #[.bool up, .int .i64 run, .int .i64 nxt, .bool out, .int .i64 since], .int .i64 now]) (v := Value.bool false) (ps := [(pcheck_0 ce cw cr cf == 0) = true, out = false]) (call_spec ΨS2_spec mixed 4) mixed (by kernel_rfl) (ob_cons h0 (ob_cons h1 ob_nil)) (by kernel_rfl) (by kernel_rfl) w).mono ?_
      rintro e w1 ⟨rfl, hb⟩; exact ⟨by simp only [late_0, h0, h1, cond_true, cond_false], hb⟩
  · refine (calls_orc (call := aCall Try.prog ΨS2 10 100 4) (ω := [(384, OV.soft (Value.bool false))]) (LF := 10) (F := 100) (av := [.agg #[.int .i64 ce, .int .i64 cw, .int .i64 cr, .int .i64 cf], .agg #[.bool up, .int .i64 run, .int .i64 nxt, .bool out, .int .i64 since], .int .i64 now]) (v := Value.bool false) (ps := [(pcheck_0 ce cw cr cf == 0) = false]) (call_spec ΨS2_spec mixed 4) mixed (by kernel_rfl) (ob_cons h0 ob_nil) (by kernel_rfl) (by kernel_rfl) w).mono ?_
    rintro e w1 ⟨rfl, hb⟩; exact ⟨by simp only [late_0, h0, cond_true, cond_false], hb⟩
def ψlate : CallF := fun f args H _ =>
  if f = 83 then match args with
    | [.agg ⟨[.int .i64 ce, .int .i64 cw, .int .i64 cr, .int .i64 cf]⟩, .agg ⟨[.bool up, .int .i64 run, .int .i64 nxt, .bool out, .int .i64 since]⟩, .int .i64 now] => some (Value.bool (late_0 ce cw cr cf up run nxt out since now), H)
    | _ => none
  else none
theorem ψlate_spec [Inhabited RawG] : CallSpec Try.prog ψlate := by
  intro g av Hs lo v H1 h D ρ w args hlt hsz hav hw
  unfold ψlate at h
  split at h
  · rename_i hg
    subst hg
    split at h
    · cases h; exact spec_of_pure (fun w => late_any _ _ _ _ _ _ _ _ _ _ w) (by kernel_rfl) (by kernel_rfl) hsz hav hw
    · cases h
  · cases h
def ΨS3_0 : CallF := orΨ ψbmay ΨS2
theorem ΨS3_0_spec [Inhabited RawG] : CallSpec Try.prog ΨS3_0 := orΨ_spec ψbmay_spec ΨS2_spec
def ΨS3_1 : CallF := orΨ ψended ΨS3_0
theorem ΨS3_1_spec [Inhabited RawG] : CallSpec Try.prog ΨS3_1 := orΨ_spec ψended_spec ΨS3_0_spec
def ΨS3_2 : CallF := orΨ ψtried ΨS3_1
theorem ΨS3_2_spec [Inhabited RawG] : CallSpec Try.prog ΨS3_2 := orΨ_spec ψtried_spec ΨS3_1_spec
def ΨS3_3 : CallF := orΨ ψgive ΨS3_2
theorem ΨS3_3_spec [Inhabited RawG] : CallSpec Try.prog ΨS3_3 := orΨ_spec ψgive_spec ΨS3_2_spec
def ΨS3_4 : CallF := orΨ ψpmay ΨS3_3
theorem ΨS3_4_spec [Inhabited RawG] : CallSpec Try.prog ΨS3_4 := orΨ_spec ψpmay_spec ΨS3_3_spec
def ΨS3 : CallF := orΨ ψlate ΨS3_4
theorem ΨS3_spec [Inhabited RawG] : CallSpec Try.prog ΨS3 := orΨ_spec ψlate_spec ΨS3_4_spec
end Go.Proofs.Ytadpnamooajpoaa
