/- Contracts that the engine has found; their texts are a program's. -/
import Derived.Test.YtadpnamooajpoaaS4
import Derived.Test.YtadpnamooajpoaaP1

import Derived.Test.YtadpnamooajpoaaX17
namespace Go.Proofs.Ytadpnamooajpoaa
open Go.RowKit
set_option linter.unusedVariables false
set_option linter.unusedSectionVars false
set_option linter.unusedSimpArgs false
set_option maxRecDepth 100000
def bbegin_0 (cf : Int) (cd : Int) (ct : Int) (cg : Int) (s : Int) (f : Int) (u : Int) (o : Int) (g : Int) (p : Int) (now : Int) : Int := (bif (bmay_0 cf cd ct cg now != 0) then s else (bif (!allows_0 cf cd ct cg s f u o g p now) then s else (bif (s == 2) then 3 else (bif (s == 3) then s else s))))
def bbegin_3 (cf : Int) (cd : Int) (ct : Int) (cg : Int) (s : Int) (f : Int) (u : Int) (o : Int) (g : Int) (p : Int) (now : Int) : Int := (bif (bmay_0 cf cd ct cg now != 0) then o else (bif (!allows_0 cf cd ct cg s f u o g p now) then o else (bif (s == 2) then 1 else (bif (s == 3) then (IntKind.i64.wrap (o + 1)) else o))))
def bbegin_4 (cf : Int) (cd : Int) (ct : Int) (cg : Int) (s : Int) (f : Int) (u : Int) (o : Int) (g : Int) (p : Int) (now : Int) : Int := (bif (bmay_0 cf cd ct cg now != 0) then g else (bif (!allows_0 cf cd ct cg s f u o g p now) then g else (bif (s == 2) then 0 else (bif (s == 3) then g else g))))
def bbegin_5 (cf : Int) (cd : Int) (ct : Int) (cg : Int) (s : Int) (f : Int) (u : Int) (o : Int) (g : Int) (p : Int) (now : Int) : Int := (bif (bmay_0 cf cd ct cg now != 0) then p else (bif (!allows_0 cf cd ct cg s f u o g p now) then p else (bif (s == 2) then (IntKind.i64.wrap (p + 1)) else (bif (s == 3) then p else p))))
def bbegin_6 (cf : Int) (cd : Int) (ct : Int) (cg : Int) (s : Int) (f : Int) (u : Int) (o : Int) (g : Int) (p : Int) (now : Int) : Int := (bif (bmay_0 cf cd ct cg now != 0) then 0 else (bif (!allows_0 cf cd ct cg s f u o g p now) then 0 else (bif (s == 2) then (IntKind.i64.wrap (p + 1)) else (bif (s == 3) then p else p))))
def bbegin_7 (cf : Int) (cd : Int) (ct : Int) (cg : Int) (s : Int) (f : Int) (u : Int) (o : Int) (g : Int) (p : Int) (now : Int) : Int := (bif (bmay_0 cf cd ct cg now != 0) then (bmay_0 cf cd ct cg now) else (bif (!allows_0 cf cd ct cg s f u o g p now) then 8 else (bif (s == 2) then 0 else (bif (s == 3) then 0 else 0))))
theorem bbegin_any (cf : Int) (cd : Int) (ct : Int) (cg : Int) (s : Int) (f : Int) (u : Int) (o : Int) (g : Int) (p : Int) (now : Int) (w : World) : Calls Try.prog 43 #[.agg #[.int .i64 cf, .int .i64 cd, .int .i64 ct, .int .i64 cg], .agg #[.int .i64 s, .int .i64 f, .int .i64 u, .int .i64 o, .int .i64 g, .int .i64 p], .int .i64 now] w (fun e w1 => e = .returned (Value.tuple #[Value.agg #[Value.int IntKind.i64 (bbegin_0 cf cd ct cg s f u o g p now), Value.int IntKind.i64 f, Value.int IntKind.i64 u, Value.int IntKind.i64 (bbegin_3 cf cd ct cg s f u o g p now), Value.int IntKind.i64 (bbegin_4 cf cd ct cg s f u o g p now), Value.int IntKind.i64 (bbegin_5 cf cd ct cg s f u o g p now)], Value.int IntKind.i64 (bbegin_6 cf cd ct cg s f u o g p now), Value.int IntKind.i64 (bbegin_7 cf cd ct cg s f u o g p now)]) ∧ Below w.heap.size w w1) := by
  rcases Bool.eq_false_or_eq_true (bmay_0 cf cd ct cg now != 0) with h0 | h0
  · refine (calls_orc (call := aCall Try.prog ΨS4 10 100 4) (ω := [(640, OV.soft (Value.bool true))]) (LF := 10) (F := 100) (av := [.agg #[.int .i64 cf, .int .i64 cd, .int .i64 ct, .int .i64 cg], .agg #[.int .i64 s, .int .i64 f, .int .i64 u, .int .i64 o, .int .i64 g, .int .i64 p], .int .i64 now]) (v := Value.tuple #[Value.agg #[Value.int IntKind.i64 s, Value.int IntKind.i64 f, Value.int IntKind.i64 u, Value.int IntKind.i64 o, Value.int IntKind.i64 g, Value.int IntKind.i64 p], Value.int IntKind.i64 0, Value.int IntKind.i64 (bmay_0 cf cd ct cg now)]) (ps := [(bmay_0 cf cd ct cg now != 0) = true]) (call_spec ΨS4_spec mixed 4) mixed (by kernel_rfl) (ob_cons h0 ob_nil) (by kernel_rfl) (by kernel_rfl) w).mono ?_
    rintro e w1 ⟨rfl, hb⟩; exact ⟨by simp only [bbegin_0, bbegin_3, bbegin_4, bbegin_5, bbegin_6, bbegin_7, h0, cond_true, cond_false], hb⟩
  · rcases Bool.eq_false_or_eq_true (!allows_0 cf cd ct cg s f u o g p now) with h1 | h1
    · refine (calls_orc (call := aCall Try.prog ΨS4 10 100 4) (ω := [(640, OV.soft (Value.bool false)), (960, OV.soft (Value.bool true))]) (LF := 10) (F := 100) (av := [.agg #[.int .i64 cf, .int .i64 cd, .int .i64 ct, .int .i64 cg], .agg #[.int .i64 s, .int .i64 f, .int .i64 u, .int .i64 o, .int .i64 g, .int .i64 p], .int .i64 now]) (v := Value.tuple #[Value.agg #[Value.int IntKind.i64 s, Value.int IntKind.i64 f, Value.int IntKind.i64 u, Value.int IntKind.i64 o, Value.int IntKind.i64 g, Value.int IntKind.i64 p], Value.int IntKind.i64 0, Value.int IntKind.i64 8]) (ps := [(bmay_0 cf cd ct cg now != 0) = false, (!allows_0 cf cd ct cg s f u o g p now) = true]) (call_spec ΨS4_spec mixed 4) mixed (by kernel_rfl) (ob_cons h0 (ob_cons h1 ob_nil)) (by kernel_rfl) (by kernel_rfl) w).mono ?_
      rintro e w1 ⟨rfl, hb⟩; exact ⟨by simp only [bbegin_0, bbegin_3, bbegin_4, bbegin_5, bbegin_6, bbegin_7, h0, h1, cond_true, cond_false], hb⟩
    · rcases Bool.eq_false_or_eq_true (s == 2) with h2 | h2
      · refine (calls_orc (call := aCall Try.prog ΨS4 10 100 4) (ω := [(640, OV.soft (Value.bool false)), (960, OV.soft (Value.bool false)), (1152, OV.soft (Value.bool true))]) (LF := 10) (F := 100) (av := [.agg #[.int .i64 cf, .int .i64 cd, .int .i64 ct, .int .i64 cg], .agg #[.int .i64 s, .int .i64 f, .int .i64 u, .int .i64 o, .int .i64 g, .int .i64 p], .int .i64 now]) (v := Value.tuple #[Value.agg #[Value.int IntKind.i64 3, Value.int IntKind.i64 f, Value.int IntKind.i64 u, Value.int IntKind.i64 1, Value.int IntKind.i64 0, Value.int IntKind.i64 (IntKind.i64.wrap (p + 1))], Value.int IntKind.i64 (IntKind.i64.wrap (p + 1)), Value.int IntKind.i64 0]) (ps := [(bmay_0 cf cd ct cg now != 0) = false, (!allows_0 cf cd ct cg s f u o g p now) = false, (s == 2) = true]) (call_spec ΨS4_spec mixed 4) mixed (by kernel_rfl) (ob_cons h0 (ob_cons h1 (ob_cons h2 ob_nil))) (by kernel_rfl) (by kernel_rfl) w).mono ?_
        rintro e w1 ⟨rfl, hb⟩; exact ⟨by simp only [bbegin_0, bbegin_3, bbegin_4, bbegin_5, bbegin_6, bbegin_7, h0, h1, h2, cond_true, cond_false], hb⟩
      · rcases Bool.eq_false_or_eq_true (s == 3) with h3 | h3
        · refine (calls_orc (call := aCall Try.prog ΨS4 10 100 4) (ω := [(640, OV.soft (Value.bool false)), (960, OV.soft (Value.bool false)), (1152, OV.soft (Value.bool false)), (1344, OV.soft (Value.bool true))]) (LF := 10) (F := 100) (av := [.agg #[.int .i64 cf, .int .i64 cd, .int .i64 ct, .int .i64 cg], .agg #[.int .i64 s, .int .i64 f, .int .i64 u, .int .i64 o, .int .i64 g, .int .i64 p], .int .i64 now]) (v := Value.tuple #[Value.agg #[Value.int IntKind.i64 s, Value.int IntKind.i64 f, Value.int IntKind.i64 u, Value.int IntKind.i64 (IntKind.i64.wrap (o + 1)), Value.int IntKind.i64 g, Value.int IntKind.i64 p], Value.int IntKind.i64 p, Value.int IntKind.i64 0]) (ps := [(bmay_0 cf cd ct cg now != 0) = false, (!allows_0 cf cd ct cg s f u o g p now) = false, (s == 2) = false, (s == 3) = true]) (call_spec ΨS4_spec mixed 4) mixed (by kernel_rfl) (ob_cons h0 (ob_cons h1 (ob_cons h2 (ob_cons h3 ob_nil)))) (by kernel_rfl) (by kernel_rfl) w).mono ?_
          rintro e w1 ⟨rfl, hb⟩; exact ⟨by simp only [bbegin_0, bbegin_3, bbegin_4, bbegin_5, bbegin_6, bbegin_7, h0, h1, h2, h3, cond_true, cond_false], hb⟩
        · refine (calls_orc (call := aCall Try.prog ΨS4 10 100 4) (ω := [(640, OV.soft (Value.bool false)), (960, OV.soft (Value.bool false)), (1152, OV.soft (Value.bool false)), (1344, OV.soft (Value.bool false))]) (LF := 10) (F := 100) (av := [.agg #[.int .i64 cf, .int .i64 cd, .int .i64 ct, .int .i64 cg], .agg #[.int .i64 s, .int .i64 f, .int .i64 u, .int .i64 o, .int .i64 g, .int .i64 p], .int .i64 now]) (v := Value.tuple #[Value.agg #[Value.int IntKind.i64 s, Value.int IntKind.i64 f, Value.int IntKind.i64 u, Value.int IntKind.i64 o, Value.int IntKind.i64 g, Value.int IntKind.i64 p], Value.int IntKind.i64 p, Value.int IntKind.i64 0]) (ps := [(bmay_0 cf cd ct cg now != 0) = false, (!allows_0 cf cd ct cg s f u o g p now) = false, (s == 2) = false, (s == 3) = false]) (call_spec ΨS4_spec mixed 4) mixed (by kernel_rfl) (ob_cons h0 (ob_cons h1 (ob_cons h2 (ob_cons h3 ob_nil)))) (by kernel_rfl) (by kernel_rfl) w).mono ?_
          rintro e w1 ⟨rfl, hb⟩; exact ⟨by simp only [bbegin_0, bbegin_3, bbegin_4, bbegin_5, bbegin_6, bbegin_7, h0, h1, h2, h3, cond_true, cond_false], hb⟩
def ψbbegin : CallF := fun f args H _ =>
  if f = 43 then match args with
    | [.agg ⟨[.int .i64 cf, .int .i64 cd, .int .i64 ct, .int .i64 cg]⟩, .agg ⟨[.int .i64 s, .int .i64 f, .int .i64 u, .int .i64 o, .int .i64 g, .int .i64 p]⟩, .int .i64 now] => some (Value.tuple #[Value.agg #[Value.int IntKind.i64 (bbegin_0 cf cd ct cg s f u o g p now), Value.int IntKind.i64 f, Value.int IntKind.i64 u, Value.int IntKind.i64 (bbegin_3 cf cd ct cg s f u o g p now), Value.int IntKind.i64 (bbegin_4 cf cd ct cg s f u o g p now), Value.int IntKind.i64 (bbegin_5 cf cd ct cg s f u o g p now)], Value.int IntKind.i64 (bbegin_6 cf cd ct cg s f u o g p now), Value.int IntKind.i64 (bbegin_7 cf cd ct cg s f u o g p now)], H)
    | _ => none
  else none
theorem ψbbegin_spec [Inhabited RawG] : CallSpec Try.prog ψbbegin := by
  intro g av Hs lo v H1 h D ρ w args hlt hsz hav hw
  unfold ψbbegin at h
  split at h
  · rename_i hg
    subst hg
    split at h
    · cases h; exact spec_of_pure (fun w => bbegin_any _ _ _ _ _ _ _ _ _ _ _ w) (by kernel_rfl) (by kernel_rfl) hsz hav hw
    · cases h
  · cases h
def pick_0 (n : Int) (m : Int) : Int := (bif (decide (m < 1)) then 0 else (bif (decide (n.tmod m < 0)) then (IntKind.i64.wrap (n.tmod m + m)) else (n.tmod m)))
theorem pick_any (n : Int) (m : Int) (w : World) : Calls Try.prog 9 #[.int .i64 n, .int .i64 m] w (fun e w1 => e = .returned (Value.int IntKind.i64 (pick_0 n m)) ∧ Below w.heap.size w w1) := by
  rcases Bool.eq_false_or_eq_true (decide (m < 1)) with h0 | h0
  · refine (calls_orc (call := aCall Try.prog ΨS4 10 100 4) (ω := [(128, OV.soft (Value.bool true))]) (LF := 10) (F := 100) (av := [.int .i64 n, .int .i64 m]) (v := Value.int IntKind.i64 0) (ps := [decide (m < 1) = true]) (call_spec ΨS4_spec mixed 4) mixed (by kernel_rfl) (ob_cons h0 ob_nil) (by kernel_rfl) (by kernel_rfl) w).mono ?_
    rintro e w1 ⟨rfl, hb⟩; exact ⟨by simp only [pick_0, h0, cond_true, cond_false], hb⟩
  · rcases Bool.eq_false_or_eq_true (decide (n.tmod m < 0)) with h1 | h1
    · refine (calls_orc (call := aCall Try.prog ΨS4 10 100 4) (ω := [(128, OV.soft (Value.bool false)), (320, OV.div), (512, OV.soft (Value.bool true))]) (LF := 10) (F := 100) (av := [.int .i64 n, .int .i64 m]) (v := Value.int IntKind.i64 (IntKind.i64.wrap (n.tmod m + m))) (ps := [decide (m < 1) = false, m ≠ 0, decide (n.tmod m < 0) = true]) (call_spec ΨS4_spec mixed 4) mixed (by kernel_rfl) (ob_cons h0 (ob_cons (by simp only [decide_eq_false_iff_not] at *; omega) (ob_cons h1 ob_nil))) (by kernel_rfl) (by kernel_rfl) w).mono ?_
      rintro e w1 ⟨rfl, hb⟩; exact ⟨by simp only [pick_0, h0, h1, cond_true, cond_false], hb⟩
    · refine (calls_orc (call := aCall Try.prog ΨS4 10 100 4) (ω := [(128, OV.soft (Value.bool false)), (320, OV.div), (512, OV.soft (Value.bool false))]) (LF := 10) (F := 100) (av := [.int .i64 n, .int .i64 m]) (v := Value.int IntKind.i64 (n.tmod m)) (ps := [decide (m < 1) = false, m ≠ 0, decide (n.tmod m < 0) = false]) (call_spec ΨS4_spec mixed 4) mixed (by kernel_rfl) (ob_cons h0 (ob_cons (by simp only [decide_eq_false_iff_not] at *; omega) (ob_cons h1 ob_nil))) (by kernel_rfl) (by kernel_rfl) w).mono ?_
      rintro e w1 ⟨rfl, hb⟩; exact ⟨by simp only [pick_0, h0, h1, cond_true, cond_false], hb⟩
def ψpick : CallF := fun f args H _ =>
  if f = 9 then match args with
    | [.int .i64 n, .int .i64 m] => some (Value.int IntKind.i64 (pick_0 n m), H)
    | _ => none
  else none
theorem ψpick_spec [Inhabited RawG] : CallSpec Try.prog ψpick := by
  intro g av Hs lo v H1 h D ρ w args hlt hsz hav hw
  unfold ψpick at h
  split at h
  · rename_i hg
    subst hg
    split at h
    · cases h; exact spec_of_pure (fun w => pick_any _ _ w) (by kernel_rfl) (by kernel_rfl) hsz hav hw
    · cases h
  · cases h
def ΨS5_0 : CallF := orΨ ψbbegin ΨS4
theorem ΨS5_0_spec [Inhabited RawG] : CallSpec Try.prog ΨS5_0 := orΨ_spec ψbbegin_spec ΨS4_spec
def ΨS5 : CallF := orΨ ψpick ΨS5_0
theorem ΨS5_spec [Inhabited RawG] : CallSpec Try.prog ΨS5 := orΨ_spec ψpick_spec ΨS5_0_spec
end Go.Proofs.Ytadpnamooajpoaa
