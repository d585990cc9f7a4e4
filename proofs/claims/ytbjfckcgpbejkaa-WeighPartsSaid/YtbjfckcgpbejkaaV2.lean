/- Weigh: contracts of rank and Compare; printed by a program of mine. -/
import Derived.Test.YtbjfckcgpbejkaaV1
import Derived.KernelRfl
namespace Go.Proofs.Ytbjfckcgpbejkaa
set_option linter.unusedSectionVars false
open Go.RowKit
set_option linter.unusedSimpArgs false
set_option linter.unusedVariables false
set_option maxRecDepth 100000
variable [Inhabited RawG]
theorem rk_a {a : Nat} {s0 s c o x : Int} (e0 : IntKind.i64.wrap (↑a : Int) = s0) (e1 : s0.fdiv (2 ^ 63) = s) (e2 : IntKind.u64.wrap s = c) (e3 : IntKind.u64.wrap (↑(BitVec.ofInt 64 c ||| BitVec.ofInt 64 9223372036854775808).toNat : Int) = o) (e4 : IntKind.u64.wrap (↑(BitVec.ofInt 64 (↑a : Int) ^^^ BitVec.ofInt 64 o).toNat : Int) = x) : CallOK Try.prog 44 [.float .f64 a] [] 0 (.int .u64 x) [] := by
  exact (callOK_keep (call := callW) [] callW_spec mixed (P := Try.prog) (g := 44) (av := [.float .f64 a]) (Hs := []) (lo := 0) (ω := [(384, OV.soft (Value.int IntKind.i64 s0)), (448, OV.soft (Value.int IntKind.i64 s)), (512, OV.soft (Value.int IntKind.u64 c)), (576, OV.soft (Value.int IntKind.u64 o)), (640, OV.soft (Value.int IntKind.u64 x))]) (LF := 10) (F := 100) (v := Value.int IntKind.u64 x) (H1 := []) (ps := [IntKind.i64.wrap (↑a : Int) = s0, s0.fdiv (2 ^ 63) = s, IntKind.u64.wrap s = c, IntKind.u64.wrap (↑(BitVec.ofInt 64 c ||| BitVec.ofInt 64 9223372036854775808).toNat : Int) = o, IntKind.u64.wrap (↑(BitVec.ofInt 64 (↑a : Int) ^^^ BitVec.ofInt 64 o).toNat : Int) = x]) (by kernel_rfl) (ob_cons e0 (ob_cons e1 (ob_cons e2 (ob_cons e3 (ob_cons e4 ob_nil))))))

theorem rank_ok {a : Nat} (ha : a < 18446744073709551616) : CallOK Try.prog 44 [.float .f64 a] [] 0 (.int .u64 (rankE a)) [] := by
  by_cases h : a < 9223372036854775808
  · exact rk_a (s0 := (a : Int)) (s := 0) (c := 0) (o := 9223372036854775808) (w64 (by omega)) (by show Int.fdiv _ 9223372036854775808 = _; rw [Int.fdiv_eq_ediv_of_nonneg _ (by decide)]; omega) rfl rfl (rank_low h)
  · refine rk_a (s0 := (a : Int) - 18446744073709551616) (s := -1) (c := 18446744073709551615) (o := 18446744073709551615) ?_ ?_ rfl rfl (rank_high h ha)
    · unfold IntKind.wrap
      simp [IntKind.signed, IntKind.bits]
      omega
    · show Int.fdiv _ 9223372036854775808 = _; rw [Int.fdiv_eq_ediv_of_nonneg _ (by decide)]; omega
theorem i64_high {a : Nat} (h : ¬ a < 9223372036854775808) (h2 : a < 18446744073709551616) : IntKind.i64.wrap (a : Int) = (a : Int) - 18446744073709551616 := by
  unfold IntKind.wrap
  simp [IntKind.signed, IntKind.bits]
  omega
theorem rrk_lo {a : Nat} (h : a < 9223372036854775808) : CallOK Try.prog 38 [.float .f64 a] [] 0 (.int .i64 (rankE a - 9223372036854775808)) [] := by
  have k0 : (decide (IntKind.i64.wrap (↑a : Int) < 0)) = false := (decide_eq_false (by rw [w64 (by omega)]; omega))
  rw [show rankE a - 9223372036854775808 = IntKind.i64.wrap (a : Int) by rw [w64 (by omega)]; unfold rankE; rw [if_pos h]; omega]; exact (callOK_keep (call := callW) [] callW_spec mixed (P := Try.prog) (g := 38) (av := [.float .f64 a]) (Hs := []) (lo := 0) (ω := [(384, OV.soft (Value.bool false))]) (LF := 10) (F := 100) (v := Value.int IntKind.i64 (IntKind.i64.wrap (↑a : Int))) (H1 := []) (ps := [decide (IntKind.i64.wrap (↑a : Int) < 0) = false]) (by kernel_rfl) (ob_cons k0 ob_nil))

theorem rrk_hi {a : Nat} (h : ¬ a < 9223372036854775808) (h2 : a < 18446744073709551616) : CallOK Try.prog 38 [.float .f64 a] [] 0 (.int .i64 (rankE a - 9223372036854775808)) [] := by
  have k0 : (decide (IntKind.i64.wrap (↑a : Int) < 0)) = true := (decide_eq_true (by rw [i64_high h h2]; omega))
  rw [show rankE a - 9223372036854775808 = IntKind.i64.wrap (IntKind.i64.wrap (-9223372036854775808 - IntKind.i64.wrap (a : Int)) - 1) by rw [i64_high h h2, w64 (n := -9223372036854775808 - ((a : Int) - 18446744073709551616)) (by omega), w64 (by omega)]; unfold rankE; rw [if_neg h]; omega]; exact (callOK_keep (call := callW) [] callW_spec mixed (P := Try.prog) (g := 38) (av := [.float .f64 a]) (Hs := []) (lo := 0) (ω := [(384, OV.soft (Value.bool true))]) (LF := 10) (F := 100) (v := Value.int IntKind.i64 (IntKind.i64.wrap (IntKind.i64.wrap (-9223372036854775808 - IntKind.i64.wrap (↑a : Int)) - 1))) (H1 := []) (ps := [decide (IntKind.i64.wrap (↑a : Int) < 0) = true]) (by kernel_rfl) (ob_cons k0 ob_nil))

theorem rrank_ok {a : Nat} (ha : a < 18446744073709551616) : CallOK Try.prog 38 [.float .f64 a] [] 0 (.int .i64 (rankE a - 9223372036854775808)) [] := by
  by_cases h : a < 9223372036854775808
  · exact rrk_lo h
  · exact rrk_hi h ha
theorem cmpu_E (a b : Nat) : cmpu_0 (rankE a) (rankE b) = cmpE a b := by
  unfold cmpu_0 cmpE
  rw [show (rankE a != rankE a) = false by simp, show (rankE b != rankE b) = false by simp]
  simp only [cond_false]
  by_cases h : rankE a < rankE b
  · rw [decide_eq_true h, if_pos h]; rfl
  · rw [decide_eq_false h, if_neg h]
    by_cases h2 : rankE a > rankE b
    · rw [decide_eq_true h2, if_pos h2]; rfl
    · rw [decide_eq_false h2, if_neg h2]; rfl
theorem cmp_a {a b : Nat} {ra rb : Int} (c0 : CallOK Try.prog 44 [Value.float FloatKind.f64 a] [] 0 (Value.int IntKind.u64 ra) []) (c1 : CallOK Try.prog 44 [Value.float FloatKind.f64 b] [] 0 (Value.int IntKind.u64 rb) []) : CallOK Try.prog 31 [.float .f64 a, .float .f64 b] [] 0 (.int .i64 (cmpu_0 ra rb)) [] := by
  exact (callOK_keep (call := callW) [] callW_spec mixed (P := Try.prog) (g := 31) (av := [.float .f64 a, .float .f64 b]) (Hs := []) (lo := 0) (ω := [(128, OV.call (Value.int IntKind.u64 ra) []), (256, OV.call (Value.int IntKind.u64 rb) [])]) (LF := 10) (F := 100) (v := Value.int IntKind.i64 (cmpu_0 ra rb)) (H1 := []) (ps := [CallOK Try.prog 44 [Value.float FloatKind.f64 a] [] 0 (Value.int IntKind.u64 ra) [], CallOK Try.prog 44 [Value.float FloatKind.f64 b] [] 0 (Value.int IntKind.u64 rb) []]) (by kernel_rfl) (ob_cons c0 (ob_cons c1 ob_nil)))

def cmpI (x y : Int) : Int := bif decide (x < y) then -1 else bif decide (x > y) then 1 else 0
theorem rcmp_a {a b : Nat} {ra rb : Int} (c0 : CallOK Try.prog 38 [Value.float FloatKind.f64 a] [] 0 (Value.int IntKind.i64 ra) []) (c1 : CallOK Try.prog 38 [Value.float FloatKind.f64 b] [] 0 (Value.int IntKind.i64 rb) []) : CallOK Try.prog 21 [.float .f64 a, .float .f64 b] [] 0 (.int .i64 (cmpI ra rb)) [] := by
  rcases Bool.eq_false_or_eq_true (decide (ra < rb)) with h0 | h0
  · have hv : (.int .i64 (cmpI ra rb)) = Value.int IntKind.i64 (-1) := by first | (simp only [cmpI, h0, cond_true, cond_false, Bool.true_and, Bool.and_true, Bool.false_and, Bool.and_false, Bool.not_true, Bool.not_false]; done) | (simp only [cmpI, h0, cond_true, cond_false, Bool.true_and, Bool.and_true, Bool.false_and, Bool.and_false, Bool.not_true, Bool.not_false]; rfl) | simp [cmpI, h0]
    rw [hv]
    exact (callOK_keep (call := callW) [] callW_spec mixed (P := Try.prog) (g := 21) (av := [.float .f64 a, .float .f64 b]) (Hs := []) (lo := 0) (ω := [(128, OV.call (Value.int IntKind.i64 ra) []), (256, OV.call (Value.int IntKind.i64 rb) []), (640, OV.soft (Value.bool true))]) (LF := 10) (F := 100) (v := Value.int IntKind.i64 (-1)) (H1 := []) (ps := [CallOK Try.prog 38 [Value.float FloatKind.f64 a] [] 0 (Value.int IntKind.i64 ra) [], CallOK Try.prog 38 [Value.float FloatKind.f64 b] [] 0 (Value.int IntKind.i64 rb) [], decide (ra < rb) = true]) (by kernel_rfl) (ob_cons c0 (ob_cons c1 (ob_cons h0 ob_nil))))
  · rcases Bool.eq_false_or_eq_true (decide (ra > rb)) with h1 | h1
    · have hv : (.int .i64 (cmpI ra rb)) = Value.int IntKind.i64 1 := by first | (simp only [cmpI, h0, h1, cond_true, cond_false, Bool.true_and, Bool.and_true, Bool.false_and, Bool.and_false, Bool.not_true, Bool.not_false]; done) | (simp only [cmpI, h0, h1, cond_true, cond_false, Bool.true_and, Bool.and_true, Bool.false_and, Bool.and_false, Bool.not_true, Bool.not_false]; rfl) | simp [cmpI, h0, h1]
      rw [hv]
      exact (callOK_keep (call := callW) [] callW_spec mixed (P := Try.prog) (g := 21) (av := [.float .f64 a, .float .f64 b]) (Hs := []) (lo := 0) (ω := [(128, OV.call (Value.int IntKind.i64 ra) []), (256, OV.call (Value.int IntKind.i64 rb) []), (640, OV.soft (Value.bool false)), (896, OV.soft (Value.bool true))]) (LF := 10) (F := 100) (v := Value.int IntKind.i64 1) (H1 := []) (ps := [CallOK Try.prog 38 [Value.float FloatKind.f64 a] [] 0 (Value.int IntKind.i64 ra) [], CallOK Try.prog 38 [Value.float FloatKind.f64 b] [] 0 (Value.int IntKind.i64 rb) [], decide (ra < rb) = false, decide (ra > rb) = true]) (by kernel_rfl) (ob_cons c0 (ob_cons c1 (ob_cons h0 (ob_cons h1 ob_nil)))))
    · have hv : (.int .i64 (cmpI ra rb)) = Value.int IntKind.i64 0 := by first | (simp only [cmpI, h0, h1, cond_true, cond_false, Bool.true_and, Bool.and_true, Bool.false_and, Bool.and_false, Bool.not_true, Bool.not_false]; done) | (simp only [cmpI, h0, h1, cond_true, cond_false, Bool.true_and, Bool.and_true, Bool.false_and, Bool.and_false, Bool.not_true, Bool.not_false]; rfl) | simp [cmpI, h0, h1]
      rw [hv]
      exact (callOK_keep (call := callW) [] callW_spec mixed (P := Try.prog) (g := 21) (av := [.float .f64 a, .float .f64 b]) (Hs := []) (lo := 0) (ω := [(128, OV.call (Value.int IntKind.i64 ra) []), (256, OV.call (Value.int IntKind.i64 rb) []), (640, OV.soft (Value.bool false)), (896, OV.soft (Value.bool false))]) (LF := 10) (F := 100) (v := Value.int IntKind.i64 0) (H1 := []) (ps := [CallOK Try.prog 38 [Value.float FloatKind.f64 a] [] 0 (Value.int IntKind.i64 ra) [], CallOK Try.prog 38 [Value.float FloatKind.f64 b] [] 0 (Value.int IntKind.i64 rb) [], decide (ra < rb) = false, decide (ra > rb) = false]) (by kernel_rfl) (ob_cons c0 (ob_cons c1 (ob_cons h0 (ob_cons h1 ob_nil)))))

theorem compare_ok {a b : Nat} (ha : a < 18446744073709551616) (hb : b < 18446744073709551616) : CallOK Try.prog 31 [.float .f64 a, .float .f64 b] [] 0 (.int .i64 (cmpE a b)) [] := by
  have h := cmp_a (a := a) (b := b) (rank_ok ha) (rank_ok hb)
  rw [cmpu_E] at h
  exact h
theorem rcompare_ok {a b : Nat} (ha : a < 18446744073709551616) (hb : b < 18446744073709551616) : CallOK Try.prog 21 [.float .f64 a, .float .f64 b] [] 0 (.int .i64 (cmpE a b)) [] := by
  have h := rcmp_a (a := a) (b := b) (rrank_ok ha) (rrank_ok hb)
  have e : cmpI (rankE a - 9223372036854775808) (rankE b - 9223372036854775808) = cmpE a b := by
    unfold cmpI cmpE
    by_cases h1 : rankE a < rankE b
    · rw [decide_eq_true (show rankE a - 9223372036854775808 < rankE b - 9223372036854775808 by omega), if_pos h1]; rfl
    · rw [decide_eq_false (show ¬ rankE a - 9223372036854775808 < rankE b - 9223372036854775808 by omega), if_neg h1]
      by_cases h2 : rankE a > rankE b
      · rw [decide_eq_true (show rankE a - 9223372036854775808 > rankE b - 9223372036854775808 by omega), if_pos h2]; rfl
      · rw [decide_eq_false (show ¬ rankE a - 9223372036854775808 > rankE b - 9223372036854775808 by omega), if_neg h2]; rfl
  rw [e] at h
  exact h
end Go.Proofs.Ytbjfckcgpbejkaa
