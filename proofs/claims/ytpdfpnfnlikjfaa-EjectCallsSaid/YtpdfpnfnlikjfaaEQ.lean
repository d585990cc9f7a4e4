/- Eject: until when, by the program and by the document. -/
import Derived.Test.YtpdfpnfnlikjfaaS3
import Derived.Test.YtpdfpnfnlikjfaaP1
import Derived.Test.YtpdfpnfnlikjfaaX17
namespace Go.Proofs.Ytpdfpnfnlikjfaa
open Go.RowKit
set_option linter.unusedSectionVars false
set_option linter.unusedSimpArgs false
set_option linter.unusedVariables false
theorem rcheck_eq (cf cb cm cp : Int) : rcheck_0 cf cb cm cp = check_0 cf cb cm cp := rfl
theorem time_iff (now : Int) : time_0 now = true ↔ 0 ≤ now ∧ now ≤ 253402300799 := by
  unfold time_0
  by_cases h1 : now ≥ 0 <;> by_cases h2 : now ≤ 253402300799 <;> simp [h1, h2] <;> omega
theorem behind_eq {now x : Int} (h0 : 0 ≤ now) (h1 : now ≤ 253402300799) (x0 : 0 ≤ x) (x1 : x ≤ 253402300799) : behind_0 now x = IntKind.i64.wrap ((if IntKind.i64.wrap (253402300799 - x) < now then IntKind.i64.wrap (253402300799 - x) else now) + x) := by
  unfold behind_0
  rw [w64 (n := 253402300799 - now) (by omega), w64 (n := 253402300799 - x) (by omega), w64 (n := now + x) (by omega)]
  by_cases h : x > 253402300799 - now
  · rw [show decide (x > 253402300799 - now) = true from decide_eq_true h, if_pos (by omega), w64 (by omega)]
    simp only [cond_true]; omega
  · rw [show decide (x > 253402300799 - now) = false from decide_eq_false h, if_neg (by omega), w64 (by omega)]
    rfl
theorem until_eq (cf cb cm cp times now : Int) : until_0 cf cb cm cp times now = runtil_0 cf cb cm cp times now := by
  unfold until_0 runtil_0
  rw [rcheck_eq]
  rcases Bool.eq_false_or_eq_true (check_0 cf cb cm cp != 0) with hc | hc
  · have hm : (may_0 cf cb cm cp now != 0) = true := by unfold may_0; rw [hc]; simpa using hc
    rw [hm, hc]; rfl
  · have hok := check_ne hc
    rw [hc]
    simp only [cond_false]
    by_cases ht : 0 ≤ now ∧ now ≤ 253402300799
    · have hm : (may_0 cf cb cm cp now != 0) = false := by rw [may_of hok ht.1 ht.2]; rfl
      have htm : (!time_0 now) = false := by rw [(time_iff now).2 ht]; rfl
      rw [hm, htm]
      simp only [cond_false]
      by_cases h1 : times < 1
      · rw [show decide (times < 1) = true from decide_eq_true h1]; rfl
      · rw [show decide (times < 1) = false from decide_eq_false h1]
        simp only [cond_false]
        obtain ⟨f1, f2, k1, k2, m1, m2, p1, p2⟩ := hok
        have tb : 0 < times := by omega
        have cb0 : 0 < cb := by omega
        have d1 : cm.tdiv cb = cm / cb := Int.tdiv_eq_ediv_of_nonneg (by omega)
        have d2 : cm.tdiv times = cm / times := Int.tdiv_eq_ediv_of_nonneg (by omega)
        have q1 : 0 ≤ cm / cb := Int.ediv_nonneg (by omega) (by omega)
        have q2 : 0 ≤ cm / times := Int.ediv_nonneg (by omega) (by omega)
        have q3 : cm / cb ≤ cm := Int.ediv_le_self _ (by omega)
        have q4 : cm / times ≤ cm := Int.ediv_le_self _ (by omega)
        rw [d1, d2, w64 (n := cm / cb) (by omega), w64 (n := cm / times) (by omega)]
        have i1 : times ≤ cm / cb ↔ times * cb ≤ cm := Int.le_ediv_iff_mul_le cb0
        have i2 : cb ≤ cm / times ↔ cb * times ≤ cm := Int.le_ediv_iff_mul_le tb
        have i3 : times * cb = cb * times := Int.mul_comm _ _
        by_cases hq : cb * times ≤ cm
        · have hp : 0 ≤ cb * times := Int.mul_nonneg (by omega) (by omega)
          rw [show decide (times ≤ cm / cb) = true from decide_eq_true (by rw [i1]; omega), show decide (cb ≤ cm / times) = true from decide_eq_true (i2.2 hq)]
          simp only [cond_true]
          rw [w64 (n := cb * times) (by omega), behind_eq ht.1 ht.2 hp (by omega)]
        · rw [show decide (times ≤ cm / cb) = false from decide_eq_false (by rw [i1]; omega), show decide (cb ≤ cm / times) = false from decide_eq_false (by rw [i2]; exact hq)]
          simp only [cond_false]
          rw [behind_eq ht.1 ht.2 (by omega) (by omega)]
    · have htm : (!time_0 now) = true := by
        cases h : time_0 now with
        | true => exact absurd ((time_iff now).1 h) ht
        | false => rfl
      have hm : (may_0 cf cb cm cp now != 0) = true := by
        unfold may_0
        rw [hc]
        simp only [cond_false]
        by_cases h : now < 0
        · rw [show decide (now < 0) = true from decide_eq_true h]; rfl
        · rw [show decide (now < 0) = false from decide_eq_false h, show decide (now > 253402300799) = true from decide_eq_true (by omega)]; rfl
      rw [hm, htm]; rfl
/-! the next one that is in -/
theorem inUpto_mem {es : List EjT} {now : Int} {k x : Nat} : x ∈ inUpto es now k ↔ x < k ∧ ejIn now (es.getD x (0, 0, 0)) = true := by
  unfold inUpto
  rw [List.mem_filter, List.mem_range]
theorem inUpto_nodup (es : List EjT) (now : Int) (k : Nat) : (inUpto es now k).Nodup := List.Pairwise.filter _ List.nodup_range
theorem inUpto_skip {es : List EjT} {now : Int} {k m : Nat} (hkm : k ≤ m) (h : ∀ y, k ≤ y → y < m → ejIn now (es.getD y (0, 0, 0)) = false) : inUpto es now m = inUpto es now k := by
  induction m with
  | zero => obtain rfl : k = 0 := by omega
            rfl
  | succ m ih =>
    by_cases hk : k = m + 1
    · rw [hk]
    · rw [inUpto_miss (h m (by omega) (by omega)), ih (by omega) (fun y h1 h2 => h y h1 (by omega))]
/-- Where the search for the next one ends. -/
theorem next_in {es : List EjT} {now : Int} {k m x : Nat} {K : Nat} (hK : k ≤ K) (hskip : ∀ y, k ≤ y → y < K → ejIn now (es.getD y (0, 0, 0)) = false) (hin : K < es.length → ejIn now (es.getD K (0, 0, 0)) = true) (hm : m ≤ es.length)
    (h : inUpto es now k ++ [x] = inUpto es now m) : K < es.length ∧ x = K := by
  have hx : x ∈ inUpto es now m := by rw [← h]; simp
  obtain ⟨x1, x2⟩ := inUpto_mem.1 hx
  have hnd := inUpto_nodup es now m
  rw [← h] at hnd
  have hxk : ¬ x < k := fun hlt => by
    have : x ∈ inUpto es now k := inUpto_mem.2 ⟨hlt, x2⟩
    have hd := List.nodup_append.1 hnd
    exact hd.2.2 x this x (by simp) rfl
  have hKx : K ≤ x := by
    rcases Nat.lt_or_ge x K with h1 | h1
    · rw [hskip x (by omega) h1] at x2; cases x2
    · exact h1
  refine ⟨by omega, ?_⟩
  rcases Nat.lt_or_ge K x with h1 | h1
  · exfalso
    have : K ∈ inUpto es now m := inUpto_mem.2 ⟨by omega, hin (by omega)⟩
    rw [← h] at this
    rcases List.mem_append.1 this with h2 | h2
    · have := (inUpto_mem.1 h2).1; omega
    · simp at h2; omega
  · omega
end Go.Proofs.Ytpdfpnfnlikjfaa
