/- ProbeCalls: what the program computes is what the reference computes; no program in sight. -/
import Derived.Test.YtbmgigbcilgieaaS5
import Derived.IntWalk
namespace Go.Proofs.Ytbmgigbcilgieaa
open Go.RowKit
set_option linter.unusedVariables false
theorem v64 {n : Int} (h : -9223372036854775808 ≤ n ∧ n ≤ 9223372036854775807) : IntKind.i64.wrap n = n := IntWalk.i64_in n h
theorem within_iff' (n k : Int) : within_0 n k = true ↔ 1 ≤ n ∧ n ≤ k := by
  unfold within_0
  by_cases h1 : 1 ≤ n <;> by_cases h2 : n ≤ k <;> simp [h1, h2]
theorem within_dec (n k : Int) : within_0 n k = decide (1 ≤ n ∧ n ≤ k) := by
  by_cases h : 1 ≤ n ∧ n ≤ k
  · rw [decide_eq_true h]; exact (within_iff' n k).2 h
  · rw [decide_eq_false h]
    cases hw : within_0 n k with
    | false => rfl
    | true => exact absurd ((within_iff' n k).1 hw) h
theorem check_val (ce cw cr cf : Int) : check_0 ce cw cr cf = if (1 ≤ ce ∧ ce ≤ 253402300799) ∧ (1 ≤ cw ∧ cw ≤ 253402300799) ∧ (1 ≤ cr ∧ cr ≤ 1048576) ∧ 1 ≤ cf ∧ cf ≤ 1048576 then 0 else 210 := by
  unfold check_0
  simp only [within_dec]
  by_cases h1 : 1 ≤ ce ∧ ce ≤ 253402300799 <;> by_cases h2 : 1 ≤ cw ∧ cw ≤ 253402300799 <;> by_cases h3 : 1 ≤ cr ∧ cr ≤ 1048576 <;> by_cases h4 : 1 ≤ cf ∧ cf ≤ 1048576 <;> simp [h1, h2, h3, h4]
theorem rcheck_eq (ce cw cr cf : Int) : rcheck_0 ce cw cr cf = check_0 ce cw cr cf := by
  rw [check_val]
  unfold rcheck_0
  simp only [Bool.cond_decide]
  repeat' split
  all_goals first | rfl | omega
theorem beq_dec (a b : Int) : (a == b) = decide (a = b) := rfl
theorem bne_dec (a b : Int) : (a != b) = !decide (a = b) := rfl
theorem errs_eq (ce cw cr cf now : Int) (ok : Bool) : errs_0 ce cw cr cf now ok = if may_0 ce cw cr cf now = 0 then (if ok = true then 0 else 8) else may_0 ce cw cr cf now := by
  unfold errs_0 may_0 time_0
  rw [rcheck_eq, check_val]
  simp only [Bool.cond_decide]
  by_cases hc : (1 ≤ ce ∧ ce ≤ 253402300799) ∧ (1 ≤ cw ∧ cw ≤ 253402300799) ∧ (1 ≤ cr ∧ cr ≤ 1048576) ∧ 1 ≤ cf ∧ cf ≤ 1048576
  · by_cases h0 : 0 ≤ now <;> by_cases h1 : now ≤ 253402300799 <;> cases ok <;> simp [hc, h0, h1, show (now < 0) ↔ ¬ 0 ≤ now by omega, show (253402300799 < now) ↔ ¬ now ≤ 253402300799 by omega]
  · simp [hc]
variable (ce cw cr cf : Int) (up : Bool) (run nxt : Int) (out : Bool) (since : Int) (well : Bool) (now : Int)
theorem rbegin3_eq : rbegin_3 ce cw cr cf up run nxt out since now = pbegin_3 ce cw cr cf up run nxt out since now := by
  unfold rbegin_3 pbegin_3
  simp only [errs_eq]
  have hd : rdue_0 up run nxt out since now = due_0 up run nxt out since now := rfl
  rw [hd]
  by_cases hm : may_0 ce cw cr cf now = 0 <;> cases due_0 up run nxt out since now <;> (simp only [beq_dec, bne_dec, hm, if_true, if_false]; try simp)
theorem rbegin4_eq : rbegin_4 ce cw cr cf up run nxt out since now = pbegin_4 ce cw cr cf up run nxt out since now := by
  unfold rbegin_4 pbegin_4
  simp only [errs_eq]
  have hd : rdue_0 up run nxt out since now = due_0 up run nxt out since now := rfl
  rw [hd]
  by_cases hm : may_0 ce cw cr cf now = 0 <;> cases due_0 up run nxt out since now <;> (simp only [beq_dec, bne_dec, hm, if_true, if_false]; try simp)
theorem rbegin5_eq : rbegin_5 ce cw cr cf up run nxt out since now = pbegin_5 ce cw cr cf up run nxt out since now := by
  unfold rbegin_5 pbegin_5
  simp only [errs_eq]
  have hd : rdue_0 up run nxt out since now = due_0 up run nxt out since now := rfl
  rw [hd]
  by_cases hm : may_0 ce cw cr cf now = 0 <;> cases due_0 up run nxt out since now <;> (simp only [beq_dec, bne_dec, hm, if_true, if_false]; try simp)
theorem may_bd (h : may_0 ce cw cr cf now = 0) : (0 ≤ now ∧ now ≤ 253402300799) ∧ (1 ≤ ce ∧ ce ≤ 253402300799) := by
  unfold may_0 at h
  rw [check_val] at h
  simp only [Bool.cond_decide] at h
  by_cases hc : (1 ≤ ce ∧ ce ≤ 253402300799) ∧ (1 ≤ cw ∧ cw ≤ 253402300799) ∧ (1 ≤ cr ∧ cr ≤ 1048576) ∧ 1 ≤ cf ∧ cf ≤ 1048576
  · simp only [if_pos hc] at h
    by_cases h0 : now < 0
    · simp [h0] at h
    · by_cases h1 : now > 253402300799
      · simp [h0, h1] at h
      · omega
  · simp [hc] at h
theorem behind_eq (h : may_0 ce cw cr cf now = 0) : behind_0 now ce = IntKind.i64.wrap ((if IntKind.i64.wrap (253402300799 - ce) < now then IntKind.i64.wrap (253402300799 - ce) else now) + ce) := by
  have hb := may_bd ce cw cr cf now h
  unfold behind_0
  rw [v64 (n := 253402300799 - now) (by omega), v64 (n := 253402300799 - ce) (by omega), v64 (n := now + ce) (by omega)]
  simp only [Bool.cond_decide]
  by_cases h1 : 253402300799 - ce < now
  · rw [if_pos h1, if_pos (by omega), v64 (by omega)]; omega
  · rw [if_neg h1, if_neg (by omega), v64 (by omega)]
theorem rend0_eq : rend_0 ce cw cr cf up run nxt out since well now = pend_0 ce cw cr cf up run nxt out since well now := by
  unfold rend_0 pend_0
  simp only [errs_eq]
  by_cases hm : may_0 ce cw cr cf now = 0 <;> cases out <;> (simp only [beq_dec, bne_dec, hm, if_true, if_false]; try simp)
theorem rend1_eq : rend_1 ce cw cr cf up run nxt out since well now = pend_1 ce cw cr cf up run nxt out since well now := by
  unfold rend_1 pend_1
  simp only [errs_eq]
  by_cases hm : may_0 ce cw cr cf now = 0 <;> cases out <;> (simp only [beq_dec, bne_dec, hm, if_true, if_false]; try simp)
theorem rend2_eq : rend_2 ce cw cr cf up run nxt out since well now = pend_2 ce cw cr cf up run nxt out since well now := by
  unfold rend_2 pend_2
  simp only [errs_eq]
  by_cases hm : may_0 ce cw cr cf now = 0
  · rw [behind_eq ce cw cr cf now hm]
    cases out <;> (simp only [beq_dec, bne_dec, hm, if_true, if_false]; try simp)
  · cases out <;> (simp only [beq_dec, bne_dec, hm, if_true, if_false]; try simp)
theorem rend3_eq : rend_3 ce cw cr cf up run nxt out since well now = pend_3 ce cw cr cf up run nxt out since well now := by
  unfold rend_3 pend_3
  simp only [errs_eq]
  by_cases hm : may_0 ce cw cr cf now = 0 <;> cases out <;> (simp only [beq_dec, bne_dec, hm, if_true, if_false]; try simp)
theorem rend4_eq : rend_4 ce cw cr cf up run nxt out since well now = pend_4 ce cw cr cf up run nxt out since well now := by
  unfold rend_4 pend_4
  simp only [errs_eq]
  by_cases hm : may_0 ce cw cr cf now = 0 <;> cases out <;> (simp only [beq_dec, bne_dec, hm, if_true, if_false]; try simp)
theorem rend5_eq : rend_5 ce cw cr cf up run nxt out since well now = pend_5 ce cw cr cf up run nxt out since well now := by
  unfold rend_5 pend_5
  simp only [errs_eq]
  by_cases hm : may_0 ce cw cr cf now = 0 <;> cases out <;> (simp only [beq_dec, bne_dec, hm, if_true, if_false]; try simp)
theorem rlate_eq (h1 : -1152921504606846976 ≤ since ∧ since ≤ 1152921504606846976) (h2 : -1152921504606846976 ≤ now ∧ now ≤ 1152921504606846976) : rlate_0 ce cw cr cf up run nxt out since now = late_0 ce cw cr cf up run nxt out since now := by
  unfold rlate_0 late_0
  rw [rcheck_eq, check_val]
  simp only [Bool.cond_decide]
  by_cases hc : (1 ≤ ce ∧ ce ≤ 253402300799) ∧ (1 ≤ cw ∧ cw ≤ 253402300799) ∧ (1 ≤ cr ∧ cr ≤ 1048576) ∧ 1 ≤ cf ∧ cf ≤ 1048576
  · rw [v64 (n := now - since) (by omega), v64 (n := now - cw) (by omega)]
    have e : (since ≤ now - cw) ↔ (now ≥ since ∧ now - since ≥ cw) := by omega
    cases out <;> by_cases h3 : now ≥ since <;> by_cases h4 : now - since ≥ cw <;> simp [hc, e, h3, h4]
  · simp [hc]
end Go.Proofs.Ytbmgigbcilgieaa
