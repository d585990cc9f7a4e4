/- Eject: what configurations may be, in plain words. -/
import Derived.Test.YtadpnamooajpoaaS2
namespace Go.Proofs.Ytadpnamooajpoaa
open Go.RowKit
set_option linter.unusedVariables false
structure ConfOK (cf cb cm cp : Int) : Prop where
  f1 : 1 ≤ cf
  f2 : cf ≤ 1048576
  b1 : 1 ≤ cb
  b2 : cb ≤ 253402300799
  m1 : cb ≤ cm
  m2 : cm ≤ 253402300799
  p1 : 0 ≤ cp
  p2 : cp ≤ 100
theorem check_ok {cf cb cm cp : Int} (h : check_0 cf cb cm cp = 0) : ConfOK cf cb cm cp := by
  unfold check_0 at h
  simp only [cond_eq_ite, decide_eq_true_eq] at h
  repeat' split at h
  all_goals exact ⟨by omega, by omega, by omega, by omega, by omega, by omega, by omega, by omega⟩
theorem check_of {cf cb cm cp : Int} (h : ConfOK cf cb cm cp) : check_0 cf cb cm cp = 0 := by
  obtain ⟨h1, h2, h3, h4, h5, h6, h7, h8⟩ := h
  unfold check_0
  simp only [cond_eq_ite, decide_eq_true_eq]
  rw [if_neg (by omega), if_neg (by omega), if_neg (by omega), if_neg (by omega), if_neg (by omega), if_neg (by omega), if_neg (by omega), if_neg (by omega)]
theorem check_ne {cf cb cm cp : Int} (h : (check_0 cf cb cm cp != 0) = false) : ConfOK cf cb cm cp := check_ok (by simpa using h)
theorem may_ok {cf cb cm cp now : Int} (h : (may_0 cf cb cm cp now != 0) = false) : ConfOK cf cb cm cp ∧ 0 ≤ now ∧ now ≤ 253402300799 := by
  have h : may_0 cf cb cm cp now = 0 := by simpa using h
  unfold may_0 at h
  simp only [cond_eq_ite, decide_eq_true_eq] at h
  split at h
  · rename_i h2; rw [h] at h2; simp at h2
  · rename_i h2
    have h3 := check_ne (by simpa using h2)
    repeat' split at h
    all_goals exact ⟨h3, by omega, by omega⟩
theorem may_of {cf cb cm cp now : Int} (h : ConfOK cf cb cm cp) (h1 : 0 ≤ now) (h2 : now ≤ 253402300799) : may_0 cf cb cm cp now = 0 := by
  unfold may_0
  rw [check_of h]
  simp only [cond_eq_ite, decide_eq_true_eq]
  rw [if_neg (by simp), if_neg (by omega), if_neg (by omega)]
end Go.Proofs.Ytadpnamooajpoaa
