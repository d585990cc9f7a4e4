/- Weigh: whole numbers as floats: their order, that they are weights. -/
import Derived.Test.YtbjfckcgpbejkaaV4
namespace Go.Proofs.Ytbjfckcgpbejkaa
open Go.RowKit Ieee
set_option linter.unusedSimpArgs false
set_option linter.unusedVariables false
def mag (m : Nat) : Nat := if m = 0 then 0 else (m.log2 + 1022) * 4503599627370496 + m * 2 ^ (52 - m.log2)
theorem word_eq (s : Bool) (w : Nat) : double.word s w = (if s then 9223372036854775808 else 0) + w := by
  have hS : double.signWeight = 9223372036854775808 := by decide
  unfold Format.word; rw [hS]; cases s <;> simp
theorem wordOf_mag (s : Bool) (m : Nat) : wordOf s m = (if s then 9223372036854775808 else 0) + mag m := by
  unfold wordOf mag
  split
  · exact word_eq s 0
  · rw [word_eq]
theorem mag_mid {m : Nat} (h0 : m ≠ 0) (h : m < 2 ^ 53) : 4503599627370496 ≤ m * 2 ^ (52 - m.log2) ∧ m * 2 ^ (52 - m.log2) < 9007199254740992 := by
  have hl := log2_le h
  obtain ⟨p1, p2⟩ := pow_log2 h0
  constructor
  · calc (4503599627370496 : Nat) = 2 ^ m.log2 * 2 ^ (52 - m.log2) := by rw [← Nat.pow_add, show m.log2 + (52 - m.log2) = 52 by omega]
      _ ≤ m * 2 ^ (52 - m.log2) := Nat.mul_le_mul_right _ p1
  · calc m * 2 ^ (52 - m.log2) < 2 ^ (m.log2 + 1) * 2 ^ (52 - m.log2) := Nat.mul_lt_mul_of_pos_right p2 (Nat.two_pow_pos _)
      _ = 9007199254740992 := by rw [← Nat.pow_add, show m.log2 + 1 + (52 - m.log2) = 53 by omega]
theorem mag_lt {m n : Nat} (hmn : m < n) (hn : n < 2 ^ 53) : mag m < mag n := by
  have h2 := mag_mid (show n ≠ 0 by omega) hn
  unfold mag
  rw [if_neg (show n ≠ 0 by omega)]
  by_cases h0 : m = 0
  · rw [if_pos h0]; omega
  · rw [if_neg h0]
    have h1 := mag_mid h0 (by omega)
    have hle : m.log2 ≤ n.log2 := by
      have p1 := (pow_log2 h0).1
      have p2 := (pow_log2 (show n ≠ 0 by omega)).2
      have h5 : (2 : Nat) ^ m.log2 < 2 ^ (n.log2 + 1) := by omega
      have := (Nat.pow_lt_pow_iff_right (by decide : 1 < 2)).1 h5
      omega
    by_cases he : m.log2 = n.log2
    · rw [he]
      have := Nat.mul_lt_mul_of_pos_right hmn (Nat.two_pow_pos (52 - n.log2))
      omega
    · omega
theorem mag_top {m : Nat} (h : m < 2 ^ 53) : mag m < 9223372036854775808 := by
  unfold mag
  split
  · decide
  · rename_i h0
    have h1 := mag_mid h0 h
    have := log2_le h
    omega
theorem rank_enc {A : Int} (h : A.natAbs < 2 ^ 53) : rankE (encI A) = if A < 0 then 9223372036854775807 - (mag A.natAbs : Int) else (mag A.natAbs : Int) + 9223372036854775808 := by
  have ht := mag_top h
  unfold encI
  rw [wordOf_mag]
  unfold rankE
  by_cases hA : A < 0
  · rw [decide_eq_true hA, if_pos hA]
    simp only [if_true]
    rw [if_neg (by omega)]; omega
  · rw [decide_eq_false hA, if_neg hA]
    simp only [Bool.false_eq_true, if_false, Nat.zero_add]
    rw [if_pos ht]
theorem enc_top {A : Int} (h : A.natAbs < 2 ^ 53) : encI A < 18446744073709551616 := by
  have ht := mag_top h
  unfold encI
  rw [wordOf_mag]
  split <;> omega
theorem rank_lt {A B : Int} (hA : A.natAbs < 2 ^ 53) (hB : B.natAbs < 2 ^ 53) (h : A < B) : rankE (encI A) < rankE (encI B) := by
  rw [rank_enc hA, rank_enc hB]
  by_cases a : A < 0
  · by_cases b : B < 0
    · rw [if_pos a, if_pos b]
      have := mag_lt (show B.natAbs < A.natAbs by omega) hA
      omega
    · rw [if_pos a, if_neg b]; omega
  · rw [if_neg a, if_neg (show ¬ B < 0 by omega)]
    have := mag_lt (show A.natAbs < B.natAbs by omega) hB
    omega
theorem cmp_enc {A B : Int} (hA : A.natAbs < 2 ^ 53) (hB : B.natAbs < 2 ^ 53) : cmpE (encI A) (encI B) = if A < B then -1 else if A > B then 1 else 0 := by
  unfold cmpE
  by_cases h : A < B
  · rw [if_pos h, if_pos (rank_lt hA hB h)]
  · by_cases h2 : A > B
    · have := rank_lt hB hA h2
      rw [if_neg (by omega), if_pos this, if_neg h, if_pos h2]
    · have e : A = B := by omega
      subst e
      rw [if_neg (by omega), if_neg (by omega), if_neg h, if_neg h2]
theorem enc_inj {A B : Int} (hA : A.natAbs < 2 ^ 53) (hB : B.natAbs < 2 ^ 53) (h : encI A = encI B) : A = B := by
  by_cases h1 : A < B
  · have := rank_lt hA hB h1; rw [h] at this; omega
  · by_cases h2 : B < A
    · have := rank_lt hB hA h2; rw [h] at this; omega
    · omega
theorem check_enc : ∀ n : Nat, n < 41 → 1 ≤ n → checkW (encI n) = 0 := by decide
end Go.Proofs.Ytbjfckcgpbejkaa
