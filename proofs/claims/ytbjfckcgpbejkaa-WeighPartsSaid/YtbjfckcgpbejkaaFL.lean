/- Whole numbers as floats: sums are exact below 2 ^ 53. -/
import Ieee.Arith
namespace Go.Proofs.Ytbjfckcgpbejkaa
open Ieee
set_option linter.unusedVariables false
theorem log2_le {m : Nat} (h : m < 2 ^ 53) : m.log2 ≤ 52 := by
  by_cases h0 : m = 0
  · subst h0; decide
  · have := (Nat.log2_lt h0).2 h; omega
theorem pow_log2 {m : Nat} (h0 : m ≠ 0) : 2 ^ m.log2 ≤ m ∧ m < 2 ^ (m.log2 + 1) := ⟨Nat.log2_self_le h0, Nat.lt_log2_self⟩
theorem cut_exact (s : Bool) (M d : Nat) (hM : d ≤ (M * 2 ^ d).log2 + 2) : Toward.even.cut s (M * 2 ^ d) d = M := by
  unfold Toward.cut
  rw [Nat.min_eq_left hM, Nat.one_shiftLeft]
  have hp : 0 < 2 ^ d := Nat.two_pow_pos d
  simp only [Nat.mul_div_cancel _ hp, Nat.mul_mod_left, Nat.mul_zero]
  rw [show decide (2 ^ d < 0) = false from decide_eq_false (by omega), show ((2 ^ d : Nat) == 0) = false by rw [beq_eq_false_iff_ne]; omega]
  rfl
/-- The word of a whole number. -/
def wordOf (s : Bool) (m : Nat) : Nat := if m = 0 then double.word s 0 else double.word s ((m.log2 + 1022) * 2 ^ 52 + m * 2 ^ (52 - m.log2))
theorem log2_mul_pow {m : Nat} (h0 : m ≠ 0) (k : Nat) : (m * 2 ^ k).log2 = m.log2 + k := by
  obtain ⟨h1, h2⟩ := pow_log2 h0
  have hp : 0 < 2 ^ k := Nat.two_pow_pos k
  refine (Nat.log2_eq_iff (by exact Nat.mul_ne_zero h0 (by omega))).2 ⟨?_, ?_⟩
  · rw [Nat.pow_add]; exact Nat.mul_le_mul_right _ h1
  · rw [show m.log2 + k + 1 = m.log2 + 1 + k by omega, Nat.pow_add]; exact Nat.mul_lt_mul_of_pos_right h2 hp
theorem nearest_int (s : Bool) {m k : Nat} (hm : m < 2 ^ 53) (hk : k ≤ 1074) : double.nearest s (m * 2 ^ k) (-(k : Int)) = wordOf s m := by
  unfold Format.nearest wordOf
  by_cases h0 : m = 0
  · subst h0; simp
  · have hl := log2_le hm
    have hne : m * 2 ^ k ≠ 0 := Nat.mul_ne_zero h0 (by have := Nat.two_pow_pos k; omega)
    rw [if_neg h0, if_neg hne, log2_mul_pow h0]
    have hlast : max (-(k : Int) + ((m.log2 + k : Nat) : Int) - (double.fractionBits : Int)) double.leastPlace = (m.log2 : Int) - 52 := by
      show max (-(k : Int) + ((m.log2 + k : Nat) : Int) - 52) (-1074) = _
      omega
    simp only [hlast]
    have hkept : Toward.even.cut s ((m * 2 ^ k) <<< (-(k : Int) - ((m.log2 : Int) - 52)).toNat) ((m.log2 : Int) - 52 - -(k : Int)).toNat = m * 2 ^ (52 - m.log2) := by
      by_cases hd : m.log2 + k ≤ 52
      · rw [show ((m.log2 : Int) - 52 - -(k : Int)).toNat = 0 by omega, show (-(k : Int) - ((m.log2 : Int) - 52)).toNat = 52 - m.log2 - k by omega, Nat.shiftLeft_eq, Nat.mul_assoc, ← Nat.pow_add, show k + (52 - m.log2 - k) = 52 - m.log2 by omega]
        have := cut_exact s (m * 2 ^ (52 - m.log2)) 0 (Nat.zero_le _)
        rwa [Nat.pow_zero, Nat.mul_one] at this
      · rw [show ((m.log2 : Int) - 52 - -(k : Int)).toNat = m.log2 + k - 52 by omega, show (-(k : Int) - ((m.log2 : Int) - 52)).toNat = 0 by omega, Nat.shiftLeft_zero]
        have e : m * 2 ^ k = m * 2 ^ (52 - m.log2) * 2 ^ (m.log2 + k - 52) := by rw [Nat.mul_assoc, ← Nat.pow_add, show 52 - m.log2 + (m.log2 + k - 52) = k by omega]
        rw [e]
        refine cut_exact s _ _ ?_
        rw [← e, log2_mul_pow h0]; omega
    rw [hkept]
    have h1 : (((m.log2 : Int) - 52) - double.leastPlace).toNat = m.log2 + 1022 := by
      show (((m.log2 : Int) - 52) - (-1074)).toNat = _
      omega
    rw [h1]
    obtain ⟨p1, p2⟩ := pow_log2 h0
    have hup : m * 2 ^ (52 - m.log2) < 2 ^ 53 := by
      calc m * 2 ^ (52 - m.log2) < 2 ^ (m.log2 + 1) * 2 ^ (52 - m.log2) := Nat.mul_lt_mul_of_pos_right p2 (Nat.two_pow_pos _)
        _ = 2 ^ 53 := by rw [← Nat.pow_add, show m.log2 + 1 + (52 - m.log2) = 53 by omega]
    show double.word s (min ((m.log2 + 1022) * 2 ^ 52 + m * 2 ^ (52 - m.log2)) ((2 ^ 11 - 1) * 2 ^ 52)) = _
    rw [Nat.min_eq_left]
    have h3 : (m.log2 + 1022) * 2 ^ 52 ≤ 1074 * 2 ^ 52 := Nat.mul_le_mul_right _ (by omega)
    have h4 : (2 : Nat) ^ 53 = 2 * 2 ^ 52 := by rw [Nat.pow_succ, Nat.mul_comm]
    rw [h4] at hup
    rw [show (2 : Nat) ^ 11 - 1 = 2047 from rfl]
    revert h3 hup
    generalize (2 : Nat) ^ 52 = P
    generalize (m.log2 + 1022) * P = Q
    intro h3 hup
    omega
/-- What a whole number's word stands for. -/
theorem read_word (s : Bool) {m : Nat} (h0 : m ≠ 0) (hm : m < 2 ^ 53) : double.read (wordOf s m) = .number s (m * 2 ^ (52 - m.log2)) ((m.log2 : Int) - 52) := by
  have hl := log2_le hm
  obtain ⟨p1, p2⟩ := pow_log2 h0
  have hlo : 2 ^ 52 ≤ m * 2 ^ (52 - m.log2) := by
    calc (2 : Nat) ^ 52 = 2 ^ m.log2 * 2 ^ (52 - m.log2) := by rw [← Nat.pow_add, show m.log2 + (52 - m.log2) = 52 by omega]
      _ ≤ m * 2 ^ (52 - m.log2) := Nat.mul_le_mul_right _ p1
  have hup : m * 2 ^ (52 - m.log2) < 2 ^ 53 := by
    calc m * 2 ^ (52 - m.log2) < 2 ^ (m.log2 + 1) * 2 ^ (52 - m.log2) := Nat.mul_lt_mul_of_pos_right p2 (Nat.two_pow_pos _)
      _ = 2 ^ 53 := by rw [← Nat.pow_add, show m.log2 + 1 + (52 - m.log2) = 53 by omega]
  unfold wordOf
  rw [if_neg h0]
  revert hlo hup
  generalize m * 2 ^ (52 - m.log2) = K
  generalize m.log2 = l at hl
  intro hlo hup
  have hS : double.signWeight = 9223372036854775808 := by decide
  have hB : double.binade = 4503599627370496 := by decide
  have hI : double.infRung = 9218868437227405312 := by decide
  rw [show (2 : Nat) ^ 52 = 4503599627370496 from rfl] at hlo
  rw [show (2 : Nat) ^ 53 = 9007199254740992 from rfl] at hup
  have hr : (l + 1022) * 2 ^ 52 + K < 9223372036854775808 := by
    rw [show (2 : Nat) ^ 52 = 4503599627370496 from rfl]; omega
  have hw : double.word s ((l + 1022) * 2 ^ 52 + K) = (if s then 9223372036854775808 else 0) + ((l + 1022) * 2 ^ 52 + K) := by
    unfold Format.word; rw [hS]; cases s <;> simp
  rw [hw]
  unfold Format.read
  rw [hS, hB, hI]
  rw [show (2 : Nat) ^ 52 = 4503599627370496 from rfl] at hr ⊢
  have e1 : ((if s then 9223372036854775808 else 0) + ((l + 1022) * 4503599627370496 + K)) % 9223372036854775808 = (l + 1022) * 4503599627370496 + K := by
    cases s
    · simp only [Bool.false_eq_true, if_false, Nat.zero_add]; exact Nat.mod_eq_of_lt hr
    · simp only [if_true, Nat.add_mod_left]; exact Nat.mod_eq_of_lt hr
  have e2 : (((if s then 9223372036854775808 else 0) + ((l + 1022) * 4503599627370496 + K)) / 9223372036854775808 % 2 == 1) = s := by
    cases s
    · simp only [Bool.false_eq_true, if_false, Nat.zero_add]; rw [Nat.div_eq_of_lt hr]; rfl
    · simp only [if_true]; rw [Nat.add_div_left _ (by decide), Nat.div_eq_of_lt hr]; rfl
  simp only [e1, e2]
  rw [if_neg (by omega), if_pos (by omega)]
  have e3 : ((l + 1022) * 4503599627370496 + K) % 4503599627370496 = K - 4503599627370496 := by omega
  have e4 : ((l + 1022) * 4503599627370496 + K) / 4503599627370496 = l + 1023 := by omega
  rw [e3, e4, show double.leastPlace = -1074 from by decide]
  rw [show 4503599627370496 + (K - 4503599627370496) = K by omega, show (-1074 : Int) + ((l + 1023 - 1 : Nat) : Int) = (l : Int) - 52 by omega]
/-- The word of a whole number that may be less than 0. -/
def encI (A : Int) : Nat := wordOf (decide (A < 0)) A.natAbs
theorem nearest_enc {A : Int} (h : A.natAbs < 2 ^ 53) : double.write (.number (decide (A < 0)) A.natAbs 0) = encI A := by
  have := nearest_int (decide (A < 0)) h (Nat.zero_le 1074)
  rwa [Nat.pow_zero, Nat.mul_one] at this
theorem num_zero (k : Nat) : Datum.number (decide ((0 : Int) < 0)) (Int.natAbs 0 * 2 ^ k) (-(k : Int)) = .number false 0 (-(k : Int)) := by
  rw [Int.natAbs_zero, Nat.zero_mul]; rfl
theorem read_zero : double.read (encI 0) = .number false 0 (-((1074 : Nat) : Int)) := by decide
theorem read_enc {A : Int} (h : A.natAbs < 2 ^ 53) : ∃ k : Nat, k ≤ 1074 ∧ double.read (encI A) = .number (decide (A < 0)) (A.natAbs * 2 ^ k) (-(k : Int)) := by
  by_cases h0 : A = 0
  · subst h0
    obtain ⟨k, hk⟩ : ∃ k : Nat, k = 1074 := ⟨_, rfl⟩
    refine ⟨k, by omega, ?_⟩
    rw [num_zero k, hk]
    exact read_zero
  · have hne : A.natAbs ≠ 0 := by omega
    have hl := log2_le h
    refine ⟨52 - A.natAbs.log2, by omega, ?_⟩
    unfold encI
    rw [read_word _ hne h, show ((A.natAbs.log2 : Int) - 52) = -((52 - A.natAbs.log2 : Nat) : Int) by omega]
theorem signed_mul (A : Int) (k j : Nat) (h : k ≤ j) : signed (decide (A < 0)) (A.natAbs * 2 ^ k) (j - k) = A * 2 ^ j := by
  unfold signed
  rw [Nat.shiftLeft_eq, Nat.mul_assoc, ← Nat.pow_add, show k + (j - k) = j by omega]
  by_cases hA : A < 0
  · rw [if_pos (by simpa using hA), Int.natCast_mul, Int.natCast_pow, show ((A.natAbs : Nat) : Int) = -A by omega, Int.neg_mul, Int.neg_neg]; rfl
  · rw [if_neg (by simpa using hA), Int.natCast_mul, Int.natCast_pow, show ((A.natAbs : Nat) : Int) = A by omega]; rfl
theorem signed_any {B : Int} {s : Bool} (hs : B = 0 ∨ s = decide (B < 0)) (k j : Nat) (h : k ≤ j) : signed s (B.natAbs * 2 ^ k) (j - k) = B * 2 ^ j := by
  rcases hs with rfl | rfl
  · unfold signed; rw [Int.natAbs_zero, Nat.zero_mul, Nat.zero_shiftLeft, Int.zero_mul]; cases s <;> rfl
  · exact signed_mul B k j h
theorem sum_enc {A B : Int} {s : Bool} {k j : Nat} (hs : B = 0 ∨ s = decide (B < 0)) (hk : k ≤ 1074) (hj : j ≤ 1074) (h : (A + B).natAbs < 2 ^ 53) :
    ((Datum.number (decide (A < 0)) (A.natAbs * 2 ^ k) (-(k : Int))).sum (.number s (B.natAbs * 2 ^ j) (-(j : Int)))).map double.write = some (encI (A + B)) := by
  unfold Datum.sum
  simp only []
  obtain ⟨m, hm⟩ : ∃ m : Nat, m = max k j := ⟨_, rfl⟩
  have hb : min (-(k : Int)) (-(j : Int)) = -(m : Int) := by omega
  rw [hb, show (-(k : Int) - -(m : Int)).toNat = m - k by omega, show (-(j : Int) - -(m : Int)).toNat = m - j by omega, signed_mul A k m (by omega), signed_any hs j m (by omega), ← Int.add_mul]
  have hp : (0 : Int) < 2 ^ m := Int.pow_pos (by decide)
  have e1 : ((A + B) * 2 ^ m).natAbs = (A + B).natAbs * 2 ^ m := by rw [Int.natAbs_mul, Int.natAbs_pow]; rfl
  have e2 : (if (A + B) * 2 ^ m = 0 then decide (A < 0) && s else decide ((A + B) * 2 ^ m < 0)) = decide (A + B < 0) := by
    by_cases h0 : A + B = 0
    · rw [h0, Int.zero_mul, if_pos rfl]
      by_cases hA : A < 0
      · rcases hs with h1 | h1
        · omega
        · rw [h1, decide_eq_true hA, decide_eq_false (show ¬ B < 0 by omega)]; rfl
      · rw [decide_eq_false hA]; rfl
    · rw [if_neg (Int.mul_ne_zero h0 (by omega))]
      by_cases hn : A + B < 0
      · rw [decide_eq_true hn]; exact decide_eq_true (Int.mul_neg_of_neg_of_pos hn hp)
      · rw [decide_eq_false hn]; exact decide_eq_false (by have := Int.mul_nonneg (show 0 ≤ A + B by omega) (Int.le_of_lt hp); omega)
  rw [e1, e2]
  show some (double.nearest _ _ _) = _
  rw [nearest_int _ h (show m ≤ 1074 by omega)]
  rfl
theorem add_enc {A B : Int} (hA : A.natAbs < 2 ^ 53) (hB : B.natAbs < 2 ^ 53) (h : (A + B).natAbs < 2 ^ 53) : double.add (encI A) (encI B) = some (encI (A + B)) := by
  obtain ⟨k, hk, ek⟩ := read_enc hA
  obtain ⟨j, hj, ej⟩ := read_enc hB
  unfold Format.add
  rw [ek, ej]
  exact sum_enc (.inr rfl) hk hj h
theorem sub_enc {A B : Int} (hA : A.natAbs < 2 ^ 53) (hB : B.natAbs < 2 ^ 53) (h : (A - B).natAbs < 2 ^ 53) : double.sub (encI A) (encI B) = some (encI (A - B)) := by
  obtain ⟨k, hk, ek⟩ := read_enc hA
  obtain ⟨j, hj, ej⟩ := read_enc hB
  unfold Format.sub
  rw [ek, ej]
  have hs := sum_enc (A := A) (B := -B) (s := !decide (B < 0)) (k := k) (j := j) (by
    by_cases h0 : B = 0
    · exact .inl (by omega)
    · refine .inr ?_
      by_cases hn : B < 0
      · rw [decide_eq_true hn, decide_eq_false (show ¬ -B < 0 by omega)]; rfl
      · rw [decide_eq_false hn, decide_eq_true (show -B < 0 by omega)]; rfl) hk hj (by rwa [← Int.sub_eq_add_neg])
  rw [Int.natAbs_neg, ← Int.sub_eq_add_neg] at hs
  exact hs
end Go.Proofs.Ytbjfckcgpbejkaa
