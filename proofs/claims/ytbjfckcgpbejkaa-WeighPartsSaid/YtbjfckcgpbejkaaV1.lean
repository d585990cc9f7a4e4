/- Weigh: floats by rank. -/
import Derived.Test.YtbjfckcgpbejkaaU4
import Derived.Test.YtbjfckcgpbejkaaHF
namespace Go.Proofs.Ytbjfckcgpbejkaa
set_option linter.unusedSectionVars false
open Go.RowKit
set_option linter.unusedSimpArgs false
set_option linter.unusedVariables false
variable [Inhabited RawG]
/-- A number whose order is that of floats. -/
def rankE (a : Nat) : Int := if a < 9223372036854775808 then (a : Int) + 9223372036854775808 else 18446744073709551615 - (a : Int)
def cmpE (a b : Nat) : Int := if rankE a < rankE b then -1 else if rankE a > rankE b then 1 else 0
theorem xor_top {a : Nat} (h : a < 2 ^ 63) : a ^^^ 2 ^ 63 = 2 ^ 63 + a := by
  refine Nat.eq_of_testBit_eq fun i => ?_
  rw [Nat.testBit_xor]
  rcases Nat.lt_trichotomy i 63 with hi | hi | hi
  · rw [Nat.testBit_two_pow_add_gt hi, Nat.testBit_two_pow, decide_eq_false (by omega)]
    cases a.testBit i <;> rfl
  · subst hi
    rw [Nat.testBit_two_pow_add_eq, Nat.testBit_two_pow]
    simp
  · have h1 : a.testBit i = false := Nat.testBit_lt_two_pow (Nat.lt_of_lt_of_le h (Nat.pow_le_pow_right (by decide) (by omega)))
    have h2 : (2 ^ 63 + a).testBit i = false := Nat.testBit_lt_two_pow (Nat.lt_of_lt_of_le (show 2 ^ 63 + a < 2 ^ 64 by omega) (Nat.pow_le_pow_right (by decide) (by omega)))
    rw [h1, h2, Nat.testBit_two_pow, decide_eq_false (by omega)]
    rfl
theorem u64_in {n : Int} (h : 0 ≤ n ∧ n < 18446744073709551616) : IntKind.u64.wrap n = n := by
  unfold IntKind.wrap
  simp [IntKind.signed, IntKind.bits]
  omega
theorem ofInt_nat (a : Nat) (h : a < 18446744073709551616) : (BitVec.ofInt 64 (a : Int)).toNat = a := by
  rw [BitVec.toNat_ofInt]
  omega
theorem rank_low {a : Nat} (h : a < 9223372036854775808) : IntKind.u64.wrap (((BitVec.ofInt 64 (a : Int) ^^^ BitVec.ofInt 64 9223372036854775808).toNat : Nat) : Int) = rankE a := by
  have e : (BitVec.ofInt 64 9223372036854775808).toNat = 2 ^ 63 := by decide
  rw [BitVec.toNat_xor, ofInt_nat a (by omega), e, xor_top (by omega)]
  unfold rankE
  rw [if_pos h, u64_in (by omega)]
  omega
theorem rank_high {a : Nat} (h : ¬ a < 9223372036854775808) (h2 : a < 18446744073709551616) : IntKind.u64.wrap (((BitVec.ofInt 64 (a : Int) ^^^ BitVec.ofInt 64 18446744073709551615).toNat : Nat) : Int) = rankE a := by
  have e : BitVec.ofInt 64 18446744073709551615 = BitVec.allOnes 64 := by decide
  rw [e, BitVec.xor_allOnes, BitVec.toNat_not, ofInt_nat a h2]
  unfold rankE
  rw [if_neg h, u64_in (by omega)]
  omega
end Go.Proofs.Ytbjfckcgpbejkaa
