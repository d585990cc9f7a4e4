/- Weigh: loads. -/
import Derived.Test.YtbjfckcgpbejkaaV2
namespace Go.Proofs.Ytbjfckcgpbejkaa
set_option linter.unusedSectionVars false
open Go.RowKit Ieee
set_option linter.unusedSimpArgs false
set_option linter.unusedVariables false
variable [Inhabited RawG]
/-- A weight that score.Check lets pass. -/
def validW (w : Nat) : Bool := (double.order w 4517110426252607488 == some Ordering.gt || double.order w 4517110426252607488 == some Ordering.eq) && (double.order w 4697254411347427328 == some Ordering.lt || double.order w 4697254411347427328 == some Ordering.eq)
theorem valid_num {w : Nat} (h : validW w = true) : ∃ t n j, double.read w = .number t n j ∧ n ≠ 0 := by
  unfold validW at h
  rw [Bool.and_eq_true] at h
  obtain ⟨h1, h2⟩ := h
  have e1 : double.read 4517110426252607488 = .number false 4503599627370496 (-72) := by decide
  have e2 : double.read 4697254411347427328 = .number false 4503599627370496 (-32) := by decide
  unfold Format.order at h1 h2
  rw [e1] at h1
  rw [e2] at h2
  cases hr : double.read w with
  | nan s f => rw [hr] at h1; unfold Datum.order at h1; cases h1
  | infinity s => rw [hr] at h1 h2; unfold Datum.order at h1 h2; cases s <;> simp at h1 h2
  | number t n j =>
    refine ⟨t, n, j, rfl, fun h0 => ?_⟩
    subst h0
    rw [hr] at h1
    unfold Datum.order at h1
    simp only [] at h1
    have hs : signed t 0 (j - min j (-72)).toNat = 0 := by unfold signed; rw [Nat.zero_shiftLeft]; cases t <;> rfl
    have hp : (0 : Int) < signed false 4503599627370496 ((-72) - min j (-72)).toNat := by
      unfold signed
      rw [if_neg (by decide), Nat.shiftLeft_eq]
      have := Nat.two_pow_pos ((-72) - min j (-72)).toNat
      have h3 : 0 < 4503599627370496 * 2 ^ ((-72) - min j (-72)).toNat := Nat.mul_pos (by decide) this
      omega
    rw [hs] at h1
    have hc : compare (0 : Int) (signed false 4503599627370496 ((-72) - min j (-72)).toNat) = Ordering.lt := by
      unfold compare; simp only [instOrdInt]; unfold compareOfLessAndEq; rw [if_pos hp]
    rw [hc] at h1
    cases h1
theorem div_some {n : Int} {w : Nat} (hn : n.natAbs < 2 ^ 53) (h : validW w = true) : ∃ r, double.div (encI n) w = some r ∧ r < 18446744073709551616 := by
  obtain ⟨t, m, j, e1, e2⟩ := valid_num h
  obtain ⟨k, _, e3⟩ := read_enc hn
  unfold Format.div
  rw [e1, e3]
  unfold Datum.quotient
  simp only []
  rw [if_neg e2]
  refine ⟨_, rfl, ?_⟩
  show double.nearest _ _ _ < _
  unfold Format.nearest
  have hw : ∀ (s : Bool) (x : Nat), x ≤ double.infRung → double.word s x < 18446744073709551616 := fun s x hx => by
    have hI : double.infRung = 9218868437227405312 := by decide
    have hS : double.signWeight = 9223372036854775808 := by decide
    unfold Format.word
    rw [hI] at hx
    rw [hS]
    cases s <;> simp <;> omega
  split
  · exact hw _ _ (Nat.zero_le _)
  · exact hw _ _ (Nat.min_le_right _ _)
def loadN (o : Int) : Int := (if o > 0 then o else 0) + 1
def loadE (o : Int) (w : Nat) : Nat := (double.div (encI (loadN o)) w).getD 0
theorem loadN_bd {o : Int} (h : o ≤ 1099511627776) : 1 ≤ loadN o ∧ loadN o ≤ 1099511627777 := by unfold loadN; split <;> omega
theorem load_div {o : Int} {w : Nat} (ho : o ≤ 1099511627776) (h : validW w = true) : double.div (encI (loadN o)) w = some (loadE o w) ∧ loadE o w < 18446744073709551616 := by
  have hb := loadN_bd ho
  obtain ⟨r, e, hr⟩ := div_some (n := loadN o) (by rw [show (2 : Nat) ^ 53 = 9007199254740992 from rfl]; omega) h
  unfold loadE
  rw [e]
  exact ⟨rfl, hr⟩
theorem nearest_E {n : Int} (h : n.natAbs < 2 ^ 53) : FloatKind.f64.nearest n = encI n := nearest_enc h
end Go.Proofs.Ytbjfckcgpbejkaa
