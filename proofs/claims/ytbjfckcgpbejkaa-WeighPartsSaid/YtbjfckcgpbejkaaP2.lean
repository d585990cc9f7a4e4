/- Weigh: what a pick does, in plain words. -/
import Derived.Test.YtbjfckcgpbejkaaP1
namespace Go.Proofs.Ytbjfckcgpbejkaa
open Go.RowKit
set_option linter.unusedSimpArgs false
set_option linter.unusedVariables false
/-- What each has gathered, the sum, the best one, behind the first so many places. -/
def pkSt (ns gs ls : List Int) : Nat → List Int × Int × Int
  | 0 => (gs, 0, ls.getD 0 0)
  | x + 1 =>
    let p := pkSt ns gs ls x
    let k := (ls.getD x 0).toNat
    let g := p.1.set k (p.1.getD k 0 + ns.getD k 0)
    (g, p.2.1 + ns.getD k 0, bif decide (g.getD k 0 > g.getD p.2.2.toNat 0) then ls.getD x 0 else p.2.2)
def pkG (ns gs ls : List Int) : List Int := (pkSt ns gs ls ls.length).1.set (pkSt ns gs ls ls.length).2.2.toNat ((pkSt ns gs ls ls.length).1.getD (pkSt ns gs ls ls.length).2.2.toNat 0 - (pkSt ns gs ls ls.length).2.1)
def pkB (ns gs ls : List Int) : Int := (pkSt ns gs ls ls.length).2.2
theorem getD_set_eq {l : List Int} {k : Nat} {v : Int} (h : k < l.length) : (l.set k v).getD k 0 = v := by simp [List.getD_eq_getElem?_getD, h]
theorem getD_set_ne {l : List Int} {k j : Nat} {v : Int} (h : k ≠ j) : (l.set k v).getD j 0 = l.getD j 0 := by simp [List.getD_eq_getElem?_getD, h]
theorem sum_set : ∀ (l : List Int) (k : Nat) (v : Int), k < l.length → (l.set k v).sum = l.sum - l.getD k 0 + v
  | [], k, v, h => absurd h (Nat.not_lt_zero k)
  | a :: t, 0, v, h => by simp; omega
  | a :: t, k + 1, v, h => by
    have := sum_set t k v (by simpa using h)
    simp only [List.set_cons_succ, List.sum_cons, List.getD_cons_succ, this]
    omega
theorem pk_len {ns gs ls : List Int} : ∀ x, (pkSt ns gs ls x).1.length = gs.length
  | 0 => rfl
  | x + 1 => by simp only [pkSt, List.length_set]; exact pk_len x
/-- Bounds. -/
theorem pk_bnd {ns gs ls : List Int} {A : Int} (hA : 0 ≤ A) (hg : ∀ j, -A ≤ gs.getD j 0 ∧ gs.getD j 0 ≤ A) (hn : ∀ j, 0 ≤ ns.getD j 0 ∧ ns.getD j 0 ≤ 40) : ∀ x : Nat, (∀ j, -A ≤ (pkSt ns gs ls x).1.getD j 0 ∧ (pkSt ns gs ls x).1.getD j 0 ≤ A + 40 * x) ∧ 0 ≤ (pkSt ns gs ls x).2.1 ∧ (pkSt ns gs ls x).2.1 ≤ 40 * x
  | 0 => by
    refine ⟨fun j => ?_, ?_, ?_⟩
    · have := hg j
      simp only [pkSt]; omega
    · simp only [pkSt]; omega
    · simp only [pkSt]; omega
  | x + 1 => by
    obtain ⟨h1, h2, h3⟩ := pk_bnd (ls := ls) hA hg hn x
    have hk := hn (ls.getD x 0).toNat
    refine ⟨fun j => ?_, ?_, ?_⟩
    · simp only [pkSt]
      by_cases hj : (ls.getD x 0).toNat = j
      · by_cases hl : j < (pkSt ns gs ls x).1.length
        · have := h1 j
          rw [hj, getD_set_eq hl]
          rw [hj] at hk
          omega
        · rw [List.set_eq_of_length_le (by omega)]
          have := h1 j; omega
      · rw [getD_set_ne hj]
        have := h1 j; omega
    · simp only [pkSt]; omega
    · simp only [pkSt]; omega
theorem pk_mem {ns gs ls : List Int} (hp : 0 < ls.length) : ∀ x, x ≤ ls.length → ∃ y, y < ls.length ∧ (pkSt ns gs ls x).2.2 = ls.getD y 0
  | 0, _ => ⟨0, hp, rfl⟩
  | x + 1, hx => by
    obtain ⟨y, h1, h2⟩ := pk_mem (ns := ns) (gs := gs) hp x (by omega)
    simp only [pkSt]
    cases decide (((pkSt ns gs ls x).1.set (ls.getD x 0).toNat ((pkSt ns gs ls x).1.getD (ls.getD x 0).toNat 0 + ns.getD (ls.getD x 0).toNat 0)).getD (ls.getD x 0).toNat 0 > ((pkSt ns gs ls x).1.set (ls.getD x 0).toNat ((pkSt ns gs ls x).1.getD (ls.getD x 0).toNat 0 + ns.getD (ls.getD x 0).toNat 0)).getD (pkSt ns gs ls x).2.2.toNat 0) with
    | true => exact ⟨x, by omega, rfl⟩
    | false => exact ⟨y, h1, h2⟩
theorem pk_sum {ns gs ls : List Int} (hr : ∀ x, x < ls.length → (ls.getD x 0).toNat < gs.length) : ∀ x, x ≤ ls.length → (pkSt ns gs ls x).1.sum = gs.sum + (pkSt ns gs ls x).2.1
  | 0, _ => by simp only [pkSt]; omega
  | x + 1, hx => by
    have ih := pk_sum (ns := ns) hr x (by omega)
    simp only [pkSt]
    rw [sum_set _ _ _ (by rw [pk_len]; exact hr x (by omega)), ih]
    omega
theorem pkG_sum {ns gs ls : List Int} (hp : 0 < ls.length) (hr : ∀ x, x < ls.length → (ls.getD x 0).toNat < gs.length) : (pkG ns gs ls).sum = gs.sum := by
  obtain ⟨y, h1, h2⟩ := pk_mem (ns := ns) (gs := gs) hp ls.length (Nat.le_refl _)
  unfold pkG
  rw [sum_set _ _ _ (by rw [pk_len, h2]; exact hr y h1), pk_sum hr _ (Nat.le_refl _)]
  omega
theorem pk_keep {ns gs ls : List Int} {j : Nat} (hj : ∀ y, y < ls.length → (ls.getD y 0).toNat ≠ j) : ∀ x, x ≤ ls.length → (pkSt ns gs ls x).1.getD j 0 = gs.getD j 0
  | 0, _ => rfl
  | x + 1, hx => by
    simp only [pkSt]
    rw [getD_set_ne (hj x (by omega))]
    exact pk_keep hj x (by omega)
theorem pkG_keep {ns gs ls : List Int} {j : Nat} (hp : 0 < ls.length) (hj : ∀ y, y < ls.length → (ls.getD y 0).toNat ≠ j) : (pkG ns gs ls).getD j 0 = gs.getD j 0 := by
  obtain ⟨y, h1, h2⟩ := pk_mem (ns := ns) (gs := gs) hp ls.length (Nat.le_refl _)
  unfold pkG
  rw [h2, getD_set_ne (hj y h1), pk_keep hj _ (Nat.le_refl _)]
theorem pkG_len {ns gs ls : List Int} : (pkG ns gs ls).length = gs.length := by unfold pkG; rw [List.length_set, pk_len]
theorem pkG_bnd {ns gs ls : List Int} {A : Int} {x : Nat} (hA : 0 ≤ A) (hg : ∀ j, -A ≤ gs.getD j 0 ∧ gs.getD j 0 ≤ A) (hn : ∀ j, 0 ≤ ns.getD j 0 ∧ ns.getD j 0 ≤ 40) (hx : ls.length ≤ x) (j : Nat) : -(A + 40 * x) ≤ (pkG ns gs ls).getD j 0 ∧ (pkG ns gs ls).getD j 0 ≤ A + 40 * x := by
  obtain ⟨h1, h2, h3⟩ := pk_bnd (ls := ls) hA hg hn ls.length
  unfold pkG
  by_cases hj : (pkSt ns gs ls ls.length).2.2.toNat = j
  · by_cases hl : j < (pkSt ns gs ls ls.length).1.length
    · have := h1 j
      rw [hj, getD_set_eq hl]
      omega
    · rw [List.set_eq_of_length_le (by omega)]
      have := h1 j; omega
  · rw [getD_set_ne hj]
    have := h1 j; omega
end Go.Proofs.Ytbjfckcgpbejkaa
