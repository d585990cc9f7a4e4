/- Weigh: picks among all, in plain words: as many as the weights add up to pick each as often as its weight. -/
import Derived.Test.YtbjfckcgpbejkaaP9
import Derived.Test.YtbjfckcgpbejkaaU4
namespace Go.Proofs.Ytbjfckcgpbejkaa
open Go.RowKit
set_option linter.unusedSectionVars false
set_option linter.unusedSimpArgs false
set_option linter.unusedVariables false
theorem iota_at {n x : Nat} (h : x < n) : (iotaE n).getD x 0 = (x : Int) := by
  unfold iotaE
  rw [List.getD_eq_getElem?_getD, List.getElem?_map, List.getElem?_range h]; rfl
theorem pk_s {ns gs ls : List Int} (x : Nat) : (pkSt ns gs ls (x + 1)).2.1 = (pkSt ns gs ls x).2.1 + ns.getD (ls.getD x 0).toNat 0 := rfl
theorem pk_b {ns gs ls : List Int} (x : Nat) : (pkSt ns gs ls (x + 1)).2.2 = bif decide ((pkSt ns gs ls (x + 1)).1.getD (ls.getD x 0).toNat 0 > (pkSt ns gs ls (x + 1)).1.getD (pkSt ns gs ls x).2.2.toNat 0) then ls.getD x 0 else (pkSt ns gs ls x).2.2 := rfl
theorem pa_at {ns g : List Int} {n : Nat} (hg : g.length = n) : ∀ x, x ≤ n → ∀ j, (pkSt ns g (iotaE n) x).1.getD j 0 = if j < x then g.getD j 0 + ns.getD j 0 else g.getD j 0
  | 0, _, j => by simp [pkSt]
  | x + 1, hx, j => by
    have ih := pa_at (ns := ns) hg x (by omega)
    simp only [pkSt, iota_at (show x < n by omega), Int.toNat_natCast]
    by_cases hj : x = j
    · subst hj
      rw [getD_set_eq (by rw [pk_len]; omega), ih x, if_neg (Nat.lt_irrefl x), if_pos (Nat.lt_succ_self x)]
    · rw [getD_set_ne hj, ih j]
      by_cases h : j < x
      · rw [if_pos h, if_pos (by omega)]
      · rw [if_neg h, if_neg (by omega)]
theorem pa_sum {ns g : List Int} {n : Nat} : ∀ x, x ≤ n → (pkSt ns g (iotaE n) x).2.1 = sumU ns x
  | 0, _ => rfl
  | x + 1, hx => by
    rw [pk_s, pa_sum x (by omega), iota_at (show x < n by omega), Int.toNat_natCast]; rfl
theorem pa_best {ns g : List Int} {n : Nat} (hg : g.length = n) (hp : 0 < n) : ∀ x, x < n → ∃ b : Nat, b ≤ x ∧ (pkSt ns g (iotaE n) (x + 1)).2.2 = (b : Int) ∧ ∀ j, j ≤ x → g.getD j 0 + ns.getD j 0 ≤ g.getD b 0 + ns.getD b 0
  | 0, _ => by
    refine ⟨0, Nat.le_refl _, ?_, fun j hj => by rw [show j = 0 by omega]; exact Int.le_refl _⟩
    simp only [pkSt, iota_at hp]
    cases decide ((g.set ((0 : Nat) : Int).toNat (g.getD ((0 : Nat) : Int).toNat 0 + ns.getD ((0 : Nat) : Int).toNat 0)).getD ((0 : Nat) : Int).toNat 0 > (g.set ((0 : Nat) : Int).toNat (g.getD ((0 : Nat) : Int).toNat 0 + ns.getD ((0 : Nat) : Int).toNat 0)).getD ((0 : Nat) : Int).toNat 0) <;> rfl
  | x + 1, hx => by
    obtain ⟨b, h1, h2, h3⟩ := pa_best (ns := ns) hg hp x (by omega)
    have e : (pkSt ns g (iotaE n) (x + 1 + 1)).2.2 = bif decide ((pkSt ns g (iotaE n) (x + 1 + 1)).1.getD (x + 1) 0 > (pkSt ns g (iotaE n) (x + 1 + 1)).1.getD b 0) then ((x + 1 : Nat) : Int) else (b : Int) := by
      rw [pk_b, iota_at hx, h2, Int.toNat_natCast, Int.toNat_natCast]
    rw [e, pa_at hg (x + 1 + 1) (by omega), pa_at hg (x + 1 + 1) (by omega), if_pos (by omega), if_pos (by omega)]
    by_cases hc : g.getD (x + 1) 0 + ns.getD (x + 1) 0 > g.getD b 0 + ns.getD b 0
    · rw [decide_eq_true hc]
      refine ⟨x + 1, Nat.le_refl _, rfl, fun j hj => ?_⟩
      by_cases hjx : j = x + 1
      · rw [hjx]; exact Int.le_refl _
      · have := h3 j (by omega); omega
    · rw [decide_eq_false hc]
      refine ⟨b, by omega, rfl, fun j hj => ?_⟩
      by_cases hjx : j = x + 1
      · rw [hjx]; omega
      · exact h3 j (by omega)
/-- What each has gathered, which one is picked, how often each was, behind so many picks among all. -/
def gT (ns : List Int) (n : Nat) : Nat → List Int
  | 0 => List.replicate n 0
  | t + 1 => pkG ns (gT ns n t) (iotaE n)
def bT (ns : List Int) (n t : Nat) : Int := pkB ns (gT ns n t) (iotaE n)
def mT (ns : List Int) (n : Nat) : Nat → List Int
  | 0 => List.replicate n 0
  | t + 1 => (mT ns n t).set (bT ns n t).toNat (IntKind.i64.wrap ((mT ns n t).getD (bT ns n t).toNat 0 + 1))
theorem rep_at (n j : Nat) : (List.replicate n (0 : Int)).getD j 0 = 0 := by
  rw [List.getD_eq_getElem?_getD, List.getElem?_replicate]
  split <;> rfl
theorem gT_len {ns : List Int} {n : Nat} : ∀ t, (gT ns n t).length = n
  | 0 => by simp [gT]
  | t + 1 => by simp only [gT, pkG_len]; exact gT_len t
theorem mT_len {ns : List Int} {n : Nat} : ∀ t, (mT ns n t).length = n
  | 0 => by simp [mT]
  | t + 1 => by simp only [mT, List.length_set]; exact mT_len t
theorem sum_le0 : ∀ (l : List Int), (∀ j, j < l.length → l.getD j 0 ≤ 0) → l.sum ≤ 0
  | [], _ => by simp
  | a :: t, h => by
    have h0 := h 0 (by simp)
    have h1 := sum_le0 t (fun j hj => by have := h (j + 1) (by simpa using hj); simpa using this)
    simp at h0
    simp; omega
theorem sum_eq_le : ∀ (a b : List Int), a.length = b.length → (∀ j, j < a.length → a.getD j 0 ≤ b.getD j 0) → a.sum ≤ b.sum ∧ (a.sum = b.sum → ∀ j, j < a.length → a.getD j 0 = b.getD j 0)
  | [], [], _, _ => ⟨Int.le_refl _, fun _ j hj => absurd hj (Nat.not_lt_zero j)⟩
  | [], _ :: _, h, _ => by simp at h
  | _ :: _, [], h, _ => by simp at h
  | x :: a, y :: b, h, hl => by
    have h0 := hl 0 (by simp)
    simp at h0
    obtain ⟨h1, h2⟩ := sum_eq_le a b (by simpa using h) (fun j hj => by have := hl (j + 1) (by simpa using hj); simpa using this)
    refine ⟨by simp; omega, fun he j hj => ?_⟩
    simp at he
    cases j with
    | zero => simp; omega
    | succ j => simpa using h2 (by omega) j (by simpa using hj)
theorem pkG_all {ns g : List Int} {n : Nat} (hn : ns.length = n) (hg : g.length = n) (hp : 0 < n) : ∃ b : Nat, b < n ∧ pkB ns g (iotaE n) = (b : Int) ∧ (∀ j, j < n → g.getD j 0 + ns.getD j 0 ≤ g.getD b 0 + ns.getD b 0) ∧ ∀ j, j < n → (pkG ns g (iotaE n)).getD j 0 = if j = b then g.getD j 0 + ns.getD j 0 - ns.sum else g.getD j 0 + ns.getD j 0 := by
  obtain ⟨b, h1, h2, h3⟩ := pa_best (ns := ns) hg hp (n - 1) (by omega)
  rw [show n - 1 + 1 = n by omega] at h2
  have hS : sumU ns n = ns.sum := by rw [← hn]; exact sumU_all ns
  refine ⟨b, by omega, by unfold pkB; rw [iota_len]; exact h2, fun j hj => h3 j (by omega), fun j hj => ?_⟩
  unfold pkG
  rw [iota_len, h2, Int.toNat_natCast, pa_sum n (Nat.le_refl _), hS]
  by_cases hjb : j = b
  · rw [if_pos hjb, hjb, getD_set_eq (by rw [pk_len]; omega), pa_at hg n (Nat.le_refl _), if_pos (by omega)]
  · rw [if_neg hjb, getD_set_ne (fun h => hjb h.symm), pa_at hg n (Nat.le_refl _), if_pos hj]
/-- The invariant. -/
structure WI (ns : List Int) (n t : Nat) : Prop where
  eq : ∀ j, j < n → (gT ns n t).getD j 0 = ns.getD j 0 * t - ns.sum * (mT ns n t).getD j 0
  lo : ∀ j, j < n → -ns.sum < (gT ns n t).getD j 0
  m0 : ∀ j, 0 ≤ (mT ns n t).getD j 0 ∧ (mT ns n t).getD j 0 ≤ t
  su : (gT ns n t).sum = 0
  ms : (mT ns n t).sum = t
theorem wi {ns : List Int} {n : Nat} (hn : ns.length = n) (hp : 0 < n) (hw : ∀ j, j < n → 1 ≤ ns.getD j 0) (hS : 0 < ns.sum) : ∀ t : Nat, t ≤ 1000000 → WI ns n t
  | 0, _ => by
    refine ⟨fun j hj => ?_, fun j hj => ?_, fun j => ?_, by simp [gT], by simp [mT]⟩
    · simp only [gT, mT, rep_at]; simp
    · simp only [gT, rep_at]; omega
    · simp only [mT, rep_at]; simp
  | t + 1, ht => by
    obtain ⟨i1, i2, i3, i4, i5⟩ := wi hn hp hw hS t (by omega)
    obtain ⟨b, hb, hbb, hmax, hG⟩ := pkG_all hn (gT_len (ns := ns) (n := n) t) hp
    have hbT : bT ns n t = (b : Int) := hbb
    have hmb := i3 b
    have hm : ∀ j, (mT ns n (t + 1)).getD j 0 = if j = b then (mT ns n t).getD j 0 + 1 else (mT ns n t).getD j 0 := by
      intro j
      simp only [mT, hbT, Int.toNat_natCast]
      rw [w64 (by omega)]
      by_cases hj : j = b
      · rw [if_pos hj, hj, getD_set_eq (by rw [mT_len]; exact hb)]
      · rw [if_neg hj, getD_set_ne (fun h => hj h.symm)]
    have hpos : 0 < (gT ns n t).getD b 0 + ns.getD b 0 := by
      by_cases h : 0 < (gT ns n t).getD b 0 + ns.getD b 0
      · exact h
      · exfalso
        have h1 := sum_le0 (pkSt ns (gT ns n t) (iotaE n) n).1 (fun j hj => by
          rw [pk_len, gT_len] at hj
          rw [pa_at (gT_len t) n (Nat.le_refl _), if_pos hj]
          have := hmax j hj; omega)
        have h2 := pk_sum (ns := ns) (gs := gT ns n t) (ls := iotaE n) (fun x hx => by rw [iota_len] at hx; rw [iota_at hx, Int.toNat_natCast, gT_len]; exact hx) n (by rw [iota_len]; exact Nat.le_refl _)
        rw [h2, pa_sum n (Nat.le_refl _), i4, ← hn, sumU_all] at h1
        omega
    refine ⟨fun j hj => ?_, fun j hj => ?_, fun j => ?_, ?_, ?_⟩
    · show (pkG ns (gT ns n t) (iotaE n)).getD j 0 = _
      rw [hG j hj, hm j, i1 j hj]
      have e1 : ns.getD j 0 * ((t + 1 : Nat) : Int) = ns.getD j 0 * t + ns.getD j 0 := by rw [Int.natCast_add, Int.mul_add]; simp
      by_cases hjb : j = b
      · rw [if_pos hjb, if_pos hjb, e1, Int.mul_add, Int.mul_one]; omega
      · rw [if_neg hjb, if_neg hjb, e1]; omega
    · show -ns.sum < (pkG ns (gT ns n t) (iotaE n)).getD j 0
      rw [hG j hj]
      have h1 := i2 j hj
      have h2 := hw j hj
      by_cases hjb : j = b
      · rw [if_pos hjb, hjb]; omega
      · rw [if_neg hjb]; omega
    · rw [hm j]
      have := i3 j
      split <;> omega
    · show (pkG ns (gT ns n t) (iotaE n)).sum = 0
      rw [pkG_sum (by rw [iota_len]; exact hp) (fun x hx => by rw [iota_len] at hx; rw [iota_at hx, Int.toNat_natCast, gT_len]; exact hx)]
      exact i4
    · simp only [mT, hbT, Int.toNat_natCast]
      rw [sum_set _ _ _ (by rw [mT_len]; exact hb), w64 (by omega), i5]
      omega
/-- As many picks as the weights add up to. -/
theorem wi_end {ns : List Int} {n T : Nat} (hn : ns.length = n) (hp : 0 < n) (hw : ∀ j, j < n → 1 ≤ ns.getD j 0) (hT : (T : Int) = ns.sum) (hTp : 0 < T) (hT1 : T ≤ 1000000) : (∀ j, j < n → (mT ns n T).getD j 0 = ns.getD j 0) ∧ gT ns n T = List.replicate n 0 := by
  obtain ⟨i1, i2, i3, i4, i5⟩ := wi hn hp hw (by omega) T hT1
  have hle : ∀ j, j < n → (mT ns n T).getD j 0 ≤ ns.getD j 0 := by
    intro j hj
    have h1 := i1 j hj
    have h2 := i2 j hj
    rw [h1, ← hT, Int.mul_comm, ← Int.mul_sub] at h2
    by_cases h : (mT ns n T).getD j 0 ≤ ns.getD j 0
    · exact h
    · exfalso
      have h3 : ns.getD j 0 - (mT ns n T).getD j 0 ≤ -1 := by omega
      have h4 := Int.mul_le_mul_of_nonneg_left h3 (show (0 : Int) ≤ T by omega)
      omega
  have heq := (sum_eq_le (mT ns n T) ns (by rw [mT_len, hn]) (fun j hj => hle j (by rwa [mT_len] at hj))).2 (by rw [i5, hT])
  have hm : ∀ j, j < n → (mT ns n T).getD j 0 = ns.getD j 0 := fun j hj => heq j (by rw [mT_len]; exact hj)
  refine ⟨hm, ?_⟩
  apply List.ext_getElem (by rw [gT_len]; simp)
  intro j h1 h2
  rw [gT_len] at h1
  have h3 := i1 j h1
  rw [hm j h1, ← hT, Int.mul_comm, Int.sub_self, List.getD_eq_getElem?_getD, List.getElem?_eq_getElem (by rw [gT_len]; exact h1)] at h3
  simp only [Option.getD_some] at h3
  rw [h3]; simp
end Go.Proofs.Ytbjfckcgpbejkaa
