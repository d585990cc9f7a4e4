import Derived.Test.YtbmgigbcilgieaaJ
namespace Go.Proofs.Ytbmgigbcilgieaa
open Go.RowKit
/-- What the law knows behind i results. -/
structure TI (c : PC) (l : List Bool) (i : Nat) (up : Bool) (fr : Nat) : Prop where
  up_ : (foldP c (l.take i)).up = up
  le : fr ≤ i
  run : ∃ r : Nat, (foldP c (l.take i)).run = r ∧ r ≤ i - fr ∧ (r : Int) < limOf c up ∧ (∀ j, j < r → l[i - 1 - j]? = some (!up)) ∧ (r < i - fr → l[i - 1 - r]? = some up)
theorem TI.zero {c : PC} {l : List Bool} (h : chkB c = true) : TI c l 0 true 0 := by
  refine ⟨rfl, Nat.le_refl _, 0, rfl, by omega, ?_, by omega, by omega⟩
  simp [chkB, inB] at h
  simp [limOf]
  omega
def turnP (c : PC) (l : List Bool) (i : Nat) (up : Bool) (fr : Nat) : Prop := limOf c up ≤ ((i : Int) + 1 - fr) ∧ ∀ j : Nat, (j : Int) < limOf c up → l[i - j]? = some (!up)
theorem TI.yes {c : PC} {l : List Bool} {i : Nat} {up : Bool} {fr : Nat} (hc : chkB c = true) (h : TI c l i up fr) (hi : i < l.length) (ht : turnP c l i up fr) : TI c l (i + 1) (!up) (i + 1) := by
  obtain ⟨h1, h2, r, h3, h4, h5, h6, h7⟩ := h
  have hlim : 1 ≤ limOf c up ∧ 1 ≤ limOf c (!up) := by
    simp [chkB, inB] at hc
    cases up <;> simp [limOf] <;> omega
  have hb := ht.2 0 (by omega)
  rw [Nat.sub_zero] at hb
  have hr : limOf c up ≤ (r : Int) + 1 := by
    by_cases hlt : limOf c up ≤ (r : Int) + 1
    · exact hlt
    · exfalso
      have ht1 := ht.1
      have e1 := ht.2 (r + 1) (by omega)
      have e2 := h7 (by omega)
      rw [show i - (r + 1) = i - 1 - r by omega, e2] at e1
      cases up <;> simp at e1
  have hf : foldP c (l.take (i + 1)) = stepP c (foldP c (l.take i)) (!up) := by rw [take_snoc hb, foldP_snoc]
  refine ⟨?_, Nat.le_refl _, 0, ?_, by omega, by omega, by omega, by omega⟩
  · rw [hf]
    unfold stepP endP
    dsimp only
    rw [h1, if_neg (by cases up <;> simp), h3, if_pos hr]
  · rw [hf]
    unfold stepP endP
    dsimp only
    rw [h1, if_neg (by cases up <;> simp), h3, if_pos hr]
    rfl
theorem TI.no {c : PC} {l : List Bool} {i : Nat} {up : Bool} {fr : Nat} (hc : chkB c = true) (h : TI c l i up fr) (hi : i < l.length) (ht : ¬ turnP c l i up fr) : TI c l (i + 1) up fr := by
  obtain ⟨h1, h2, r, h3, h4, h5, h6, h7⟩ := h
  have hlim : 1 ≤ limOf c up := by
    simp [chkB, inB] at hc
    cases up <;> simp [limOf] <;> omega
  obtain ⟨b, hb⟩ : ∃ b, l[i]? = some b := ⟨_, List.getElem?_eq_getElem hi⟩
  have hf : foldP c (l.take (i + 1)) = stepP c (foldP c (l.take i)) b := by rw [take_snoc hb, foldP_snoc]
  by_cases hbu : b = up
  · subst hbu
    have e : stepP c (foldP c (l.take i)) b = ⟨b, 0, nextOf 0 c.every, false, 0⟩ := by
      unfold stepP endP
      dsimp only
      rw [h1, if_pos rfl]
    refine ⟨by rw [hf, e], by omega, 0, by rw [hf, e]; rfl, by omega, by omega, by omega, fun _ => ?_⟩
    rw [show i + 1 - 1 - 0 = i by omega]
    exact hb
  · have hbn : b = !up := by cases b <;> cases up <;> simp_all
    subst hbn
    have hr : ¬ limOf c up ≤ (r : Int) + 1 := by
      intro hr
      apply ht
      refine ⟨by omega, fun j hj => ?_⟩
      by_cases hj0 : j = 0
      · subst hj0; exact hb
      · have := h6 (j - 1) (by omega)
        rw [show i - 1 - (j - 1) = i - j by omega] at this
        exact this
    have e : stepP c (foldP c (l.take i)) (!up) = ⟨up, (r : Int) + 1, nextOf 0 c.every, false, 0⟩ := by
      unfold stepP endP
      dsimp only
      rw [h1, if_neg (by cases up <;> simp), h3, if_neg hr]
    refine ⟨by rw [hf, e], by omega, r + 1, by rw [hf, e]; rfl, by omega, by omega, fun j hj => ?_, fun hlt => ?_⟩
    · by_cases hj0 : j = 0
      · subst hj0; simpa using hb
      · have := h6 (j - 1) (by omega)
        rw [show i + 1 - 1 - j = i - 1 - (j - 1) by omega]
        exact this
    · have := h7 (by omega)
      rw [show i + 1 - 1 - (r + 1) = i - 1 - r by omega]
      exact this
theorem upsP_at {c : PC} {l : List Bool} {i : Nat} (hi : i < l.length) : (upsP c l)[i]? = some (foldP c (l.take (i + 1))).up := by
  unfold upsP
  rw [List.getElem?_map, List.getElem?_range hi]
  rfl
end Go.Proofs.Ytbmgigbcilgieaa
