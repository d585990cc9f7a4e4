/- A call's result with its blocks numbered anew: new blocks become lo, lo + 1, ... -/
import Derived.Test.YtkdalfdfepipiaaX15
namespace Go.Proofs.Ytkdalfdfepipiaa
set_option linter.unusedSectionVars false
open Go.RowKit
set_option linter.unusedSimpArgs false
set_option linter.unusedVariables false
variable [Inhabited RawG]
section
variable {P : Program}
theorem callOK_ren {g : FuncId} {av : List Value} {Hs H1 H2 : Heap} {lo : Nat} {v v2 : Value} (S : List Nat) (h : CallOK P g av Hs lo v H1) (hv : ren (renOf S lo lo) 4 v = some v2) (hh : renHeap (renOf S lo lo) H1 = some H2) : CallOK P g av Hs lo v2 H2 := by
  intro D0 ρ0 w args hD0 hsz hav hw
  refine (h D0 ρ0 w args hD0 hsz hav hw).mono ?_
  rintro e w1 ⟨u, rfl, D1, ρ1, hT, hV, hD1⟩
  have hnS : ∀ c, lo ≤ c ∧ c - lo < S.length → ¬ D0 c := fun c hc hD => by have := hD0 c hD; omega
  have hrr : ∀ b b', D1 b → renOf S lo lo b = some b' → (D0 b' ∨ b' ∈ List.range' lo S.length) ∧ (if hc : lo ≤ b' ∧ b' - lo < S.length then ρ1 (S[b' - lo]'hc.2) else ρ0 b') = ρ1 b := by
    intro b b' hb hrb
    unfold renOf at hrb
    split at hrb
    · rename_i hlt
      cases hrb
      have hDb : D0 b := (hD1 b hb).resolve_right (by omega)
      refine ⟨.inl hDb, ?_⟩
      rw [dif_neg (fun hc' => hnS b hc' hDb)]
      exact (hT.same b hDb).symm
    · obtain ⟨i, hi, rfl⟩ := Option.map_eq_some_iff.1 hrb
      have hSi := idxIn_spec hi
      obtain ⟨hlt, hSb⟩ := List.getElem?_eq_some_iff.1 hSi
      refine ⟨.inr (by simp only [List.mem_range'_1]; omega), ?_⟩
      rw [dif_pos ⟨by omega, by omega⟩]
      congr 1
      rw [← hSb]
      congr 1
      omega
  have hR := T.rename (P := P) (D2 := fun b => D0 b ∨ b ∈ List.range' lo S.length) (ρ2 := fun c => if hc : lo ≤ c ∧ c - lo < S.length then ρ1 (S[c - lo]'hc.2) else ρ0 c) hw hT hh (fun b hb => .inl hb)
    (fun b hb => dif_neg fun hc' => hnS b hc' hb) hrr (fun b b' hb hrb => by
      unfold renOf at hrb
      rw [if_pos (hD0 b hb)] at hrb
      cases hrb; rfl)
  refine ⟨u, rfl, _, _, hR, ren_vr hrr 4 _ _ _ hV hv, fun b hb => ?_⟩
  rcases hb with hb | hb
  · exact .inl hb
  · simp only [List.mem_range'_1] at hb; exact .inr hb.1
end
end Go.Proofs.Ytkdalfdfepipiaa
