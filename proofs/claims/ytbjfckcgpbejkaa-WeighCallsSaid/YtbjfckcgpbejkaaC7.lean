/- Weigh: Least, of the program and of the reference, yields the same. -/
import Derived.Test.YtbjfckcgpbejkaaC6
namespace Go.Proofs.Ytbjfckcgpbejkaa
set_option linter.unusedSectionVars false
open Go.RowKit
set_option linter.unusedSimpArgs false
set_option linter.unusedVariables false
set_option maxRecDepth 100000
variable [Inhabited RawG]
theorem plE_cases (ls : List Int) (n : Nat) : plE ls n = 0 ∨ plE ls n = 2 := by
  unfold plE
  cases (List.range ls.length).any (badP ls n) with
  | true => exact .inr rfl
  | false => exact .inl rfl
theorem both_least {os ls : List Int} {ws : List Nat} (ho : CO os) (hw : CW ws) (hl : CL ls) (ho80 : os.length ≤ 1000) (h80 : ls.length ≤ 1000) (hw80 : ws.length ≤ 1000) (hr : ∀ i, i < os.length → -1099511627776 ≤ os.getD i 0 ∧ os.getD i 0 ≤ 1099511627776) :
    ∃ v e : Int, CallOK Try.prog 20 [.slice (some ⟨0, 0, some 2⟩) os.length 0, .slice (some ⟨1, 0, some 2⟩) ws.length 0, .slice (some ⟨3, 0, some 2⟩) ls.length 0] [] 0 (.tuple #[.int .i64 v, .int .i64 e]) [] ∧
      CallOK Try.prog 25 [.slice (some ⟨0, 0, some 2⟩) os.length 0, .slice (some ⟨1, 0, some 2⟩) ws.length 0, .slice (some ⟨3, 0, some 2⟩) ls.length 0] [] 0 (.tuple #[.int .i64 v, .int .i64 e]) [] := by
  by_cases hn : os.length = ws.length
  · by_cases hp : plE ls ws.length = 0
    · by_cases hv : wtE ws = 0
      · have hb : ∀ y, y < ws.length → (checkW (ws.getD y 0) != 0) = false := by
          intro y hy
          have := wtE_valid hv hy
          unfold checkW; rw [this]; rfl
        by_cases h0 : ls.length = 0
        · have e1 : leastX os ws ls = 5 := by
            unfold leastX
            rw [show ((os.length : Int) != (ws.length : Int)) = false by rw [hn]; simp, hp, hv, show ((ls.length : Int) == 0) = true by rw [h0]; rfl]; rfl
          have e2 : amE ls os.length = 5 := by
            unfold amE
            rw [hn, hp, show ((ls.length : Int) == 0) = true by rw [h0]; rfl]; rfl
          refine ⟨0, 5, ?_, ?_⟩
          · have := least_err (be := 0) hw hl h80 hw80 (os := os) (by rw [e1]; decide)
            rwa [e1] at this
          · have := rleast_e (os := os) (ws := ws) (lds := []) hl h80 hn (by rw [e2]; rfl) (by rw [e2]; rfl) (rw_lnone hw hw80 (by omega) hb)
            rwa [e2] at this
        · have e1 : leastX os ws ls = 0 := by
            unfold leastX
            rw [show ((os.length : Int) != (ws.length : Int)) = false by rw [hn]; simp, hp, hv, show ((ls.length : Int) == 0) = false by rw [beq_eq_false_iff_ne]; omega]; rfl
          have e2 : amE ls os.length = 0 := by
            unfold amE
            rw [hn, hp, show ((ls.length : Int) == 0) = false by rw [beq_eq_false_iff_ne]; omega]; rfl
          have ha : Asc ls ws.length := plE_asc hp
          have hk : LOK os ws := ⟨hn, hr, fun i hi => wtE_valid hv hi⟩
          have hpos : 0 < ls.length := by omega
          have hL := rl_loop ho hw hl hk ha h80
          have hne : ldL os ws ls ≠ [] := fun h => h0 (by rw [← ldL_len (os := os) (ws := ws), h]; rfl)
          rw [rlV_pos hne, rlH_pos hne] at hL
          have hlen : (ldL os ws ls).length = ls.length := ldL_len
          have hlt : ∀ y, y < (ldL os ws ls).length → (ldL os ws ls).getD y 0 < 18446744073709551616 := by
            intro y hy
            rw [hlen] at hy
            rw [ldL_at hy]
            have r1 := ha.rng y hy
            exact (load_div (hr (ls.getD y 0).toNat (by omega)).2 (hk.w (ls.getD y 0).toNat (by omega))).2
          have h42 := fl_a (fl_loop (by rw [hlen]; exact hpos) (by rw [hlen]; exact h80) hlt)
          have hst : stI (ldL os ws ls) (ldL os ws ls).length = (idxN (ldL os ws ls) (ls.length - 1) : Int) := by
            obtain ⟨k, hk⟩ : ∃ k, ls.length = k + 1 := ⟨ls.length - 1, by omega⟩
            rw [hlen, hk]; rfl
          rw [hst] at h42
          have hil := idx_le (lds := ldL os ws ls) (ls.length - 1)
          refine ⟨ls.getD (idxN (ldL os ws ls) (ls.length - 1)) 0, 0, ?_, ?_⟩
          · have h35 := minq_a hl hpos (mq_loop ho hw hl hk ha hpos h80)
            rw [min_idx (ls.length - 1) (by omega)] at h35
            exact least_ok hw hl h80 hw80 e1 h35
          · exact rleast_ok (be := 0) hl h80 hn e2 (by rw [e2]; exact rw_lnone hw hw80 (by omega) hb) hL h42 (by omega)
      · have hx : ∃ x, x < ws.length ∧ (checkW (ws.getD x 0) != 0) = true ∧ ∀ y, y < x → (checkW (ws.getD y 0) != 0) = false := by
          rcases first_or (fun x => checkW (ws.getD x 0) != 0) ws.length with h | h
          · exact h
          · exact absurd (by unfold wtE; rw [any_false (p := fun w => checkW w != 0) (d := 0) h]; rfl) hv
        obtain ⟨x, hx, he, hb⟩ := hx
        have w1 : wtE ws = 230 := by unfold wtE; rw [any_true (p := fun w => checkW w != 0) (d := 0) hx he]; rfl
        have e1 : leastX os ws ls = 230 := by
          unfold leastX
          rw [show ((os.length : Int) != (ws.length : Int)) = false by rw [hn]; simp, hp, w1]; rfl
        have e2 : (amE ls os.length == 2) = false := by
          unfold amE
          rw [hn, hp]
          cases ((ls.length : Int) == 0) <;> rfl
        refine ⟨0, 230, ?_, ?_⟩
        · have := least_err (be := 0) hw hl h80 hw80 (os := os) (by rw [e1]; decide)
          rwa [e1] at this
        · have := rleast_w (os := os) hl h80 hn e2 (rw_lhit hw hw80 (by omega) hx he hb)
          rwa [checkW_230 he] at this
    · have hp2 : plE ls ws.length = 2 := (plE_cases ls ws.length).resolve_left hp
      have e1 : leastX os ws ls = 2 := by
        unfold leastX
        rw [show ((os.length : Int) != (ws.length : Int)) = false by rw [hn]; simp, hp2]; rfl
      have e2 : amE ls os.length = 2 := by unfold amE; rw [hn, hp2]; rfl
      refine ⟨0, 2, ?_, ?_⟩
      · have := least_err (be := 0) hw hl h80 hw80 (os := os) (by rw [e1]; decide)
        rwa [e1] at this
      · have := rleast_2 (os := os) (ws := ws) (x := 0) hl h80 hn (by rw [e2]; rfl)
        rwa [e2] at this
  · have e0 : ((os.length : Int) != (ws.length : Int)) = true := by rw [bne_iff_ne]; omega
    have e1 : leastX os ws ls = 2 := by unfold leastX; rw [e0]; rfl
    refine ⟨0, 2, ?_, ?_⟩
    · have := least_err (be := 0) hw hl h80 hw80 (os := os) (by rw [e1]; decide)
      rwa [e1] at this
    · exact rleast_n (x := 0) hl h80 e0
end Go.Proofs.Ytbjfckcgpbejkaa
