/- Weigh: small numbers as weights. -/
import Derived.Test.YtbjfckcgpbejkaaP3
namespace Go.Proofs.Ytbjfckcgpbejkaa
open Go.RowKit
set_option linter.unusedSimpArgs false
set_option linter.unusedVariables false
abbrev LL : Type := List (List Int)
abbrev U8 : Type := {x : Int // 0 ≤ x ∧ x < 256}
instance : Inhabited U8 := ⟨⟨0, by decide⟩⟩
/-- The weight that a small number stands for. -/
def wtI (u : U8) : Int := 1 + u.1 % 40
theorem wtI_rng (u : U8) : 1 ≤ wtI u ∧ wtI u ≤ 40 := by
  have := Int.emod_nonneg u.1 (show (40 : Int) ≠ 0 by decide)
  have := Int.emod_lt_of_pos u.1 (show (0 : Int) < 40 by decide)
  unfold wtI; omega
end Go.Proofs.Ytbjfckcgpbejkaa
