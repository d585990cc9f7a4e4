/- The chapter's example, by one run of the kernel. -/
import Derived.Test.YtadpnamooajpoaaS7
import Derived.Test.YtadpnamooajpoaaX17
namespace Go.Proofs.Ytadpnamooajpoaa
open Go.RowKit
set_option linter.unusedVariables false
set_option maxRecDepth 100000
theorem lives_any  (w : World) : Calls Try.prog 8 #[] w (fun e w1 => e = .returned (Value.bool true) ∧ Below w.heap.size w w1) := by
  refine (calls_orc (call := aCall Try.prog noΨ 100 200 12) (ω := []) (LF := 100) (F := 200) (av := []) (v := Value.bool true) (ps := []) (call_spec noΨ_spec mixed 12) mixed (by kernel_rfl) ob_nil (by kernel_rfl) (by kernel_rfl) w).mono ?_
  exact fun e w1 h => h
def ψlives : CallF := fun f args H _ =>
  if f = 8 then match args with
    | [] => some (Value.bool true, H)
    | _ => none
  else none
theorem ψlives_spec [Inhabited RawG] : CallSpec Try.prog ψlives := by
  intro g av Hs lo v H1 h D ρ w args hlt hsz hav hw
  unfold ψlives at h
  split at h
  · rename_i hg
    subst hg
    split at h
    · cases h; exact spec_of_pure (fun w => lives_any  w) (by kernel_rfl) (by kernel_rfl) hsz hav hw
    · cases h
  · cases h
def ΨS6 : CallF := orΨ ψlives ΨS7
theorem ΨS6_spec [Inhabited RawG] : CallSpec Try.prog ΨS6 := orΨ_spec ψlives_spec ΨS7_spec
set_option linter.unusedSectionVars false
variable [Inhabited RawG]
noncomputable def callH : CallF := aCall Try.prog ΨS6 10 100 6
theorem callH_spec [Inhabited RawG] : CallSpec Try.prog callH := call_spec ΨS6_spec mixed 6
end Go.Proofs.Ytadpnamooajpoaa
