/- Contracts that the engine has found; their texts are a program's. -/
import Derived.Test.YtaocnakbhicgiaaS5
import Derived.Test.YtaocnakbhicgiaaProg
namespace Go.Proofs.Ytaocnakbhicgiaa
open Go.RowKit
set_option linter.unusedVariables false
set_option maxRecDepth 100000
theorem lives_any  (w : World) : Calls Try.prog 7 #[] w (fun e w1 => e = .returned (Value.bool true) ∧ Below w.heap.size w w1) := by
  refine (calls_orc (call := aCall Try.prog ΨS5 10 100 4) (ω := []) (LF := 10) (F := 100) (av := []) (v := Value.bool true) (ps := []) (call_spec ΨS5_spec mixed 4) mixed (by kernel_rfl) ob_nil (by kernel_rfl) (by kernel_rfl) w).mono ?_
  exact fun e w1 h => h
def ψlives : CallF := fun f args H _ =>
  if f = 7 then match args with
    | [] => some (Value.bool true, H)
    | _ => none
  else none
theorem ψlives_spec : CallSpec Try.prog ψlives := by
  intro g av Hs lo v H1 h D ρ w args hlt hsz hav hw
  unfold ψlives at h
  split at h
  · rename_i hg
    subst hg
    split at h
    · cases h; exact spec_of_pure (fun w => lives_any  w) (by kernel_rfl) (by kernel_rfl) hsz hav hw
    · cases h
  · cases h
def ΨS6 : CallF := orΨ ψlives ΨS5
theorem ΨS6_spec : CallSpec Try.prog ΨS6 := orΨ_spec ψlives_spec ΨS5_spec
end Go.Proofs.Ytaocnakbhicgiaa
