/- HealthNil: the law's one path; printed by a program of mine. -/
import Derived.Test.YtadpnamooajpoaaX15
import Derived.KernelRfl
namespace Go.Proofs.Ytadpnamooajpoaa
open Go.RowKit
set_option linter.unusedVariables false
set_option maxRecDepth 100000
theorem mixed : Try.prog.follows .mixedOrders = true := by kernel_rfl
noncomputable def callN : CallF := aCall Try.prog noΨ 100 200 12
theorem callN_spec : CallSpec Try.prog callN := call_spec noΨ_spec mixed 12
theorem law_any (a0 a1 a2 : Int)  : LawOK Try.prog callN 100 200 7 [.int .i64 a0, .int .i64 a1, .int .i64 a2] [] 0 := by
  exact ⟨[], [], by kernel_rfl, ob_nil⟩

end Go.Proofs.Ytadpnamooajpoaa
