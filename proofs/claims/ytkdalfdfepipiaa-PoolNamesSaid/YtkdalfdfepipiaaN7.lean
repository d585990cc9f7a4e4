/- PoolNames: closed calls; printed by a program of mine. -/
import Derived.Test.YtkdalfdfepipiaaN6
import Derived.KernelRfl
namespace Go.Proofs.Ytkdalfdfepipiaa
open Go.RowKit
set_option linter.unusedSimpArgs false
set_option linter.unusedVariables false
set_option linter.unusedSectionVars false
set_option maxRecDepth 100000
variable [Inhabited RawG]
theorem cl21_48 : CallOK Try.prog 21 [Value.agg #[sT #[], Value.slice none 0 0, Value.slice none 0 0, vJ 0, vJ 0, vJ 0, vJ 0, vJ 0, vJ 0, vJ 0, vJ 0, vJ 0, vJ 0, vJ 0, vJ 0, vJ 0]] [] 0 (vJ 250) [(0, ⟨46, [sT #[], Value.slice none 0 0, Value.slice none 0 0, vJ 0, vJ 0, vJ 0, vJ 0, vJ 0, vJ 0, vJ 0, vJ 0, vJ 0, vJ 0, vJ 0, vJ 0, vJ 0], 0⟩)] :=
  callOK_keep (call := callU) [0] callU_spec mixed (ω := [(256, OV.call (vJ 250) [])]) (LF := 300) (F := 400) (ps := [CallOK Try.prog 19 [sT #[]] [] 0 (vJ 250) []]) (by kernel_rfl) (ob_cons cl19_24 ob_nil)
end Go.Proofs.Ytkdalfdfepipiaa
