/- PoolNames: closed calls; printed by a program of mine. -/
import Derived.Test.YtkdalfdfepipiaaN3
import Derived.KernelRfl
namespace Go.Proofs.Ytkdalfdfepipiaa
open Go.RowKit
set_option linter.unusedSimpArgs false
set_option linter.unusedVariables false
set_option linter.unusedSectionVars false
set_option maxRecDepth 100000
variable [Inhabited RawG]
theorem cl19_24 : CallOK Try.prog 19 [sT #[]] [] 0 (vJ 250) [] :=
  callOK_keep (call := callU) [] callU_spec mixed (ω := []) (LF := 300) (F := 400) (ps := []) (by kernel_rfl) ob_nil
theorem cl19_25 : CallOK Try.prog 19 [sT #[97, 46, 98]] [] 0 (vJ 250) [] :=
  callOK_keep (call := callU) [] callU_spec mixed (ω := []) (LF := 300) (F := 400) (ps := []) (by kernel_rfl) ob_nil
theorem cl18_26 : CallOK Try.prog 18 [sT #[97], vJ 65] [] 0 (sT #[97, 97, 97, 97, 97, 97, 97, 97, 97, 97, 97, 97, 97, 97, 97, 97, 97, 97, 97, 97, 97, 97, 97, 97, 97, 97, 97, 97, 97, 97, 97, 97, 97, 97, 97, 97, 97, 97, 97, 97, 97, 97, 97, 97, 97, 97, 97, 97, 97, 97, 97, 97, 97, 97, 97, 97, 97, 97, 97, 97, 97, 97, 97, 97, 97]) [] :=
  callOK_keep (call := callU) [] callU_spec mixed (ω := []) (LF := 300) (F := 400) (ps := []) (by kernel_rfl) ob_nil
theorem cl19_27 : CallOK Try.prog 19 [sT #[97, 97, 97, 97, 97, 97, 97, 97, 97, 97, 97, 97, 97, 97, 97, 97, 97, 97, 97, 97, 97, 97, 97, 97, 97, 97, 97, 97, 97, 97, 97, 97, 97, 97, 97, 97, 97, 97, 97, 97, 97, 97, 97, 97, 97, 97, 97, 97, 97, 97, 97, 97, 97, 97, 97, 97, 97, 97, 97, 97, 97, 97, 97, 97, 97]] [] 0 (vJ 250) [] :=
  callOK_keep (call := callU) [] callU_spec mixed (ω := []) (LF := 300) (F := 400) (ps := []) (by kernel_rfl) ob_nil
theorem cl17_28 : CallOK Try.prog 17 [sT #[42]] [] 0 (vJ 0) [] :=
  callOK_keep (call := callU) [] callU_spec mixed (ω := []) (LF := 300) (F := 400) (ps := []) (by kernel_rfl) ob_nil
theorem cl17_29 : CallOK Try.prog 17 [sT #[97, 46, 98, 45, 57]] [] 0 (vJ 0) [] :=
  callOK_keep (call := callU) [] callU_spec mixed (ω := []) (LF := 300) (F := 400) (ps := []) (by kernel_rfl) ob_nil
theorem cl17_30 : CallOK Try.prog 17 [sT #[65]] [] 0 (vJ 250) [] :=
  callOK_keep (call := callU) [] callU_spec mixed (ω := []) (LF := 300) (F := 400) (ps := []) (by kernel_rfl) ob_nil
theorem cl17_31 : CallOK Try.prog 17 [sT #[]] [] 0 (vJ 250) [] :=
  callOK_keep (call := callU) [] callU_spec mixed (ω := []) (LF := 300) (F := 400) (ps := []) (by kernel_rfl) ob_nil
end Go.Proofs.Ytkdalfdfepipiaa
