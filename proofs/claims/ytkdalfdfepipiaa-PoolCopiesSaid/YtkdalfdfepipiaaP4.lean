/- Pool: Host, Name; printed by a program of mine. -/
import Derived.Test.YtkdalfdfepipiaaP3
import Derived.KernelRfl
namespace Go.Proofs.Ytkdalfdfepipiaa
open Go.RowKit
set_option linter.unusedSimpArgs false
set_option linter.unusedVariables false
set_option linter.unusedSectionVars false
set_option maxRecDepth 100000
variable [Inhabited RawG]
/-- The text that stands for any host. -/
abbrev starT : ByteArray := ⟨#[42]⟩
/-- What Host, Name answer. -/
def hostE (s : ByteArray) : Int := bif s.toList == starT.toList then 0 else everyE hostB 255 s
def nameE (s : ByteArray) : Int := everyE nameB 64 s
theorem host_ok {s : ByteArray} (hz : s.size ≤ 9000000000000) : CallOK Try.prog 17 [.string s] [] 0 (.int .i64 (hostE s)) [] := by
  rcases Bool.eq_false_or_eq_true (s.toList == (ByteArray.mk #[42]).toList) with h0 | h0
  · have hv : (.int .i64 (hostE s)) = Value.int IntKind.i64 0 := by unfold hostE; rw [h0]; rfl
    rw [hv]
    exact callOK_keep (call := callB) [] callB_spec mixed (ω := [(128, OV.soft (Value.bool true))]) (LF := 10) (F := 100) (ps := [(s.toList == (ByteArray.mk #[42]).toList) = true]) (by kernel_rfl) (ob_cons h0 ob_nil)
  · have hv : (.int .i64 (hostE s)) = Value.int IntKind.i64 (everyE hostB 255 s) := by unfold hostE; rw [h0]; rfl
    rw [hv]
    exact callOK_keep (call := callB) [] callB_spec mixed (ω := [(128, OV.soft (Value.bool false)), (256, OV.call (Value.int IntKind.i64 (everyE hostB 255 s)) [])]) (LF := 10) (F := 100) (ps := [(s.toList == (ByteArray.mk #[42]).toList) = false, CallOK Try.prog 39 [Value.string s, Value.int IntKind.i64 255, Value.func (Fn.func 40) #[] #[]] [] 0 (Value.int IntKind.i64 (everyE hostB 255 s)) []]) (by kernel_rfl) (ob_cons h0 (ob_cons (ev40_ok hz) ob_nil))

theorem name_ok {s : ByteArray} (hz : s.size ≤ 9000000000000) : CallOK Try.prog 19 [.string s] [] 0 (.int .i64 (nameE s)) [] := by
  exact callOK_keep (call := callB) [] callB_spec mixed (ω := [(128, OV.call (Value.int IntKind.i64 (everyE nameB 64 s)) [])]) (LF := 10) (F := 100) (ps := [CallOK Try.prog 39 [Value.string s, Value.int IntKind.i64 64, Value.func (Fn.func 43) #[] #[]] [] 0 (Value.int IntKind.i64 (everyE nameB 64 s)) []]) (by kernel_rfl) (ob_cons (ev43_ok hz) ob_nil)

end Go.Proofs.Ytkdalfdfepipiaa
