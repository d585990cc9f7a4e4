/- Pool: names. -/
import Derived.Test.YtkdalfdfepipiaaT4
import Derived.KernelRfl
namespace Go.Proofs.Ytkdalfdfepipiaa
open Go.RowKit
set_option linter.unusedSimpArgs false
set_option linter.unusedVariables false
set_option linter.unusedSectionVars false
set_option maxRecDepth 100000
variable [Inhabited RawG]
abbrev vJ (x : Int) : Value := Value.int IntKind.i64 x
abbrev sT (a : Array UInt8) : Value := Value.string ⟨a⟩
end Go.Proofs.Ytkdalfdfepipiaa
