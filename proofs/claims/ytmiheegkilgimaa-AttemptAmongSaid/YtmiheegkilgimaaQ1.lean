/- AttemptOnce: the plain law. -/
import Derived.Test.YtmiheegkilgimaaT6
namespace Go.Proofs.Ytmiheegkilgimaa
open Go.RowKit
set_option linter.unusedSimpArgs false
set_option linter.unusedVariables false
set_option maxRecDepth 100000
abbrev Act2 := Int × Int
def act2F : Act2 → List Value := fun t => [Value.int .i64 t.1, Value.int .i64 t.2]
theorem act2 (t : Act2) : (act2F t).length = 2 := rfl
theorem nolast {x : Nat} {ts : List Try3} (h : ¬ x + 1 < ts.length) : decide ((((x + 1 : Nat)) : Int) < (ts.length : Int)) = false := decide_eq_false (by omega)
end Go.Proofs.Ytmiheegkilgimaa
