/- Pool: names. -/
import Derived.Test.YtkdalfdfepipiaaX18
import Derived.Test.YtkdalfdfepipiaaProg
import Derived.KernelRfl
namespace Go.Proofs.Ytkdalfdfepipiaa
open Go.RowKit
set_option linter.unusedSimpArgs false
set_option linter.unusedVariables false
set_option linter.unusedSectionVars false
set_option maxRecDepth 100000
variable [Inhabited RawG]
theorem mixed : Try.prog.follows .mixedOrders = true := by kernel_rfl
noncomputable def callP : CallF := aCall Try.prog (fun _ _ _ _ => none) 300 400 9
theorem none_spec : CallSpec Try.prog (fun _ _ _ _ => none) := fun g av Hs lo v H1 h => by cases h
theorem callP_spec : CallSpec Try.prog callP := call_spec none_spec mixed 9
/-- Is a byte one of these? -/
def inB : List Nat → Nat → Bool
  | [], _ => false
  | a :: r, j => Nat.beq a j || inB r j
/-- What a byte is. -/
def flB (j : Nat) : Int :=
  (bif (Nat.ble 48 j && Nat.ble j 57) || (Nat.ble 97 j && Nat.ble j 122) || (Nat.ble 65 j && Nat.ble j 90) || inB [33, 35, 36, 37, 38, 39, 42, 43, 45, 46, 94, 95, 96, 124, 126] j then 1 else 0) + (bif Nat.beq j 9 || (Nat.ble 32 j && Nat.ble j 126) || Nat.ble 128 j then 2 else 0)
/-- The table, the first k of its cells made. -/
def tbB (k : Nat) : Nat → Nat → List Value
  | 0, _ => []
  | n + 1, j => .int .u8 (bif Nat.blt j k then flB j else 0) :: tbB k n (j + 1)
abbrev tbS (k : Nat) : List Value := mkF [(0, .pointer (some ⟨0, 0, none⟩)), (3, .int .i64 (k : Int))] 61 0
abbrev tbH (k : Nat) : Heap := [(0, ⟨104, tbB k 256 0, 0⟩)]
end Go.Proofs.Ytkdalfdfepipiaa
