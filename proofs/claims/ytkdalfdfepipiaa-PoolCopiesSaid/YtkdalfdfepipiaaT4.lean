/- Pool: the table of bytes. -/
import Derived.Test.YtkdalfdfepipiaaT3
import Derived.Test.YtkdalfdfepipiaaX17
import Derived.KernelRfl
namespace Go.Proofs.Ytkdalfdfepipiaa
open Go.RowKit
set_option linter.unusedSimpArgs false
set_option linter.unusedVariables false
set_option linter.unusedSectionVars false
set_option maxRecDepth 100000
abbrev tbV : Value := .agg (tbB 256 256 0).toArray
theorem tab_any (w : World) : Calls Try.prog 61 #[] w (fun e w1 => e = .returned tbV ∧ Below w.heap.size w w1) :=
  calls_orc (call := callT) (ω := [(129, .loop [0, 3] (.exit 0) (mkF [(0, .pointer (some ⟨0, 0, none⟩))] 61 0) (tbH 256) 192)]) (LF := 300) (F := 400) (av := []) (v := tbV) (ps := [LoopOK Try.prog (loopN Try.prog 61 0) (tbS 0) (tbH 0) 128 ⟨.exit 0, mkF [(0, .pointer (some ⟨0, 0, none⟩))] 61 0, tbH 256, 192, []⟩]) callT_spec mixed (by kernel_rfl) (ob_cons tb_loop ob_nil) (by kernel_rfl) (by kernel_rfl) w
variable [Inhabited RawG]
def ψtab : CallF := fun f args H _ =>
  if f = 61 then match args with
    | [] => some (tbV, H)
    | _ => none
  else none
theorem ψtab_spec : CallSpec Try.prog ψtab := by
  intro g av Hs lo v H1 h D ρ w args hlt hsz hav hw
  unfold ψtab at h
  split at h
  · rename_i hg
    subst hg
    split at h
    · cases h; exact spec_of_pure (fun w => tab_any w) (by kernel_rfl) (by kernel_rfl) hsz hav hw
    · cases h
  · cases h
noncomputable def callU : CallF := aCall Try.prog (orΨ ψtab ψidx) 300 400 9
theorem callU_spec : CallSpec Try.prog callU := call_spec (orΨ_spec ψtab_spec ψidx_spec) mixed 9
end Go.Proofs.Ytkdalfdfepipiaa
