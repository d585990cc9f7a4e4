/- EjectCalls: the law for any arguments. -/
import Derived.Test.YtpdfpnfnlikjfaaE3R
import Derived.Test.YtpdfpnfnlikjfaaE3N
import Derived.Test.YtpdfpnfnlikjfaaE3E
import Derived.KernelRfl
namespace Go.Proofs.Ytpdfpnfnlikjfaa
open Go.RowKit
set_option linter.unusedSectionVars false
set_option linter.unusedSimpArgs false
set_option linter.unusedVariables false
set_option maxRecDepth 100000
variable [Inhabited RawG]
theorem law_big {cf cb cm cp i now times : Int} {es : List EjT} {well : Bool} (h : ¬ es.length ≤ 80) : LawOK Try.prog callL 100 200 4 [.agg #[.int .i64 cf, .int .i64 cb, .int .i64 cm, .int .i64 cp], .slice (some ⟨0, 0, some 2⟩) es.length 0, .int .i64 i, .bool well, .int .i64 now, .int .i64 times] [] 0 :=
  ⟨[(512, OV.soft (Value.bool true))], [(!decide ((↑es.length : Int) ≤ 80)) = true], by kernel_rfl, (ob_cons (by simp; omega) ob_nil)⟩
theorem law_calls4 (cf cb cm cp i : Int) (well : Bool) (now times : Int) (es : List EjT) (hA : rg.cells 0 = es.flatMap ejF) {W : World} {args : Array Value} (hsz : args.size = 6) (hav : ∀ j, VR (fun _ => False) (fun _ => default) (([.agg #[.int .i64 cf, .int .i64 cb, .int .i64 cm, .int .i64 cp], .slice (some ⟨0, 0, some 2⟩) es.length 0, .int .i64 i, .bool well, .int .i64 now, .int .i64 times] : List Value).getD j undef) (args.getD j undef)) (hr : ∀ j, RawAt W j) :
    Calls Try.prog 4 args W fun e W' => e = .returned (.bool true) ∧ Below W.heap.size W W' := by
  by_cases h80 : es.length ≤ 80
  · by_cases hp : 0 < es.length
    · by_cases hm : may_0 cf cb cm cp now = 0
      · by_cases hi : 0 ≤ i ∧ i < (es.length : Int)
        · obtain ⟨k, rfl⟩ : ∃ k : Nat, i = (k : Int) := ⟨i.toNat, by omega⟩
          have hk : k < es.length := by omega
          exact callsR (r := repE cf cb cm cp es k well now) hA h80 hp (report_o hA hk h80 hm) (rreport_o hA hk h80 hm) hsz hav hr
        · exact callsN hA h80 hp (report_r hm hi) (rreport_r (may_z hm).1 (may_z hm).2 hi) hsz hav hr
      · exact callsN hA h80 hp (report_e hm) (rreport_e hm) hsz hav hr
    · have : es = [] := List.eq_nil_of_length_eq_zero (by omega)
      subst this
      by_cases hm : may_0 cf cb cm cp now = 0
      · have hi : ¬ (0 ≤ i ∧ i < (([] : List EjT).length : Int)) := by simp
        exact callsE hA (report_r (es := []) hm hi) (rreport_r (es := []) (may_z hm).1 (may_z hm).2 hi) hsz hav hr
      · exact callsE hA (report_e (es := []) hm) (rreport_e (es := []) hm) hsz hav hr
  · exact law_raw callL_spec mixed (law_big h80) hsz hav hr
end Go.Proofs.Ytpdfpnfnlikjfaa
