/- HealthNever: the law, its events as they are read. -/
import Derived.Test.YtadpnamooajpoaaB7
namespace Go.Proofs.Ytadpnamooajpoaa
open Go.RowKit
set_option linter.unusedSectionVars false
set_option linter.unusedVariables false
variable [Inhabited RawG]
theorem acts_of (l : List (Int × Int × Int × Bool × Int)) : l.flatMap (fun t => [Value.int .i64 t.1, Value.int .i64 t.2.1, Value.int .i64 t.2.2.1, Value.bool t.2.2.2.1, Value.int .i64 t.2.2.2.2]) = (l.map fun t => (⟨t.1, t.2.1, t.2.2.1, t.2.2.2.1, t.2.2.2.2⟩ : ActT)).flatMap actF := by
  induction l with
  | nil => rfl
  | cons a r ih => rw [List.flatMap_cons, ih]; rfl
theorem law_any (b1 b2 b3 b4 e1 e2 e3 e4 p1 p2 p3 p4 m0 : Int) (l : List (Int × Int × Int × Bool × Int)) (h : rg.cells 0 = l.flatMap (fun t => [Value.int .i64 t.1, Value.int .i64 t.2.1, Value.int .i64 t.2.2.1, Value.bool t.2.2.2.1, Value.int .i64 t.2.2.2.2])) :
    LawOK Try.prog callH 10 100 3 [.agg #[.int .i64 b1, .int .i64 b2, .int .i64 b3, .int .i64 b4, .int .i64 e1, .int .i64 e2, .int .i64 e3, .int .i64 e4, .int .i64 p1, .int .i64 p2, .int .i64 p3, .int .i64 p4], .int .i64 m0, .slice (some ⟨0, 0, some 2⟩) l.length 0] [] 0 := by
  have hL := law_never ⟨b1, b2, b3, b4, e1, e2, e3, e4, p1, p2, p3, p4⟩ m0 _ (h.trans (acts_of l))
  rw [List.length_map] at hL
  exact hL
end Go.Proofs.Ytadpnamooajpoaa
