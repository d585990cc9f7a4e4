import Derived.Test.YtbmgigbcilgieaaI
import Derived.Laws.StructEq
namespace Go.Proofs.Ytbmgigbcilgieaa
open Go.RowKit
set_option maxRecDepth 100000
theorem fields32 : Try.prog.fieldsOf 32 = #[⟨ "Up", 4, 0, false, "", "", 0⟩, ⟨ "Run", 3, 1, false, "", "", 8⟩, ⟨ "Next", 2, 2, false, "", "", 16⟩, ⟨ "Out", 4, 3, false, "", "", 24⟩, ⟨ "Since", 2, 4, false, "", "", 32⟩] := by kernel_rfl
theorem held32 : Try.prog.stoodInHeld 32 = false := by kernel_rfl
theorem pp_eql (a a' d d' : Bool) (b b' c c' e e' : Int) (w : World) : (binOp .eql 32 (.agg #[.bool a, .int .i64 b, .int .i64 c, .bool d, .int .i64 e]) (.agg #[.bool a', .int .i64 b', .int .i64 c', .bool d', .int .i64 e'])).run Try.prog w = .ok (.bool (a == a' && b == b' && c == c' && d == d' && e == e')) w := by
  have hu : Try.prog.underlying 32 = some (.struct (Try.prog.fieldsOf 32)) := by kernel_rfl
  rw [run_eql_struct, run_equalIn_agg w 9999 32 _ _ hu held32, fields32]
  have p0 : ∀ (x0 x1 x2 x3 x4 : Value) v, (part 4 #[x0, x1, x2, x3, x4] 0).run Try.prog v = .ok x0 v := fun x0 x1 x2 x3 x4 v => by kernel_rfl
  have p1 : ∀ (x0 x1 x2 x3 x4 : Value) v, (part 3 #[x0, x1, x2, x3, x4] 1).run Try.prog v = .ok x1 v := fun x0 x1 x2 x3 x4 v => by kernel_rfl
  have p2 : ∀ (x0 x1 x2 x3 x4 : Value) v, (part 2 #[x0, x1, x2, x3, x4] 2).run Try.prog v = .ok x2 v := fun x0 x1 x2 x3 x4 v => by kernel_rfl
  have p3 : ∀ (x0 x1 x2 x3 x4 : Value) v, (part 4 #[x0, x1, x2, x3, x4] 3).run Try.prog v = .ok x3 v := fun x0 x1 x2 x3 x4 v => by kernel_rfl
  have p4 : ∀ (x0 x1 x2 x3 x4 : Value) v, (part 2 #[x0, x1, x2, x3, x4] 4).run Try.prog v = .ok x4 v := fun x0 x1 x2 x3 x4 v => by kernel_rfl
  have q3 : ∀ (x y : Int) v, (Op.equalIn 9999 3 (.int .i64 x) (.int .i64 y)).run Try.prog v = .ok (x == y) v := fun x y v => run_equalIn_int v 9998 3 .i64 .i64 x y Try.underlying3
  have q2 : ∀ (x y : Int) v, (Op.equalIn 9999 2 (.int .i64 x) (.int .i64 y)).run Try.prog v = .ok (x == y) v := fun x y v => run_equalIn_int v 9998 2 .i64 .i64 x y Try.underlying2
  have q4 : ∀ (x y : Bool) v, (Op.equalIn 9999 4 (.bool x) (.bool y)).run Try.prog v = .ok (x == y) v := fun x y v => run_equalIn_bool' v 9998 4 x y Try.underlying4
  simp only [Op.eqFields, p0, p1, p2, p3, p4, q2, q3, q4, Sem.run_bind, Sem.run_ite, Result.andThen_ok, Sem.run_pure]
  cases a == a' <;> cases b == b' <;> cases c == c' <;> cases d == d' <;> cases e == e' <;> rfl
end Go.Proofs.Ytbmgigbcilgieaa
