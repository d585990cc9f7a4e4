/- ProbeCalls: the law's paths, by the shape of the slice. -/
import Derived.Test.YtbmgigbcilgieaaC5
namespace Go.Proofs.Ytbmgigbcilgieaa
open Go.RowKit
set_option linter.unusedVariables false
set_option maxRecDepth 100000
section
variable (ce cw cr cf : Int) (up : Bool) (run nxt : Int) (out : Bool) (since : Int) (well : Bool) (now : Int)
theorem law_nil : LawOK Try.prog callR 10 100 5 [.agg #[.int .i64 ce, .int .i64 cw, .int .i64 cr, .int .i64 cf], .agg #[.bool up, .int .i64 run, .int .i64 nxt, .bool out, .int .i64 since], .bool well, .int .i64 now, .slice none 0 0] [] 1 := calls_nil ce cw cr cf 0 0 [] up run nxt now since out well
theorem law_hol : LawOK Try.prog callR 10 100 5 [.agg #[.int .i64 ce, .int .i64 cw, .int .i64 cr, .int .i64 cf], .agg #[.bool up, .int .i64 run, .int .i64 nxt, .bool out, .int .i64 since], .bool well, .int .i64 now, .slice (some ⟨0, 0, some 0⟩) 0 0] [] 1 := calls_hol ce cw cr cf 0 0 [] up run nxt now since out well
theorem law_blk (l : List Bool) (c el : Nat) (hp : 0 < l.length) (hc : l.length ≤ c) : LawOK Try.prog callR 10 100 5 [.agg #[.int .i64 ce, .int .i64 cw, .int .i64 cr, .int .i64 cf], .agg #[.bool up, .int .i64 run, .int .i64 nxt, .bool out, .int .i64 since], .bool well, .int .i64 now, .slice (some ⟨0, 0, none⟩) l.length c] [(0, ⟨el, l.map fun t : Bool => Value.bool t, 2⟩)] 1 := by
  rcases Bool.eq_false_or_eq_true (check_0 ce cw cr cf != 0) with h | h
  · exact calls_bad ce cw cr cf c el l up run nxt now since out well h
  · exact calls_good ce cw cr cf c el l up run nxt now since out well hp h
end
end Go.Proofs.Ytbmgigbcilgieaa
