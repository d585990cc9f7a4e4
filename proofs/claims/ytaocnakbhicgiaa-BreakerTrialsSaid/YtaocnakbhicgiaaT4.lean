/- Breaker: a law's paths; printed by a program of mine. -/
import Derived.Test.YtaocnakbhicgiaaP4
import Derived.KernelRfl
namespace Go.Proofs.Ytaocnakbhicgiaa
open Go.RowKit
set_option linter.unusedSimpArgs false
set_option linter.unusedVariables false
set_option maxRecDepth 100000
theorem law_p (cf cd ct cg : Int) (acts : List Act4) (c el : Nat)  : LawOK Try.prog callB 10 100 4 [.agg #[.int .i64 cf, .int .i64 cd, .int .i64 ct, .int .i64 cg], .slice (some ⟨0, 0, none⟩) acts.length c] [(0, ⟨el, acts.flatMap act4F, 2⟩)] 1 := by
  rcases Bool.eq_false_or_eq_true (decide ((↑acts.length : Int) > 80)) with h0 | h0
  · exact ⟨[(449, OV.soft (Value.bool true))], [decide ((↑acts.length : Int) > 80) = true], by kernel_rfl, (ob_cons h0 ob_nil)⟩
  · rcases Bool.eq_false_or_eq_true (check_0 cf cd ct cg != 0) with h1 | h1
    · exact ⟨[(449, OV.soft (Value.bool false)), (705, OV.soft (Value.bool true))], [decide ((↑acts.length : Int) > 80) = false, (check_0 cf cd ct cg != 0) = true], by kernel_rfl, (ob_cons h0 (ob_cons h1 ob_nil))⟩
    · exact ⟨[(449, OV.soft (Value.bool false)), (705, OV.soft (Value.bool false)), (1090, OV.loop [1, 2, 5, 6] (AX.exit 0) (mkF [] 126 0) [] 1153)], [decide ((↑acts.length : Int) > 80) = false, (check_0 cf cd ct cg != 0) = false, LoopOK Try.prog (loopN Try.prog 4 0) (fO4 acts.length c true 0) (hO4 cf cd ct cg acts el 1089 ((1, 0, 0, 0, 0, 0), none, 0)) 1089 ⟨.exit 0, mkF [] 126 0, [], 1153, []⟩], by kernel_rfl, (ob_cons h0 (ob_cons h1 (ob_cons (o4_loop (by simpa using h1) (by have := of_decide_eq_false h0; omega)) ob_nil)))⟩

theorem law_nil (cf cd ct cg : Int)  : LawOK Try.prog callB 10 100 4 [.agg #[.int .i64 cf, .int .i64 cd, .int .i64 ct, .int .i64 cg], .slice none 0 0] [] 1 := by
  rcases Bool.eq_false_or_eq_true (check_0 cf cd ct cg != 0) with h0 | h0
  · exact ⟨[(705, OV.soft (Value.bool true))], [(check_0 cf cd ct cg != 0) = true], by kernel_rfl, (ob_cons h0 ob_nil)⟩
  · exact ⟨[(705, OV.soft (Value.bool false))], [(check_0 cf cd ct cg != 0) = false], by kernel_rfl, (ob_cons h0 ob_nil)⟩

theorem law_hol (cf cd ct cg : Int)  : LawOK Try.prog callB 10 100 4 [.agg #[.int .i64 cf, .int .i64 cd, .int .i64 ct, .int .i64 cg], .slice (some ⟨0, 0, some 0⟩) 0 0] [] 1 := by
  rcases Bool.eq_false_or_eq_true (check_0 cf cd ct cg != 0) with h0 | h0
  · exact ⟨[(705, OV.soft (Value.bool true))], [(check_0 cf cd ct cg != 0) = true], by kernel_rfl, (ob_cons h0 ob_nil)⟩
  · exact ⟨[(705, OV.soft (Value.bool false))], [(check_0 cf cd ct cg != 0) = false], by kernel_rfl, (ob_cons h0 ob_nil)⟩

theorem law_blk (cf cd ct cg : Int) (acts : List Act4) (c el : Nat) (_ : 0 < acts.length) (_ : acts.length ≤ c) : LawOK Try.prog callB 10 100 4 [.agg #[.int .i64 cf, .int .i64 cd, .int .i64 ct, .int .i64 cg], .slice (some ⟨0, 0, none⟩) acts.length c] [(0, ⟨el, acts.flatMap act4F, 2⟩)] 1 := law_p cf cd ct cg acts c el
end Go.Proofs.Ytaocnakbhicgiaa
