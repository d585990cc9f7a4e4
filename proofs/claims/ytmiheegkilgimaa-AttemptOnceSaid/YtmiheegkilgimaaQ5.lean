/- AttemptOnce: the law's paths; printed by a program of mine. -/
import Derived.Test.YtmiheegkilgimaaQ4
import Derived.KernelRfl
namespace Go.Proofs.Ytmiheegkilgimaa
open Go.RowKit
set_option linter.unusedSimpArgs false
set_option linter.unusedVariables false
set_option maxRecDepth 100000
theorem law_blkk (ag : Bool) (n : Int) (acts : List Act2) (c el : Nat) (h64 : 0 ≤ n ∧ n ≤ 64) : LawOK Try.prog callT 10 100 5 [.bool ag, .int .i64 n, .slice (some ⟨0, 0, none⟩) acts.length c] [(0, ⟨el, acts.flatMap act2F, 2⟩)] 1 := by
  rcases Bool.eq_false_or_eq_true (decide ((↑acts.length : Int) > 200)) with h0 | h0
  · exact ⟨[(321, OV.soft (Value.bool true))], [decide ((↑acts.length : Int) > 200) = true], by kernel_rfl, (ob_cons h0 ob_nil)⟩
  · exact ⟨[(321, OV.soft (Value.bool false)), (513, OV.call (Value.tuple #[Value.agg #[Value.bool ag, Value.int IntKind.i64 (n + 1), Value.slice none 0 0], Value.int IntKind.i64 0]) []), (1154, OV.loop [0, 1, 2, 7, 9] (AX.exit 0) (mkF [] 160 0) [] 1217)], [decide ((↑acts.length : Int) > 200) = false, CallOK Try.prog 17 [Value.bool ag, Value.int IntKind.i64 n] [] 0 (Value.tuple #[Value.agg #[Value.bool ag, Value.int IntKind.i64 (n + 1), Value.slice none 0 0], Value.int IntKind.i64 0]) [], LoopOK Try.prog (loopN Try.prog 5 0) (fA ag n acts.length c 0) (hA ag (n + 1) acts el []) 1153 ⟨.exit 0, mkF [] 160 0, [], 1217, []⟩], by kernel_rfl, (ob_cons h0 (ob_cons (new_ok h64.1 h64.2) (ob_cons (rd_loop h64.1 h64.2 (by have := of_decide_eq_false h0; omega)) ob_nil)))⟩

theorem law_blke (ag : Bool) (n : Int) (acts : List Act2) (c el : Nat) (h64 : ¬ (0 ≤ n ∧ n ≤ 64)) : LawOK Try.prog callT 10 100 5 [.bool ag, .int .i64 n, .slice (some ⟨0, 0, none⟩) acts.length c] [(0, ⟨el, acts.flatMap act2F, 2⟩)] 1 := by
  rcases Bool.eq_false_or_eq_true (decide ((↑acts.length : Int) > 200)) with h0 | h0
  · exact ⟨[(321, OV.soft (Value.bool true))], [decide ((↑acts.length : Int) > 200) = true], by kernel_rfl, (ob_cons h0 ob_nil)⟩
  · rcases Bool.eq_false_or_eq_true (decide (n < 0)) with h1 | h1
    · exact ⟨[(321, OV.soft (Value.bool false)), (513, OV.call (Value.tuple #[Value.agg #[Value.bool false, Value.int IntKind.i64 0, Value.slice none 0 0], Value.int IntKind.i64 2]) []), (1217, OV.soft (Value.bool true))], [decide ((↑acts.length : Int) > 200) = false, CallOK Try.prog 17 [Value.bool ag, Value.int IntKind.i64 n] [] 0 (Value.tuple #[Value.agg #[Value.bool false, Value.int IntKind.i64 0, Value.slice none 0 0], Value.int IntKind.i64 2]) [], decide (n < 0) = true], by kernel_rfl, (ob_cons h0 (ob_cons (new_err h64) (ob_cons h1 ob_nil)))⟩
    · exact ⟨[(321, OV.soft (Value.bool false)), (513, OV.call (Value.tuple #[Value.agg #[Value.bool false, Value.int IntKind.i64 0, Value.slice none 0 0], Value.int IntKind.i64 2]) []), (1217, OV.soft (Value.bool false))], [decide ((↑acts.length : Int) > 200) = false, CallOK Try.prog 17 [Value.bool ag, Value.int IntKind.i64 n] [] 0 (Value.tuple #[Value.agg #[Value.bool false, Value.int IntKind.i64 0, Value.slice none 0 0], Value.int IntKind.i64 2]) [], decide (n < 0) = false], Eq.trans (b := some (Value.bool (decide (n > 64)), [decide ((↑acts.length : Int) > 200) = false, CallOK Try.prog 17 [Value.bool ag, Value.int IntKind.i64 n] [] 0 (Value.tuple #[Value.agg #[Value.bool false, Value.int IntKind.i64 0, Value.slice none 0 0], Value.int IntKind.i64 2]) [], decide (n < 0) = false])) (by kernel_rfl) (by rw [decide_eq_true (show n > 64 by have := of_decide_eq_false (p := n < 0) (by assumption); omega)]), (ob_cons h0 (ob_cons (new_err h64) (ob_cons h1 ob_nil)))⟩

theorem law_blk (ag : Bool) (n : Int) (acts : List Act2) (c el : Nat) (_ : 0 < acts.length) (_ : acts.length ≤ c) : LawOK Try.prog callT 10 100 5 [.bool ag, .int .i64 n, .slice (some ⟨0, 0, none⟩) acts.length c] [(0, ⟨el, acts.flatMap act2F, 2⟩)] 1 := by
  by_cases h : 0 ≤ n ∧ n ≤ 64
  · exact law_blkk ag n acts c el h
  · exact law_blke ag n acts c el h
theorem law_nilk (ag : Bool) (n : Int) (h64 : 0 ≤ n ∧ n ≤ 64) : LawOK Try.prog callT 10 100 5 [.bool ag, .int .i64 n, .slice none 0 0] [] 1 := by
  exact ⟨[(513, OV.call (Value.tuple #[Value.agg #[Value.bool ag, Value.int IntKind.i64 (n + 1), Value.slice none 0 0], Value.int IntKind.i64 0]) [])], [CallOK Try.prog 17 [Value.bool ag, Value.int IntKind.i64 n] [] 0 (Value.tuple #[Value.agg #[Value.bool ag, Value.int IntKind.i64 (n + 1), Value.slice none 0 0], Value.int IntKind.i64 0]) []], by kernel_rfl, (ob_cons (new_ok h64.1 h64.2) ob_nil)⟩

theorem law_nile (ag : Bool) (n : Int) (h64 : ¬ (0 ≤ n ∧ n ≤ 64)) : LawOK Try.prog callT 10 100 5 [.bool ag, .int .i64 n, .slice none 0 0] [] 1 := by
  rcases Bool.eq_false_or_eq_true (decide (n < 0)) with h0 | h0
  · exact ⟨[(513, OV.call (Value.tuple #[Value.agg #[Value.bool false, Value.int IntKind.i64 0, Value.slice none 0 0], Value.int IntKind.i64 2]) []), (1217, OV.soft (Value.bool true))], [CallOK Try.prog 17 [Value.bool ag, Value.int IntKind.i64 n] [] 0 (Value.tuple #[Value.agg #[Value.bool false, Value.int IntKind.i64 0, Value.slice none 0 0], Value.int IntKind.i64 2]) [], decide (n < 0) = true], by kernel_rfl, (ob_cons (new_err h64) (ob_cons h0 ob_nil))⟩
  · exact ⟨[(513, OV.call (Value.tuple #[Value.agg #[Value.bool false, Value.int IntKind.i64 0, Value.slice none 0 0], Value.int IntKind.i64 2]) []), (1217, OV.soft (Value.bool false))], [CallOK Try.prog 17 [Value.bool ag, Value.int IntKind.i64 n] [] 0 (Value.tuple #[Value.agg #[Value.bool false, Value.int IntKind.i64 0, Value.slice none 0 0], Value.int IntKind.i64 2]) [], decide (n < 0) = false], Eq.trans (b := some (Value.bool (decide (n > 64)), [CallOK Try.prog 17 [Value.bool ag, Value.int IntKind.i64 n] [] 0 (Value.tuple #[Value.agg #[Value.bool false, Value.int IntKind.i64 0, Value.slice none 0 0], Value.int IntKind.i64 2]) [], decide (n < 0) = false])) (by kernel_rfl) (by rw [decide_eq_true (show n > 64 by have := of_decide_eq_false (p := n < 0) (by assumption); omega)]), (ob_cons (new_err h64) (ob_cons h0 ob_nil))⟩

theorem law_nil (ag : Bool) (n : Int) : LawOK Try.prog callT 10 100 5 [.bool ag, .int .i64 n, .slice none 0 0] [] 1 := by
  by_cases h : 0 ≤ n ∧ n ≤ 64
  · exact law_nilk ag n h
  · exact law_nile ag n h
theorem law_holk (ag : Bool) (n : Int) (h64 : 0 ≤ n ∧ n ≤ 64) : LawOK Try.prog callT 10 100 5 [.bool ag, .int .i64 n, .slice (some ⟨0, 0, some 0⟩) 0 0] [] 1 := by
  exact ⟨[(513, OV.call (Value.tuple #[Value.agg #[Value.bool ag, Value.int IntKind.i64 (n + 1), Value.slice none 0 0], Value.int IntKind.i64 0]) [])], [CallOK Try.prog 17 [Value.bool ag, Value.int IntKind.i64 n] [] 0 (Value.tuple #[Value.agg #[Value.bool ag, Value.int IntKind.i64 (n + 1), Value.slice none 0 0], Value.int IntKind.i64 0]) []], by kernel_rfl, (ob_cons (new_ok h64.1 h64.2) ob_nil)⟩

theorem law_hole (ag : Bool) (n : Int) (h64 : ¬ (0 ≤ n ∧ n ≤ 64)) : LawOK Try.prog callT 10 100 5 [.bool ag, .int .i64 n, .slice (some ⟨0, 0, some 0⟩) 0 0] [] 1 := by
  rcases Bool.eq_false_or_eq_true (decide (n < 0)) with h0 | h0
  · exact ⟨[(513, OV.call (Value.tuple #[Value.agg #[Value.bool false, Value.int IntKind.i64 0, Value.slice none 0 0], Value.int IntKind.i64 2]) []), (1217, OV.soft (Value.bool true))], [CallOK Try.prog 17 [Value.bool ag, Value.int IntKind.i64 n] [] 0 (Value.tuple #[Value.agg #[Value.bool false, Value.int IntKind.i64 0, Value.slice none 0 0], Value.int IntKind.i64 2]) [], decide (n < 0) = true], by kernel_rfl, (ob_cons (new_err h64) (ob_cons h0 ob_nil))⟩
  · exact ⟨[(513, OV.call (Value.tuple #[Value.agg #[Value.bool false, Value.int IntKind.i64 0, Value.slice none 0 0], Value.int IntKind.i64 2]) []), (1217, OV.soft (Value.bool false))], [CallOK Try.prog 17 [Value.bool ag, Value.int IntKind.i64 n] [] 0 (Value.tuple #[Value.agg #[Value.bool false, Value.int IntKind.i64 0, Value.slice none 0 0], Value.int IntKind.i64 2]) [], decide (n < 0) = false], Eq.trans (b := some (Value.bool (decide (n > 64)), [CallOK Try.prog 17 [Value.bool ag, Value.int IntKind.i64 n] [] 0 (Value.tuple #[Value.agg #[Value.bool false, Value.int IntKind.i64 0, Value.slice none 0 0], Value.int IntKind.i64 2]) [], decide (n < 0) = false])) (by kernel_rfl) (by rw [decide_eq_true (show n > 64 by have := of_decide_eq_false (p := n < 0) (by assumption); omega)]), (ob_cons (new_err h64) (ob_cons h0 ob_nil))⟩

theorem law_hol (ag : Bool) (n : Int) : LawOK Try.prog callT 10 100 5 [.bool ag, .int .i64 n, .slice (some ⟨0, 0, some 0⟩) 0 0] [] 1 := by
  by_cases h : 0 ≤ n ∧ n ≤ 64
  · exact law_holk ag n h
  · exact law_hole ag n h
end Go.Proofs.Ytmiheegkilgimaa
