/- EjectLonger: the law's paths; printed by a program of mine. -/
import Derived.Test.YtpdfpnfnlikjfaaL3
namespace Go.Proofs.Ytpdfpnfnlikjfaa
open Go.RowKit
set_option linter.unusedSimpArgs false
set_option linter.unusedVariables false
set_option maxRecDepth 100000
theorem law_exit (cf cb cm cp times : Int) (T : Nat) (hc : ConfOK cf cb cm 100) (hb : cf ≤ 40) (hT : T ≤ 100) (hT1 : 1 ≤ T) (ht : IntKind.i64.wrap (1 + pick_0 times 30) = (T : Int)) (h : ∀ k, k < T → ¬ 253402300799 ≤ nowK cb cm (k + 1)) : LawOK Try.prog callL 10 100 6 [.agg #[.int .i64 cf, .int .i64 cb, .int .i64 cm, .int .i64 cp], .int .i64 times] [] 0 := by
  have k0 : (check_0 cf cb cm 100 != 0) = false := by rw [check_of hc]; rfl
  have k1 : (decide (cf > 40)) = false := by simp; omega
  exact ⟨[(512, OV.soft (Value.int IntKind.i64 (↑T : Int))), (832, OV.soft (Value.bool false)), (1088, OV.soft (Value.bool false)), (1152, OV.mk 1 (List.flatMap ejF [(0, 0, 0)])), (1473, OV.loop [1, 2, 5, 6, 7, 8] (AX.exit 0) (frO T T (nowK cb cm T) (lng cb cm (↑T : Int)) 1472) (hE cf cb cm 1472 (0, (↑T : Int), nowK cb cm T)) 1536), (1728, OV.call (Value.tuple #[Value.slice (some { block := 2241, off := 0 }) 1 1, Value.int IntKind.i64 0]) [(0, { elem := 27, cells := [Value.int IntKind.i64 0, Value.int IntKind.i64 (↑T : Int), Value.int IntKind.i64 (nowK cb cm T)], mode := 3 }), (2241, { elem := 27, cells := [Value.int IntKind.i64 0, Value.int IntKind.i64 0, Value.int IntKind.i64 (nowK cb cm T)], mode := 3 })])], [IntKind.i64.wrap (1 + pick_0 times 30) = (↑T : Int), (check_0 cf cb cm 100 != 0) = false, decide (cf > 40) = false, 1 = (↑1 : Int), 1 = (↑1 : Int), 1 ≤ 9223372036854775807 ∧ 24 ≤ 281474976710656, (rowZero (1 * 3) #[Value.int .i64 0, Value.int .i64 0, Value.int .i64 0]).toList = [((0 : Int), (0 : Int), (0 : Int))].flatMap ejF, LoopOK Try.prog (loopN Try.prog 6 0) (stO cb cm T 0) (hpO cf cb cm 0) 1472 ⟨.exit 0, frO T T (nowK cb cm T) (lng cb cm (T : Int)) 1472, hE cf cb cm 1472 (0, (T : Int), nowK cb cm T), 1536, []⟩, CallOK Try.prog 10 [Value.agg #[Value.int IntKind.i64 cf, Value.int IntKind.i64 cb, Value.int IntKind.i64 cm, Value.int IntKind.i64 100], Value.slice (some { block := 0, off := 0 }) 1 1, Value.int IntKind.i64 0, Value.bool true, Value.int IntKind.i64 (nowK cb cm T)] [(0, { elem := 27, cells := [Value.int IntKind.i64 0, Value.int IntKind.i64 (↑T : Int), Value.int IntKind.i64 (nowK cb cm T)], mode := 3 })] 1 (Value.tuple #[Value.slice (some { block := 2241, off := 0 }) 1 1, Value.int IntKind.i64 0]) [(0, { elem := 27, cells := [Value.int IntKind.i64 0, Value.int IntKind.i64 (↑T : Int), Value.int IntKind.i64 (nowK cb cm T)], mode := 3 }), (2241, { elem := 27, cells := [Value.int IntKind.i64 0, Value.int IntKind.i64 0, Value.int IntKind.i64 (nowK cb cm T)], mode := 3 })]], by kernel_rfl, (ob_cons ht (ob_cons k0 (ob_cons k1 (ob_cons rfl (ob_cons rfl (ob_cons (by decide) (ob_cons (by kernel_rfl) (ob_cons (out_loop hc hb hT hT1 h) (ob_cons (by have := report_ok3 (c := 1) (el := 27) (well := true) (l := [(0, (T : Int), nowK cb cm T)]) (k := 0) (by simp) (by simp) (may_of hc (nowK_le hc.b1 hc.m1 T) (by have := h (T - 1) (by omega); rw [show T - 1 + 1 = T by omega] at this; omega)); rw [rep_well (Int.le_refl _)] at this; exact this) ob_nil)))))))))⟩

theorem law_ret (cf cb cm cp times : Int) (T : Nat) (hc : ConfOK cf cb cm 100) (hb : cf ≤ 40) (hT : T ≤ 100) (ht : IntKind.i64.wrap (1 + pick_0 times 30) = (T : Int)) {k : Nat} (hk : k < T) (hk2 : 253402300799 ≤ nowK cb cm (k + 1)) (h : ∀ j, j < k → ¬ 253402300799 ≤ nowK cb cm (j + 1)) : LawOK Try.prog callL 10 100 6 [.agg #[.int .i64 cf, .int .i64 cb, .int .i64 cm, .int .i64 cp], .int .i64 times] [] 0 := by
  have k0 : (check_0 cf cb cm 100 != 0) = false := by rw [check_of hc]; rfl
  have k1 : (decide (cf > 40)) = false := by simp; omega
  exact ⟨[(512, OV.soft (Value.int IntKind.i64 (↑T : Int))), (832, OV.soft (Value.bool false)), (1088, OV.soft (Value.bool false)), (1152, OV.mk 1 (List.flatMap ejF [(0, 0, 0)])), (1473, OV.loop [1, 2, 5, 6, 7, 8] AX.ret (mkF [(4, Value.bool true)] 129 0) [] 1536)], [IntKind.i64.wrap (1 + pick_0 times 30) = (↑T : Int), (check_0 cf cb cm 100 != 0) = false, decide (cf > 40) = false, 1 = (↑1 : Int), 1 = (↑1 : Int), 1 ≤ 9223372036854775807 ∧ 24 ≤ 281474976710656, (rowZero (1 * 3) #[Value.int .i64 0, Value.int .i64 0, Value.int .i64 0]).toList = [((0 : Int), (0 : Int), (0 : Int))].flatMap ejF, LoopOK Try.prog (loopN Try.prog 6 0) (stO cb cm T 0) (hpO cf cb cm 0) 1472 ⟨.ret, mkF [(4, .bool true)] 129 0, [], 1536, []⟩], by kernel_rfl, (ob_cons ht (ob_cons k0 (ob_cons k1 (ob_cons rfl (ob_cons rfl (ob_cons (by decide) (ob_cons (by kernel_rfl) (ob_cons (out_loop_ret hc hb hT hk hk2 h) ob_nil))))))))⟩

theorem pick_rng (times : Int) : 0 ≤ pick_0 times 30 ∧ pick_0 times 30 < 30 := by
  have h1 := Int.tmod_lt_of_pos times (show (0 : Int) < 30 by decide)
  have h2 := Int.lt_tmod_of_pos times (show (0 : Int) < 30 by decide)
  unfold pick_0
  rw [show decide ((30 : Int) < 1) = false from rfl]
  simp only [cond_false]
  by_cases h : times.tmod 30 < 0
  · rw [show decide (times.tmod 30 < 0) = true by simpa using h]
    simp only [cond_true]
    rw [w64 (by omega)]
    omega
  · rw [show decide (times.tmod 30 < 0) = false by simpa using h]
    simp only [cond_false]
    omega
theorem law_bad (cf cb cm cp times : Int) (h : (check_0 cf cb cm 100 != 0) = true) : LawOK Try.prog callL 10 100 6 [.agg #[.int .i64 cf, .int .i64 cb, .int .i64 cm, .int .i64 cp], .int .i64 times] [] 0 := by
  have k0 : (check_0 cf cb cm 100 != 0) = true := h
  exact ⟨[(832, OV.soft (Value.bool true))], [(check_0 cf cb cm 100 != 0) = true], by kernel_rfl, (ob_cons k0 ob_nil)⟩

theorem law_many (cf cb cm cp times : Int) (h : (check_0 cf cb cm 100 != 0) = false) (h2 : decide (cf > 40) = true) : LawOK Try.prog callL 10 100 6 [.agg #[.int .i64 cf, .int .i64 cb, .int .i64 cm, .int .i64 cp], .int .i64 times] [] 0 := by
  have k0 : (check_0 cf cb cm 100 != 0) = false := h
  have k1 : (decide (cf > 40)) = true := h2
  exact ⟨[(832, OV.soft (Value.bool false)), (1088, OV.soft (Value.bool true))], [(check_0 cf cb cm 100 != 0) = false, decide (cf > 40) = true], by kernel_rfl, (ob_cons k0 (ob_cons k1 ob_nil))⟩

theorem law_any (cf cb cm cp times : Int) : LawOK Try.prog callL 10 100 6 [.agg #[.int .i64 cf, .int .i64 cb, .int .i64 cm, .int .i64 cp], .int .i64 times] [] 0 := by
  rcases Bool.eq_false_or_eq_true (check_0 cf cb cm 100 != 0) with h | h
  · exact law_bad cf cb cm cp times h
  rcases Bool.eq_false_or_eq_true (decide (cf > 40)) with h2 | h2
  · exact law_many cf cb cm cp times h h2
  have hc := check_ne h
  have hb : cf ≤ 40 := by simpa using h2
  obtain ⟨p1, p2⟩ := pick_rng times
  have ht : IntKind.i64.wrap (1 + pick_0 times 30) = (((1 + pick_0 times 30).toNat : Nat) : Int) := by rw [w64 (by omega)]; omega
  generalize hT : (1 + pick_0 times 30).toNat = T at ht
  rcases first_or (fun k => 253402300799 ≤ nowK cb cm (k + 1)) T with h3 | ⟨k, h3, h4, h5⟩
  · exact law_exit cf cb cm cp times T hc hb (by omega) (by omega) ht h3
  · exact law_ret cf cb cm cp times T hc hb (by omega) ht h3 h4 h5
end Go.Proofs.Ytpdfpnfnlikjfaa
