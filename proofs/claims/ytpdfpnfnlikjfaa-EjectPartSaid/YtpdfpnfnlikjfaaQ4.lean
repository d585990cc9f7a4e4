/- EjectPart: the law's paths; printed by a program of mine. -/
import Derived.Test.YtpdfpnfnlikjfaaQ3
import Derived.KernelRfl
namespace Go.Proofs.Ytpdfpnfnlikjfaa
open Go.RowKit
set_option linter.unusedSimpArgs false
set_option linter.unusedVariables false
set_option maxRecDepth 100000
theorem law_p (cf cb cm cp n : Int) (acts : List ActT) (c el T : Nat) (ht : IntKind.i64.wrap (1 + pick_0 n 20) = (T : Int)) (hT1 : 1 ≤ T) (hT : T ≤ 20) (hp : 0 < acts.length) : LawOK Try.prog callL 10 100 5 [.agg #[.int .i64 cf, .int .i64 cb, .int .i64 cm, .int .i64 cp], .int .i64 n, .slice (some ⟨0, 0, none⟩) acts.length c] [(0, ⟨el, acts.flatMap actF, 2⟩)] 1 := by
  rcases Bool.eq_false_or_eq_true (decide ((↑acts.length : Int) > 80)) with h0 | h0
  · exact ⟨[(385, OV.soft (Value.int IntKind.i64 (↑T : Int))), (705, OV.soft (Value.bool true))], [IntKind.i64.wrap (1 + pick_0 n 20) = (↑T : Int), decide ((↑acts.length : Int) > 80) = true], by kernel_rfl, (ob_cons ht (ob_cons h0 ob_nil))⟩
  · rcases Bool.eq_false_or_eq_true (check_0 cf cb cm cp != 0) with h1 | h1
    · exact ⟨[(385, OV.soft (Value.int IntKind.i64 (↑T : Int))), (705, OV.soft (Value.bool false)), (961, OV.soft (Value.bool true))], [IntKind.i64.wrap (1 + pick_0 n 20) = (↑T : Int), decide ((↑acts.length : Int) > 80) = false, (check_0 cf cb cm cp != 0) = true], by kernel_rfl, (ob_cons ht (ob_cons h0 (ob_cons h1 ob_nil)))⟩
    · exact ⟨[(385, OV.soft (Value.int IntKind.i64 (↑T : Int))), (705, OV.soft (Value.bool false)), (961, OV.soft (Value.bool false)), (1089, OV.mk T (List.flatMap ejF (List.replicate T (0, 0, 0)))), (1346, OV.loop [1, 2, 3, 7, 8, 9] (AX.exit 0) (fq0 T acts.length c 1345 acts.length (qs cf cb cm cp T acts acts.length).fst) (hq0 cf cb cm cp acts el 1345 (qs cf cb cm cp T acts acts.length).snd) 1409)], [IntKind.i64.wrap (1 + pick_0 n 20) = (↑T : Int), decide ((↑acts.length : Int) > 80) = false, (check_0 cf cb cm cp != 0) = false, (↑T : Int) = (↑T : Int), (↑T : Int) = (↑T : Int), T ≤ 9223372036854775807 ∧ 24 * T ≤ 281474976710656, (rowZero (T * 3) (Value.agg #[Value.int IntKind.i64 0, Value.int IntKind.i64 0, Value.int IntKind.i64 0]).cells).toList = List.flatMap ejF (List.replicate T (0, 0, 0)), LoopOK Try.prog (loopN Try.prog 5 0) (fq0 T acts.length c 1089 0 0) (hq0 cf cb cm cp acts el 1089 (List.replicate T (0, 0, 0))) 1345 ⟨.exit 0, fq0 T acts.length c 1345 acts.length (qs cf cb cm cp T acts acts.length).1, hq0 cf cb cm cp acts el 1345 (qs cf cb cm cp T acts acts.length).2, 1409, []⟩], by kernel_rfl, (ob_cons ht (ob_cons h0 (ob_cons h1 (ob_cons rfl (ob_cons rfl (ob_cons (by omega) (ob_cons (row3 T) (ob_cons (q_outer (check_ne h1) hp (by simp only [decide_eq_false_iff_not] at h0; omega) (by omega) hT1) ob_nil))))))))⟩

theorem law_pnil (cf cb cm cp n : Int) (T : Nat) (ht : IntKind.i64.wrap (1 + pick_0 n 20) = (T : Int)) (hT1 : 1 ≤ T) (hT : T ≤ 20) : LawOK Try.prog callL 10 100 5 [.agg #[.int .i64 cf, .int .i64 cb, .int .i64 cm, .int .i64 cp], .int .i64 n, .slice none 0 0] [] 1 := by
  rcases Bool.eq_false_or_eq_true (check_0 cf cb cm cp != 0) with h0 | h0
  · exact ⟨[(385, OV.soft (Value.int IntKind.i64 (↑T : Int))), (961, OV.soft (Value.bool true))], [IntKind.i64.wrap (1 + pick_0 n 20) = (↑T : Int), (check_0 cf cb cm cp != 0) = true], by kernel_rfl, (ob_cons ht (ob_cons h0 ob_nil))⟩
  · exact ⟨[(385, OV.soft (Value.int IntKind.i64 (↑T : Int))), (961, OV.soft (Value.bool false)), (1089, OV.mk T (List.flatMap ejF (List.replicate T (0, 0, 0))))], [IntKind.i64.wrap (1 + pick_0 n 20) = (↑T : Int), (check_0 cf cb cm cp != 0) = false, (↑T : Int) = (↑T : Int), (↑T : Int) = (↑T : Int), T ≤ 9223372036854775807 ∧ 24 * T ≤ 281474976710656, (rowZero (T * 3) (Value.agg #[Value.int IntKind.i64 0, Value.int IntKind.i64 0, Value.int IntKind.i64 0]).cells).toList = List.flatMap ejF (List.replicate T (0, 0, 0))], by kernel_rfl, (ob_cons ht (ob_cons h0 (ob_cons rfl (ob_cons rfl (ob_cons (by omega) (ob_cons (row3 T) ob_nil))))))⟩

theorem law_phol (cf cb cm cp n : Int) (T : Nat) (ht : IntKind.i64.wrap (1 + pick_0 n 20) = (T : Int)) (hT1 : 1 ≤ T) (hT : T ≤ 20) : LawOK Try.prog callL 10 100 5 [.agg #[.int .i64 cf, .int .i64 cb, .int .i64 cm, .int .i64 cp], .int .i64 n, .slice (some ⟨0, 0, some 0⟩) 0 0] [] 1 := by
  rcases Bool.eq_false_or_eq_true (check_0 cf cb cm cp != 0) with h0 | h0
  · exact ⟨[(385, OV.soft (Value.int IntKind.i64 (↑T : Int))), (961, OV.soft (Value.bool true))], [IntKind.i64.wrap (1 + pick_0 n 20) = (↑T : Int), (check_0 cf cb cm cp != 0) = true], by kernel_rfl, (ob_cons ht (ob_cons h0 ob_nil))⟩
  · exact ⟨[(385, OV.soft (Value.int IntKind.i64 (↑T : Int))), (961, OV.soft (Value.bool false)), (1089, OV.mk T (List.flatMap ejF (List.replicate T (0, 0, 0))))], [IntKind.i64.wrap (1 + pick_0 n 20) = (↑T : Int), (check_0 cf cb cm cp != 0) = false, (↑T : Int) = (↑T : Int), (↑T : Int) = (↑T : Int), T ≤ 9223372036854775807 ∧ 24 * T ≤ 281474976710656, (rowZero (T * 3) (Value.agg #[Value.int IntKind.i64 0, Value.int IntKind.i64 0, Value.int IntKind.i64 0]).cells).toList = List.flatMap ejF (List.replicate T (0, 0, 0))], by kernel_rfl, (ob_cons ht (ob_cons h0 (ob_cons rfl (ob_cons rfl (ob_cons (by omega) (ob_cons (row3 T) ob_nil))))))⟩

theorem law_blk (cf cb cm cp n : Int) (acts : List ActT) (c el : Nat) (hp : 0 < acts.length) (_ : acts.length ≤ c) : LawOK Try.prog callL 10 100 5 [.agg #[.int .i64 cf, .int .i64 cb, .int .i64 cm, .int .i64 cp], .int .i64 n, .slice (some ⟨0, 0, none⟩) acts.length c] [(0, ⟨el, acts.flatMap actF, 2⟩)] 1 := by
  obtain ⟨p1, p2⟩ := pick_rng2 n
  have ht : IntKind.i64.wrap (1 + pick_0 n 20) = (((1 + pick_0 n 20).toNat : Nat) : Int) := by rw [w64 (by omega)]; omega
  exact law_p cf cb cm cp n acts c el _ ht (by omega) (by omega) hp
theorem law_nil (cf cb cm cp n : Int) : LawOK Try.prog callL 10 100 5 [.agg #[.int .i64 cf, .int .i64 cb, .int .i64 cm, .int .i64 cp], .int .i64 n, .slice none 0 0] [] 1 := by
  obtain ⟨p1, p2⟩ := pick_rng2 n
  have ht : IntKind.i64.wrap (1 + pick_0 n 20) = (((1 + pick_0 n 20).toNat : Nat) : Int) := by rw [w64 (by omega)]; omega
  exact law_pnil cf cb cm cp n _ ht (by omega) (by omega)
theorem law_hol (cf cb cm cp n : Int) : LawOK Try.prog callL 10 100 5 [.agg #[.int .i64 cf, .int .i64 cb, .int .i64 cm, .int .i64 cp], .int .i64 n, .slice (some ⟨0, 0, some 0⟩) 0 0] [] 1 := by
  obtain ⟨p1, p2⟩ := pick_rng2 n
  have ht : IntKind.i64.wrap (1 + pick_0 n 20) = (((1 + pick_0 n 20).toNat : Nat) : Int) := by rw [w64 (by omega)]; omega
  exact law_phol cf cb cm cp n _ ht (by omega) (by omega)
end Go.Proofs.Ytpdfpnfnlikjfaa
