/- Weigh: contracts of the reference, Least; printed by a program of mine. -/
import Derived.Test.YtbjfckcgpbejkaaC4
import Derived.KernelRfl
namespace Go.Proofs.Ytbjfckcgpbejkaa
set_option linter.unusedSectionVars false
open Go.RowKit
set_option linter.unusedSimpArgs false
set_option linter.unusedVariables false
set_option maxRecDepth 100000
variable [Inhabited RawG]
theorem rcheckw {w : Nat}  : CallOK Try.prog 41 [.float .f64 w] [] 0 (.int .i64 (checkW w)) [] := by
  rcases Bool.eq_false_or_eq_true (FloatKind.f64.format.order w 4517110426252607488 == some Ordering.gt || FloatKind.f64.format.order w 4517110426252607488 == some Ordering.eq) with h0 | h0
  · rcases Bool.eq_false_or_eq_true (FloatKind.f64.format.order w 4697254411347427328 == some Ordering.lt || FloatKind.f64.format.order w 4697254411347427328 == some Ordering.eq) with h1 | h1
    · have hv : (.int .i64 (checkW w)) = Value.int IntKind.i64 0 := by first | (simp only [checkW_eq, h0, h1, cond_true, cond_false, Bool.true_and, Bool.and_true, Bool.false_and, Bool.and_false, Bool.not_true, Bool.not_false]; done) | (simp only [checkW_eq, h0, h1, cond_true, cond_false, Bool.true_and, Bool.and_true, Bool.false_and, Bool.and_false, Bool.not_true, Bool.not_false]; rfl) | simp [checkW_eq, h0, h1]
      rw [hv]
      exact (callOK_keep (call := callW) [] callW_spec mixed (ω := [(192, OV.soft (Value.bool true)), (384, OV.soft (Value.bool true))]) (LF := 10) (F := 100) (ps := [(FloatKind.f64.format.order w 4517110426252607488 == some Ordering.gt || FloatKind.f64.format.order w 4517110426252607488 == some Ordering.eq) = true, (FloatKind.f64.format.order w 4697254411347427328 == some Ordering.lt || FloatKind.f64.format.order w 4697254411347427328 == some Ordering.eq) = true]) (by kernel_rfl) (ob_cons h0 (ob_cons h1 ob_nil)))
    · have hv : (.int .i64 (checkW w)) = Value.int IntKind.i64 230 := by first | (simp only [checkW_eq, h0, h1, cond_true, cond_false, Bool.true_and, Bool.and_true, Bool.false_and, Bool.and_false, Bool.not_true, Bool.not_false]; done) | (simp only [checkW_eq, h0, h1, cond_true, cond_false, Bool.true_and, Bool.and_true, Bool.false_and, Bool.and_false, Bool.not_true, Bool.not_false]; rfl) | simp [checkW_eq, h0, h1]
      rw [hv]
      exact (callOK_keep (call := callW) [] callW_spec mixed (ω := [(192, OV.soft (Value.bool true)), (384, OV.soft (Value.bool false))]) (LF := 10) (F := 100) (ps := [(FloatKind.f64.format.order w 4517110426252607488 == some Ordering.gt || FloatKind.f64.format.order w 4517110426252607488 == some Ordering.eq) = true, (FloatKind.f64.format.order w 4697254411347427328 == some Ordering.lt || FloatKind.f64.format.order w 4697254411347427328 == some Ordering.eq) = false]) (by kernel_rfl) (ob_cons h0 (ob_cons h1 ob_nil)))
  · have hv : (.int .i64 (checkW w)) = Value.int IntKind.i64 230 := by first | (simp only [checkW_eq, h0, cond_true, cond_false, Bool.true_and, Bool.and_true, Bool.false_and, Bool.and_false, Bool.not_true, Bool.not_false]; done) | (simp only [checkW_eq, h0, cond_true, cond_false, Bool.true_and, Bool.and_true, Bool.false_and, Bool.and_false, Bool.not_true, Bool.not_false]; rfl) | simp [checkW_eq, h0]
    rw [hv]
    exact (callOK_keep (call := callW) [] callW_spec mixed (ω := [(192, OV.soft (Value.bool false))]) (LF := 10) (F := 100) (ps := [(FloatKind.f64.format.order w 4517110426252607488 == some Ordering.gt || FloatKind.f64.format.order w 4517110426252607488 == some Ordering.eq) = false]) (by kernel_rfl) (ob_cons h0 ob_nil))

theorem fl_t {lds : List Nat} {x o : Nat} {q : Int} (h80 : lds.length ≤ 1000) (hx : x < lds.length) (ho : o < lds.length) (hc : CallOK Try.prog 21 [Value.float FloatKind.f64 (lds.getD x default), Value.float FloatKind.f64 (lds.getD o default)] [] 0 (Value.int IntKind.i64 q) []) (hq : decide (q < 0) = true) : RoundTo Try.prog callW 10 100 (loopN Try.prog 42 0) 193 194 [0, 3, 4] .normal (mkF [(0, .slice (some ⟨0, 0, none⟩) lds.length lds.length), (3, .int .i64 (o : Int)), (4, .int .i64 (x : Int))] 27 0) [(0, ⟨25, lds.map fun e : Nat => Value.float .f64 e, 3⟩)] (mkF [(0, Value.slice (some { block := 0, off := 0 }) lds.length lds.length), (3, Value.int IntKind.i64 (↑x : Int)), (4, Value.int IntKind.i64 (↑(x + 1) : Int))] 27 0) [(0, ⟨25, List.map (fun e => Value.float FloatKind.f64 e) lds, 3⟩)] 194 := by
  have k0 : (decide ((↑x : Int) < (↑lds.length : Int))) = true := (decide_eq_true (by omega))
  have k1 : (decide (q < 0)) = true := hq
  exact roundTo_of [(386, OV.soft (Value.bool true)), (770, OV.idx x), (834, OV.ld (Value.float FloatKind.f64 (lds.getD x default))), (1026, OV.idx o), (1090, OV.ld (Value.float FloatKind.f64 (lds.getD o default))), (1154, OV.call (Value.int IntKind.i64 q) []), (1282, OV.soft (Value.bool true)), (1538, OV.soft (Value.int IntKind.i64 (↑(x + 1) : Int)))] [] (ps := [decide ((↑x : Int) < (↑lds.length : Int)) = true, 0 ≤ (↑x : Int) ∧ (↑x : Int) < (↑lds.length : Int) ∧ (↑x : Int).toNat = x, (List.map (fun e => Value.float FloatKind.f64 e) lds)[0 + x * 1]? = some (Value.float FloatKind.f64 (lds.getD x 0)), 0 ≤ (↑o : Int) ∧ (↑o : Int) < (↑lds.length : Int) ∧ (↑o : Int).toNat = o, (List.map (fun e => Value.float FloatKind.f64 e) lds)[0 + o * 1]? = some (Value.float FloatKind.f64 (lds.getD o 0)), CallOK Try.prog 21 [Value.float FloatKind.f64 (lds.getD x default), Value.float FloatKind.f64 (lds.getD o default)] [] 0 (Value.int IntKind.i64 q) [], decide (q < 0) = true, IntKind.i64.wrap ((↑x : Int) + 1) = (↑(x + 1) : Int)]) (by kernel_rfl) (ob_cons k0 (ob_cons (by omega) (ob_cons (map_at hx) (ob_cons (by omega) (ob_cons (map_at ho) (ob_cons hc (ob_cons k1 (ob_cons (up1 (by omega)) ob_nil)))))))) (by decide)

theorem fl_f {lds : List Nat} {x o : Nat} {q : Int} (h80 : lds.length ≤ 1000) (hx : x < lds.length) (ho : o < lds.length) (hc : CallOK Try.prog 21 [Value.float FloatKind.f64 (lds.getD x default), Value.float FloatKind.f64 (lds.getD o default)] [] 0 (Value.int IntKind.i64 q) []) (hq : decide (q < 0) = false) : RoundTo Try.prog callW 10 100 (loopN Try.prog 42 0) 193 194 [0, 3, 4] .normal (mkF [(0, .slice (some ⟨0, 0, none⟩) lds.length lds.length), (3, .int .i64 (o : Int)), (4, .int .i64 (x : Int))] 27 0) [(0, ⟨25, lds.map fun e : Nat => Value.float .f64 e, 3⟩)] (mkF [(0, Value.slice (some { block := 0, off := 0 }) lds.length lds.length), (3, Value.int IntKind.i64 (↑o : Int)), (4, Value.int IntKind.i64 (↑(x + 1) : Int))] 27 0) [(0, ⟨25, List.map (fun e => Value.float FloatKind.f64 e) lds, 3⟩)] 194 := by
  have k0 : (decide ((↑x : Int) < (↑lds.length : Int))) = true := (decide_eq_true (by omega))
  have k1 : (decide (q < 0)) = false := hq
  exact roundTo_of [(386, OV.soft (Value.bool true)), (770, OV.idx x), (834, OV.ld (Value.float FloatKind.f64 (lds.getD x default))), (1026, OV.idx o), (1090, OV.ld (Value.float FloatKind.f64 (lds.getD o default))), (1154, OV.call (Value.int IntKind.i64 q) []), (1282, OV.soft (Value.bool false)), (1410, OV.soft (Value.int IntKind.i64 (↑(x + 1) : Int)))] [] (ps := [decide ((↑x : Int) < (↑lds.length : Int)) = true, 0 ≤ (↑x : Int) ∧ (↑x : Int) < (↑lds.length : Int) ∧ (↑x : Int).toNat = x, (List.map (fun e => Value.float FloatKind.f64 e) lds)[0 + x * 1]? = some (Value.float FloatKind.f64 (lds.getD x 0)), 0 ≤ (↑o : Int) ∧ (↑o : Int) < (↑lds.length : Int) ∧ (↑o : Int).toNat = o, (List.map (fun e => Value.float FloatKind.f64 e) lds)[0 + o * 1]? = some (Value.float FloatKind.f64 (lds.getD o 0)), CallOK Try.prog 21 [Value.float FloatKind.f64 (lds.getD x default), Value.float FloatKind.f64 (lds.getD o default)] [] 0 (Value.int IntKind.i64 q) [], decide (q < 0) = false, IntKind.i64.wrap ((↑x : Int) + 1) = (↑(x + 1) : Int)]) (by kernel_rfl) (ob_cons k0 (ob_cons (by omega) (ob_cons (map_at hx) (ob_cons (by omega) (ob_cons (map_at ho) (ob_cons hc (ob_cons k1 (ob_cons (up1 (by omega)) ob_nil)))))))) (by decide)

theorem fl_e {lds : List Nat} {x o : Nat} {q : Int} (hx : x = lds.length) : RoundTo Try.prog callW 10 100 (loopN Try.prog 42 0) 193 194 [0, 3] (.exit 0) (mkF [(0, .slice (some ⟨0, 0, none⟩) lds.length lds.length), (3, .int .i64 (o : Int)), (4, .int .i64 (x : Int))] 27 0) [(0, ⟨25, lds.map fun e : Nat => Value.float .f64 e, 3⟩)] (mkF [(0, Value.slice (some { block := 0, off := 0 }) lds.length lds.length), (3, Value.int IntKind.i64 (↑o : Int))] 27 0) [(0, ⟨25, List.map (fun e => Value.float FloatKind.f64 e) lds, 3⟩)] 258 := by
  have k0 : (decide ((↑x : Int) < (↑lds.length : Int))) = false := (decide_eq_false (by omega))
  exact roundTo_of [(386, OV.soft (Value.bool false))] [] (ps := [decide ((↑x : Int) < (↑lds.length : Int)) = false]) (by kernel_rfl) (ob_cons k0 ob_nil) (by decide)

theorem fl_0 {lds : List Nat} (hx : 0 < lds.length) : RoundTo Try.prog callW 10 100 (loopN Try.prog 42 0) 193 194 [0, 3, 4] .normal (mkF [(0, .slice (some ⟨0, 0, none⟩) lds.length lds.length), (3, .int .i64 (-1)), (4, .int .i64 (0 : Int))] 27 0) [(0, ⟨25, lds.map fun e : Nat => Value.float .f64 e, 3⟩)] (mkF [(0, Value.slice (some { block := 0, off := 0 }) lds.length lds.length), (3, Value.int IntKind.i64 0), (4, Value.int IntKind.i64 1)] 27 0) [(0, ⟨25, List.map (fun e => Value.float FloatKind.f64 e) lds, 3⟩)] 194 := by
  have k0 : (decide (0 < (↑lds.length : Int))) = true := (decide_eq_true (by omega))
  exact roundTo_of [(386, OV.soft (Value.bool true))] [] (ps := [decide (0 < (↑lds.length : Int)) = true]) (by kernel_rfl) (ob_cons k0 ob_nil) (by decide)

/-- The place of the first least one of the first so many. -/
def idxN (lds : List Nat) : Nat → Nat
  | 0 => 0
  | x + 1 => bif decide (cmpE (lds.getD (x + 1) 0) (lds.getD (idxN lds x) 0) < 0) then x + 1 else idxN lds x
theorem idx_le {lds : List Nat} : ∀ x, idxN lds x ≤ x
  | 0 => Nat.le_refl _
  | x + 1 => by
    have := idx_le (lds := lds) x
    simp only [idxN]
    cases decide (cmpE (lds.getD (x + 1) 0) (lds.getD (idxN lds x) 0) < 0) with
    | true => exact Nat.le_refl _
    | false => exact Nat.le_succ_of_le this
def stI (lds : List Nat) : Nat → Int
  | 0 => -1
  | x + 1 => (idxN lds x : Int)
theorem fl_loop {lds : List Nat} (hp : 0 < lds.length) (h80 : lds.length ≤ 1000) (hw : ∀ y, y < lds.length → lds.getD y 0 < 18446744073709551616) : LoopOK Try.prog (loopN Try.prog 42 0) (mkF [(0, .slice (some ⟨0, 0, none⟩) lds.length lds.length), (3, .int .i64 (-1)), (4, .int .i64 (0 : Int))] 27 0) [(0, ⟨25, lds.map fun e : Nat => Value.float .f64 e, 3⟩)] 193 ⟨.exit 0, mkF [(0, .slice (some ⟨0, 0, none⟩) lds.length lds.length), (3, .int .i64 (stI lds lds.length))] 27 0, [(0, ⟨25, lds.map fun e : Nat => Value.float .f64 e, 3⟩)], 258, []⟩ := by
  have h9 := loop_ind callW_spec mixed (LF := 10) (F := 100) (x := loopN Try.prog 42 0) (nx0 := 193) (o := ⟨.exit 0, mkF [(0, .slice (some ⟨0, 0, none⟩) lds.length lds.length), (3, .int .i64 (stI lds lds.length))] 27 0, [(0, ⟨25, lds.map fun e : Nat => Value.float .f64 e, 3⟩)], 258, []⟩) (nxb := 194) (keys := [0, 3, 4]) (keysE := [0, 3]) lds.length (fun x => mkF [(0, .slice (some ⟨0, 0, none⟩) lds.length lds.length), (3, .int .i64 (stI lds x)), (4, .int .i64 (x : Int))] 27 0) (fun _ => [(0, ⟨25, lds.map fun e : Nat => Value.float .f64 e, 3⟩)]) (by decide) (by simp) rfl ?_ ?_ (fun h => by cases h)
  · exact h9
  · intro y hy
    cases y with
    | zero => exact fl_0 hy
    | succ y =>
      have hi := idx_le (lds := lds) y
      have hc := rcompare_ok (hw (y + 1) hy) (hw (idxN lds y) (by omega))
      show RoundTo _ _ _ _ _ _ _ _ _ (mkF [(0, .slice (some ⟨0, 0, none⟩) lds.length lds.length), (3, .int .i64 (idxN lds y : Int)), (4, .int .i64 (((y + 1 : Nat) : Int) : Int))] 27 0) _ (mkF [(0, .slice (some ⟨0, 0, none⟩) lds.length lds.length), (3, .int .i64 (idxN lds (y + 1) : Int)), (4, .int .i64 (((y + 1 + 1 : Nat) : Int) : Int))] 27 0) _ _
      rcases Bool.eq_false_or_eq_true (decide (cmpE (lds.getD (y + 1) 0) (lds.getD (idxN lds y) 0) < 0)) with hq | hq
      · rw [show idxN lds (y + 1) = y + 1 by simp only [idxN, hq, cond_true]]
        exact fl_t h80 hy (by omega) hc hq
      · rw [show idxN lds (y + 1) = idxN lds y by simp only [idxN, hq, cond_false]]
        exact fl_f h80 hy (by omega) hc hq
  · have e : stI lds lds.length = (idxN lds (lds.length - 1) : Int) := by
      obtain ⟨k, hk⟩ : ∃ k, lds.length = k + 1 := ⟨lds.length - 1, by omega⟩
      rw [hk]; rfl
    rw [e]
    exact fl_e (q := 0) rfl
theorem fl_a {lds : List Nat} {o : Int} (hL : LoopOK Try.prog (loopN Try.prog 42 0) (mkF [(0, .slice (some ⟨0, 0, none⟩) lds.length lds.length), (3, .int .i64 (-1)), (4, .int .i64 (0 : Int))] 27 0) [(0, ⟨25, lds.map fun e : Nat => Value.float .f64 e, 3⟩)] 193 ⟨.exit 0, mkF [(0, .slice (some ⟨0, 0, none⟩) lds.length lds.length), (3, .int .i64 o)] 27 0, [(0, ⟨25, lds.map fun e : Nat => Value.float .f64 e, 3⟩)], 258, []⟩) : CallOK Try.prog 42 [.slice (some ⟨0, 0, none⟩) lds.length lds.length] [(0, ⟨25, lds.map fun e : Nat => Value.float .f64 e, 3⟩)] 1 (.int .i64 o) [(0, ⟨25, lds.map fun e : Nat => Value.float .f64 e, 3⟩)] := by
  exact (callOK_keep (call := callW) [0] callW_spec mixed (ω := [(194, OV.loop [0, 3, 4] (AX.exit 0) (mkF [(0, Value.slice (some { block := 0, off := 0 }) lds.length lds.length), (3, Value.int IntKind.i64 o)] 27 0) [(0, { elem := 25, cells := List.map (fun e => Value.float FloatKind.f64 e) lds, mode := 3 })] 258)]) (LF := 10) (F := 100) (ps := [LoopOK Try.prog (loopN Try.prog 42 0) (mkF [(0, .slice (some ⟨0, 0, none⟩) lds.length lds.length), (3, .int .i64 (-1)), (4, .int .i64 (0 : Int))] 27 0) [(0, ⟨25, lds.map fun e : Nat => Value.float .f64 e, 3⟩)] 193 ⟨.exit 0, mkF [(0, .slice (some ⟨0, 0, none⟩) lds.length lds.length), (3, .int .i64 o)] 27 0, [(0, ⟨25, lds.map fun e : Nat => Value.float .f64 e, 3⟩)], 258, []⟩]) (by kernel_rfl) (ob_cons hL ob_nil))

end Go.Proofs.Ytbjfckcgpbejkaa
