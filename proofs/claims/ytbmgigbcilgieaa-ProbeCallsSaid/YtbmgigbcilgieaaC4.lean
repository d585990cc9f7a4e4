/- ProbeCalls: equal lists are the same; printed by a program of mine. -/
import Derived.Test.YtbmgigbcilgieaaC3
namespace Go.Proofs.Ytbmgigbcilgieaa
open Go.RowKit
set_option linter.unusedVariables false
set_option maxRecDepth 100000
theorem same_last {k : Nat} {us : List Bool} (hk : k = us.length) :
    RoundTo Try.prog callR 10 100 (loopN Try.prog 22 0) 450 450 [0, 1, 5] (.exit 0) (mkF [(0, .slice (some ⟨0, 0, none⟩) us.length us.length), (1, .slice (some ⟨1, 0, none⟩) us.length us.length), (5, .int .i64 (k : Int))] 26 0) [(0, ⟨4, us.map Value.bool, 3⟩), (1, ⟨4, us.map Value.bool, 3⟩)] (mkF [(0, Value.slice (some { block := 0, off := 0 }) us.length us.length), (1, Value.slice (some { block := 1, off := 0 }) us.length us.length), (5, Value.int IntKind.i64 (↑k : Int))] 26 0) [(0, ⟨4, List.map Value.bool us, 3⟩), (1, ⟨4, List.map Value.bool us, 3⟩)] 514 :=
  roundTo_of [(642, OV.soft (Value.bool false))] [] (ps := [decide ((↑k : Int) < (↑us.length : Int)) = false]) (by kernel_rfl) (ob_cons (by simp; omega) ob_nil) (by decide)
theorem same_round {k : Nat} {us : List Bool} (hk : k < us.length) (hl : us.length ≤ 200) :
    RoundTo Try.prog callR 10 100 (loopN Try.prog 22 0) 450 450 [0, 1, 5] .normal (mkF [(0, .slice (some ⟨0, 0, none⟩) us.length us.length), (1, .slice (some ⟨1, 0, none⟩) us.length us.length), (5, .int .i64 (k : Int))] 26 0) [(0, ⟨4, us.map Value.bool, 3⟩), (1, ⟨4, us.map Value.bool, 3⟩)] (mkF [(0, Value.slice (some { block := 0, off := 0 }) us.length us.length), (1, Value.slice (some { block := 1, off := 0 }) us.length us.length), (5, Value.int IntKind.i64 (↑(k + 1) : Int))] 26 0) [(0, ⟨4, List.map Value.bool us, 3⟩), (1, ⟨4, List.map Value.bool us, 3⟩)] 450 :=
  roundTo_of [(642, OV.soft (Value.bool true)), (834, OV.idx k), (898, OV.ld (Value.bool (us.getD k false))), (1090, OV.idx k), (1154, OV.ld (Value.bool (us.getD k false))), (1218, OV.soft (Value.bool false)), (1346, OV.soft (Value.int IntKind.i64 (↑(k + 1) : Int)))] [] (ps := [decide ((↑k : Int) < (↑us.length : Int)) = true, 0 ≤ (↑k : Int) ∧ (↑k : Int) < (↑us.length : Int) ∧ (↑k : Int).toNat = k, (List.map Value.bool us)[0 + k * 1]? = some (Value.bool (us.getD k false)), 0 ≤ (↑k : Int) ∧ (↑k : Int) < (↑us.length : Int) ∧ (↑k : Int).toNat = k, (List.map Value.bool us)[0 + k * 1]? = some (Value.bool (us.getD k false)), (!us.getD k false == us.getD k false) = false, IntKind.i64.wrap ((↑k : Int) + 1) = (↑(k + 1) : Int)]) (by kernel_rfl) (ob_cons (by simp; omega) (ob_cons (by omega) (ob_cons (map_at hk) (ob_cons (by omega) (ob_cons (map_at hk) (ob_cons (by simp) (ob_cons (up1 (by omega)) ob_nil))))))) (by decide)
abbrev sameF (us : List Bool) (k : Nat) : List Value := mkF [(0, .slice (some ⟨0, 0, none⟩) us.length us.length), (1, .slice (some ⟨1, 0, none⟩) us.length us.length), (5, .int .i64 (k : Int))] 26 0
abbrev sameH (us : List Bool) : Heap := [(0, ⟨4, us.map Value.bool, 3⟩), (1, ⟨4, us.map Value.bool, 3⟩)]
theorem same_loop (us : List Bool) (hl : us.length ≤ 200) : LoopOK Try.prog (loopN Try.prog 22 0) (sameF us 0) (sameH us) 450 ⟨.exit 0, sameF us us.length, sameH us, 514, []⟩ :=
  loop_ind callR_spec mixed (LF := 10) (F := 100) (nxb := 450) (keys := [0, 1, 5]) (keysE := [0, 1, 5]) us.length (sameF us) (fun _ => sameH us) (by decide) (by simp) rfl (fun k hk => same_round hk hl) (same_last rfl) (fun h => by cases h)
theorem same_ok (us : List Bool) (hl : us.length ≤ 200) : CallOK Try.prog 22 [.slice (some ⟨0, 0, none⟩) us.length us.length, .slice (some ⟨1, 0, none⟩) us.length us.length] (sameH us) 2 (.bool true) (sameH us) :=
  callOK_of callR_spec mixed (ω := [(322, .soft (.bool false)), (451, .loop [0, 1, 5] (.exit 0) (sameF us us.length) (sameH us) 514)]) (LF := 10) (F := 100)
    (ps := [((us.length : Int) != (us.length : Int)) = false, LoopOK Try.prog (loopN Try.prog 22 0) (sameF us 0) (sameH us) 450 ⟨.exit 0, sameF us us.length, sameH us, 514, []⟩])
    (by kernel_rfl) (ob_cons (by simp) (ob_cons (same_loop us hl) ob_nil))
def prUps (ce cw cr cf : Int) (l : List Bool) : Nat → List Bool
  | 0 => []
  | k + 1 => prUps ce cw cr cf l k ++ [(prAt ce cw cr cf l (k + 1)).up]
theorem prOuts_eq (ce cw cr cf : Int) (l : List Bool) (k : Nat) : prOuts ce cw cr cf l k = (prUps ce cw cr cf l k).map Value.bool := by
  induction k with
  | zero => rfl
  | succ k ih => simp [prOuts, prUps, ih]
theorem prUps_length (ce cw cr cf : Int) (l : List Bool) (k : Nat) : (prUps ce cw cr cf l k).length = k := by
  induction k with
  | zero => rfl
  | succ k ih => simp [prUps, ih]
section
variable (ce cw cr cf : Int) (l : List Bool)
theorem runB (c a0 : Nat) (hl : l.length ≤ 200) (hp : 0 < l.length) (hc : (rcheck_0 ce cw cr cf != 0) = false) : CallOK Try.prog 23 [cfV ce cw cr cf, .slice (some ⟨0, 0, none⟩) l.length c] [(0, ⟨a0, l.map Value.bool, 2⟩)] 1 (.slice (some ⟨641, 0, none⟩) l.length l.length) [(0, ⟨a0, l.map Value.bool, 2⟩), (641, ⟨4, prOuts ce cw cr cf l l.length, 3⟩)] :=
  callOK_of callR_spec mixed (ω := [(257, .soft (.bool false)), (642, .loop [1, 2, 5, 6, 7] (.exit 0) (frB l.length c (.slice (some ⟨641, 0, none⟩) l.length l.length) l.length) (prH ce cw cr cf l a0 641 l.length) 705)]) (LF := 10) (F := 100)
    (ps := [(rcheck_0 ce cw cr cf != 0) = false, LoopOK Try.prog (loopN Try.prog 23 0) (frB l.length c (.slice none 0 0) 0) (prHp ce cw cr cf l a0 641 0) 641 ⟨.exit 0, frB l.length c (.slice (some ⟨641, 0, none⟩) l.length l.length) l.length, prH ce cw cr cf l a0 641 l.length, 705, []⟩])
    (by kernel_rfl) (ob_cons hc (ob_cons (loopB ce cw cr cf l c a0 hl hp) ob_nil))
theorem runA_bad (c a0 : Nat) (hc : (check_0 ce cw cr cf != 0) = true) : CallOK Try.prog 10 [cfV ce cw cr cf, .slice (some ⟨0, 0, none⟩) l.length c] [(0, ⟨a0, l.map Value.bool, 2⟩)] 1 (.slice none 0 0) [(0, ⟨a0, l.map Value.bool, 2⟩)] :=
  callOK_of callR_spec mixed (ω := [(257, .soft (.bool true))]) (LF := 10) (F := 100) (ps := [(check_0 ce cw cr cf != 0) = true]) (by kernel_rfl) (ob_cons hc ob_nil)
theorem runB_bad (c a0 : Nat) (hc : (rcheck_0 ce cw cr cf != 0) = true) : CallOK Try.prog 23 [cfV ce cw cr cf, .slice (some ⟨0, 0, none⟩) l.length c] [(0, ⟨a0, l.map Value.bool, 2⟩)] 1 (.slice none 0 0) [(0, ⟨a0, l.map Value.bool, 2⟩)] :=
  callOK_of callR_spec mixed (ω := [(257, .soft (.bool true))]) (LF := 10) (F := 100) (ps := [(rcheck_0 ce cw cr cf != 0) = true]) (by kernel_rfl) (ob_cons hc ob_nil)
theorem runA_nil : CallOK Try.prog 10 [cfV ce cw cr cf, .slice none 0 0] [] 0 (.slice none 0 0) [] := by
  rcases Bool.eq_false_or_eq_true (check_0 ce cw cr cf != 0) with h | h
  · exact callOK_of callR_spec mixed (ω := [(256, .soft (.bool true))]) (LF := 10) (F := 100) (ps := [(check_0 ce cw cr cf != 0) = true]) (by kernel_rfl) (ob_cons h ob_nil)
  · exact callOK_of callR_spec mixed (ω := [(256, .soft (.bool false))]) (LF := 10) (F := 100) (ps := [(check_0 ce cw cr cf != 0) = false]) (by kernel_rfl) (ob_cons h ob_nil)
theorem runA_hol : CallOK Try.prog 10 [cfV ce cw cr cf, .slice (some ⟨0, 0, some 0⟩) 0 0] [] 0 (.slice none 0 0) [] := by
  rcases Bool.eq_false_or_eq_true (check_0 ce cw cr cf != 0) with h | h
  · exact callOK_of callR_spec mixed (ω := [(256, .soft (.bool true))]) (LF := 10) (F := 100) (ps := [(check_0 ce cw cr cf != 0) = true]) (by kernel_rfl) (ob_cons h ob_nil)
  · exact callOK_of callR_spec mixed (ω := [(256, .soft (.bool false))]) (LF := 10) (F := 100) (ps := [(check_0 ce cw cr cf != 0) = false]) (by kernel_rfl) (ob_cons h ob_nil)
theorem runB_nil : CallOK Try.prog 23 [cfV ce cw cr cf, .slice none 0 0] [] 0 (.slice none 0 0) [] := by
  rcases Bool.eq_false_or_eq_true (rcheck_0 ce cw cr cf != 0) with h | h
  · exact callOK_of callR_spec mixed (ω := [(256, .soft (.bool true))]) (LF := 10) (F := 100) (ps := [(rcheck_0 ce cw cr cf != 0) = true]) (by kernel_rfl) (ob_cons h ob_nil)
  · exact callOK_of callR_spec mixed (ω := [(256, .soft (.bool false))]) (LF := 10) (F := 100) (ps := [(rcheck_0 ce cw cr cf != 0) = false]) (by kernel_rfl) (ob_cons h ob_nil)
theorem runB_hol : CallOK Try.prog 23 [cfV ce cw cr cf, .slice (some ⟨0, 0, some 0⟩) 0 0] [] 0 (.slice none 0 0) [] := by
  rcases Bool.eq_false_or_eq_true (rcheck_0 ce cw cr cf != 0) with h | h
  · exact callOK_of callR_spec mixed (ω := [(256, .soft (.bool true))]) (LF := 10) (F := 100) (ps := [(rcheck_0 ce cw cr cf != 0) = true]) (by kernel_rfl) (ob_cons h ob_nil)
  · exact callOK_of callR_spec mixed (ω := [(256, .soft (.bool false))]) (LF := 10) (F := 100) (ps := [(rcheck_0 ce cw cr cf != 0) = false]) (by kernel_rfl) (ob_cons h ob_nil)
end
end Go.Proofs.Ytbmgigbcilgieaa
