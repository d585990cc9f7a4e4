/- Attempt: which backends are left, in plain words. -/
import Derived.Test.YtmiheegkilgimaaT7
namespace Go.Proofs.Ytmiheegkilgimaa
open Go.RowKit
set_option linter.unusedSimpArgs false
set_option linter.unusedVariables false
def triedB (ts : List Try3) (i : Int) : Bool := ts.any fun t => t.1 == i
def keptE (ts : List Try3) (ms : List Int) : List Int := ms.filter fun m => !triedB ts m
def amongE (ts : List Try3) (ms : List Int) : List Int := if (keptE ts ms).length = 0 then ms else keptE ts ms
def dfL (ts : List Try3) (ms : List Int) (j : Nat) : List Int := keptE ts (ms.take j) ++ ms.drop (keptE ts (ms.take j)).length
section
variable {ts : List Try3} {ms : List Int} {j : Nat}
theorem kept_le : (keptE ts (ms.take j)).length ≤ j := Nat.le_trans (List.length_filter_le _ _) (by simp; omega)
theorem kept_le2 : (keptE ts ms).length ≤ ms.length := List.length_filter_le _ _
theorem dfL_len : (dfL ts ms j).length = ms.length := by
  have h1 : (keptE ts (ms.take j)).length ≤ ms.length := Nat.le_trans (List.length_filter_le _ _) (by simp; omega)
  unfold dfL
  simp only [List.length_append, List.length_drop]
  omega
theorem dfL_get (hj : j < ms.length) : (dfL ts ms j).getD j 0 = ms.getD j 0 := by
  have h1 := kept_le (ts := ts) (ms := ms) (j := j)
  unfold dfL
  rw [List.getD_eq_getElem?_getD, List.getElem?_append_right h1, List.getElem?_drop, Nat.add_sub_cancel' h1, List.getD_eq_getElem?_getD]
theorem take_next (hj : j < ms.length) : ms.take (j + 1) = ms.take j ++ [ms.getD j 0] := by
  rw [List.take_add_one, List.getElem?_eq_getElem hj, List.getD_eq_getElem?_getD, List.getElem?_eq_getElem hj]; rfl
theorem kept_skip (hj : j < ms.length) (h : triedB ts (ms.getD j 0) = true) : keptE ts (ms.take (j + 1)) = keptE ts (ms.take j) := by
  unfold keptE
  rw [take_next hj, List.filter_append]
  simp only [List.filter_cons, h, Bool.not_true, List.filter_nil, Bool.false_eq_true, if_false, List.append_nil]
theorem kept_keep (hj : j < ms.length) (h : triedB ts (ms.getD j 0) = false) : keptE ts (ms.take (j + 1)) = keptE ts (ms.take j) ++ [ms.getD j 0] := by
  unfold keptE
  rw [take_next hj, List.filter_append]
  simp only [List.filter_cons, h, Bool.not_false, List.filter_nil, if_true]
theorem dfL_skip (hj : j < ms.length) (h : triedB ts (ms.getD j 0) = true) : dfL ts ms (j + 1) = dfL ts ms j := by
  unfold dfL; rw [kept_skip hj h]
theorem dfL_keep (hj : j < ms.length) (h : triedB ts (ms.getD j 0) = false) : dfL ts ms (j + 1) = (dfL ts ms j).set (keptE ts (ms.take j)).length (ms.getD j 0) := by
  have h1 := kept_le (ts := ts) (ms := ms) (j := j)
  unfold dfL
  rw [kept_keep hj h, List.set_append_right _ _ (Nat.le_refl _), Nat.sub_self]
  have hlt : (keptE ts (ms.take j)).length < ms.length := by omega
  rw [List.drop_eq_getElem_cons hlt, List.set_cons_zero]
  simp only [List.length_append, List.length_singleton, List.append_assoc, List.singleton_append]
theorem kept_none {x : Nat} (hb : ∀ y, y < x → triedB ts (ms.getD y 0) = false) (hx : x ≤ ms.length) : keptE ts (ms.take x) = ms.take x := by
  unfold keptE
  rw [List.filter_eq_self]
  intro a ha
  obtain ⟨i, hi, rfl⟩ := List.getElem_of_mem ha
  simp only [List.length_take] at hi
  rw [List.getElem_take]
  have := hb i (by omega)
  rw [List.getD_eq_getElem?_getD, List.getElem?_eq_getElem (by omega)] at this
  simp only [Option.getD_some] at this
  rw [this]; rfl
theorem kept_all (hb : ∀ y, y < ms.length → triedB ts (ms.getD y 0) = false) : keptE ts ms = ms := by
  have := kept_none (x := ms.length) hb (Nat.le_refl _)
  rwa [List.take_length] at this
theorem dfL_first {x : Nat} (hx : x < ms.length) (he : triedB ts (ms.getD x 0) = true) (hb : ∀ y, y < x → triedB ts (ms.getD y 0) = false) : (keptE ts (ms.take (x + 1))).length = x ∧ dfL ts ms (x + 1) = ms := by
  have h1 : keptE ts (ms.take (x + 1)) = ms.take x := by rw [kept_skip hx he, kept_none hb (by omega)]
  have h2 : (ms.take x).length = x := by simp; omega
  refine ⟨by rw [h1, h2], ?_⟩
  unfold dfL
  rw [h1, h2, List.take_append_drop]
theorem dfL_end : dfL ts ms ms.length = keptE ts ms ++ ms.drop (keptE ts ms).length := by unfold dfL; rw [List.take_length]
theorem dfL_take : (dfL ts ms ms.length).take (keptE ts ms).length = keptE ts ms := by rw [dfL_end, List.take_left]
theorem kept_lt {x : Nat} (hx : x < ms.length) (he : triedB ts (ms.getD x 0) = true) : (keptE ts ms).length < ms.length := by
  unfold keptE
  refine List.length_filter_lt_length_iff_exists.2 ⟨ms.getD x 0, ?_, by rw [he]; exact Bool.false_ne_true⟩
  rw [List.getD_eq_getElem?_getD, List.getElem?_eq_getElem hx]; exact List.getElem_mem hx
theorem row1 (n : Nat) : (rowZero (n * 1) (Value.int IntKind.i64 0).cells).toList = List.replicate n (Value.int IntKind.i64 0) := by
  have hz : ∀ k, (#[Value.int IntKind.i64 0] : Array Value)[k % 1]! = Value.int IntKind.i64 0 := fun k => by rw [Nat.mod_one]; rfl
  show ((Array.range (n * 1)).map (fun k => (#[Value.int IntKind.i64 0] : Array Value)[k % 1]!)).toList = _
  rw [Array.toList_map, Array.toList_range, Nat.mul_one]
  induction n with
  | zero => rfl
  | succ q ih => rw [List.range_succ, List.map_append, ih, List.replicate_succ']; simp only [List.map_cons, List.map_nil, hz]
theorem row1_ok {n i : Nat} {os : List Int} (h : n ≠ 0) (hl : i + n ≤ os.length) : n ≠ 0 ∧ 3 ≠ 2 ∧ 0 + i * 1 + (rowZero (n * 1) (Value.int IntKind.i64 0).cells).toList.length ≤ (os.map fun e : Int => Value.int .i64 e).length ∧ ((rowZero (n * 1) (Value.int IntKind.i64 0).cells).toList.all fun x => x.oneCell') = true ∧ flat1 (Value.int IntKind.i64 0) = true ∧ (3 ≠ 3 ∨ (rowZero (n * 1) (Value.int IntKind.i64 0).cells).toList.all flat0 = true) := by
  rw [row1]
  refine ⟨h, by decide, by simp; omega, ?_, rfl, .inr ?_⟩
  · rw [List.all_eq_true]; intro v hv; rw [List.eq_of_mem_replicate hv]; rfl
  · rw [List.all_eq_true]; intro v hv; rw [List.eq_of_mem_replicate hv]; rfl
theorem row1_splice {n i : Nat} {os : List Int} (hl : i + n = os.length) : splice (os.map fun e : Int => Value.int .i64 e) (0 + i * 1) (rowZero (n * 1) (Value.int IntKind.i64 0).cells).toList = (os.take i ++ List.replicate n 0).map fun e : Int => Value.int .i64 e := by
  rw [row1]
  unfold splice
  rw [Nat.zero_add, Nat.mul_one, List.length_replicate, List.drop_of_length_le (by simp; omega), List.append_nil, List.map_append, List.map_take, List.map_replicate]
theorem splice_one {os : List Int} {i : Nat} {v : Int} (h : i < os.length) : splice (os.map fun e : Int => Value.int .i64 e) (0 + i * 1) [Value.int .i64 v] = (os.set i v).map fun e : Int => Value.int .i64 e := by
  unfold splice
  rw [Nat.zero_add, Nat.mul_one, List.set_eq_take_append_cons_drop, if_pos h, List.map_append, List.map_cons, List.map_take, List.map_drop, List.append_assoc]; rfl
end
end Go.Proofs.Ytmiheegkilgimaa
