/- More about calls: which blocks of the result are kept. -/
import Derived.Test.YtkdalfdfepipiaaX16
namespace Go.Proofs.Ytkdalfdfepipiaa
set_option linter.unusedSectionVars false
open Go.RowKit
set_option linter.unusedSimpArgs false
set_option linter.unusedVariables false
variable [Inhabited RawG]
def keepR (K : List Nat) (r : Option (Value × Heap × List Prop)) : Option (Value × Heap × List Prop) :=
  match r with
  | some (v, H1, ps) => some (v, restrict H1 K, ps)
  | none => none
theorem callOK_keep {P : Program} {call : CallF} (K : List Nat) (hc : CallSpec P call) (hm : P.follows .mixedOrders = true) {ω : Orc} {LF F lo : Nat} {g : FuncId} {av : List Value} {Hs H1 : Heap} {v : Value} {ps : List Prop} (h : keepR K (aFuncO P call ω LF F g av Hs lo) = some (v, H1, ps)) (hps : Ob ps) : CallOK P g av Hs lo v H1 := by
  intro D ρ w args hlt hsz hav hw
  unfold keepR at h
  split at h
  · rename_i v' H' ps' hO
    cases h
    refine (funcO_spec hc hm hO hps hlt hsz hav hw).mono ?_
    rintro e w1 ⟨u, rfl, D1, ρ1, t1, hV, hD⟩
    exact ⟨u, rfl, D1, ρ1, t1.trans (T.less t1.wr fun b k => hget_restrict), hV, hD⟩
  · cases h
theorem flat_nil : FlatL [] := fun v hv => by cases hv
theorem flat_iv (os : List Int) : FlatL (os.map fun e : Int => Value.int .i64 e) := fun v hv => by
  obtain ⟨e, _, rfl⟩ := List.mem_map.1 hv
  exact ⟨rfl, rfl⟩
theorem flat_app {a b : List Value} (ha : FlatL a) (hb : FlatL b) : FlatL (a ++ b) := fun v hv => (List.mem_append.1 hv).elim (ha v) (hb v)
theorem flat_take {a : List Value} {n : Nat} (ha : FlatL a) : FlatL (a.take n) := fun v hv => ha v (List.mem_of_mem_take hv)
theorem flat_drop {a : List Value} {n : Nat} (ha : FlatL a) : FlatL (a.drop n) := fun v hv => ha v (List.mem_of_mem_drop hv)
theorem w64 {n : Int} (h : -9223372036854775808 ≤ n ∧ n ≤ 9223372036854775807) : IntKind.i64.wrap n = n := IntWalk.i64_in n h
/-- The first one for which something holds, or none. -/
theorem first_or (p : Nat → Bool) : ∀ n : Nat, (∃ x, x < n ∧ p x = true ∧ ∀ y, y < x → p y = false) ∨ ∀ y, y < n → p y = false
  | 0 => .inr fun y h => absurd h (Nat.not_lt_zero y)
  | n + 1 => by
    rcases first_or p n with ⟨x, h1, h2, h3⟩ | h
    · exact .inl ⟨x, by omega, h2, h3⟩
    · rcases Bool.eq_false_or_eq_true (p n) with hp | hp
      · exact .inl ⟨n, by omega, hp, h⟩
      · refine .inr fun y hy => ?_
        by_cases hyn : y = n
        · rw [hyn]; exact hp
        · exact h y (by omega)
theorem any_true {T : Type} {p : T → Bool} {l : List T} {d : T} {x : Nat} (hx : x < l.length) (h : p (l.getD x d) = true) : l.any p = true := by
  rw [List.any_eq_true]
  refine ⟨l.getD x d, ?_, h⟩
  rw [List.getD_eq_getElem?_getD, List.getElem?_eq_getElem hx]
  exact List.getElem_mem hx
theorem any_false {T : Type} {p : T → Bool} {l : List T} {d : T} (h : ∀ y, y < l.length → p (l.getD y d) = false) : l.any p = false := by
  rw [List.any_eq_false]
  intro t ht
  obtain ⟨i, hi, rfl⟩ := List.getElem_of_mem ht
  have := h i hi
  rw [List.getD_eq_getElem?_getD, List.getElem?_eq_getElem hi] at this
  simp only [Option.getD_some] at this
  rw [this]; exact Bool.false_ne_true
theorem range_any {p : Nat → Bool} {n x : Nat} (hx : x < n) (h : p x = true) : (List.range n).any p = true := by
  rw [List.any_eq_true]
  exact ⟨x, List.mem_range.2 hx, h⟩
theorem range_none {p : Nat → Bool} {n : Nat} (h : ∀ y, y < n → p y = false) : (List.range n).any p = false := by
  rw [List.any_eq_false]
  intro t ht
  rw [h t (List.mem_range.1 ht)]; exact Bool.false_ne_true
end Go.Proofs.Ytkdalfdfepipiaa
