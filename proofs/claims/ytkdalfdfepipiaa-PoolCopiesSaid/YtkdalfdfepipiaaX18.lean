/- The engine, last part: rows of laws whose slices came in. -/
import Derived.Test.YtkdalfdfepipiaaX17
namespace Go.Proofs.Ytkdalfdfepipiaa
open Go.RowKit Go.Deep
set_option linter.unusedSimpArgs false
set_option linter.unusedVariables false
/-- Where a slice lies, how long it is, what there is room for, what its cells are for the engine. -/
abbrev Ent : Type := Option Addr × Nat × Nat × List Value
def entD : Ent := (none, 0, 0, [])
def rawOf (e : Nat → Ent) : RawG := ⟨fun i => (e i).1, fun i => (e i).2.1, fun i => (e i).2.2.1, fun i => (e i).2.2.2⟩
theorem rawAt_of (e : Nat → Ent) {w : World} {i : Nat} {oa : Option Addr} {n c : Nat} {cells : List Value} (h : e i = (oa, n, c, cells)) (hle : n ≤ c) (hne : 0 < n → cells ≠ [])
    (ho : cells ≠ [] → ∃ a, oa = some a ∧ a.spot = none ∧ ∃ cs el fz, w.heap[a.block]? = some (.cells cs el fz) ∧ ∀ (j : Nat) (v : Value), cells[j]? = some v → ∃ u, cs[a.off + j]? = some u ∧ @VR ⟨rawOf e⟩ (fun _ => False) (fun _ => default) v u) : @RawAt ⟨rawOf e⟩ w i := by
  refine ⟨?_, ?_, ?_⟩
  · show (e i).2.1 ≤ (e i).2.2.1
    rw [h]; exact hle
  · show 0 < (e i).2.1 → (e i).2.2.2 ≠ []
    rw [h]; exact hne
  · show (e i).2.2.2 ≠ [] → ∃ a, (e i).1 = some a ∧ a.spot = none ∧ ∃ cs el fz, w.heap[a.block]? = some (.cells cs el fz) ∧ ∀ (j : Nat) (v : Value), (e i).2.2.2[j]? = some v → ∃ u, cs[a.off + j]? = some u ∧ @VR ⟨rawOf e⟩ (fun _ => False) (fun _ => default) v u
    rw [h]; exact ho
theorem rawAt_none (e : Nat → Ent) {w : World} {i : Nat} (h : e i = entD) : @RawAt ⟨rawOf e⟩ w i :=
  rawAt_of e h (Nat.le_refl _) (fun h => absurd h (Nat.lt_irrefl 0)) (fun h => absurd rfl h)
theorem rawAt_opn (e : Nat → Ent) {T : Type} {f : T → List Value} {w : World} {i : Nat} {l : List T} {oa : Option Addr} {c : Nat} (h : e i = (oa, l.length, c, l.flatMap f)) (ho : Opn w f l oa c) (hf : ∀ t, ∀ u ∈ f t, flat0 u = true) (hn : ∀ t, f t ≠ []) : @RawAt ⟨rawOf e⟩ w i := by
  refine rawAt_of e h ho.le (fun hp he => ?_) (fun hne => ?_)
  · cases l with
    | nil => exact absurd hp (Nat.lt_irrefl 0)
    | cons a t =>
      rw [List.flatMap_cons, List.append_eq_nil_iff] at he
      exact hn a he.1
  · have hp : 0 < l.length := by
      cases l with
      | nil => exact absurd rfl hne
      | cons a t => exact Nat.succ_pos _
    obtain ⟨a, e1, e2, cs, el, fz, e3, e4⟩ := ho.row hp
    refine ⟨a, e1, e2, cs, el, fz, e3, fun j v hv => ⟨v, e4 j v hv, ?_⟩⟩
    refine @VR.scal ⟨rawOf e⟩ _ _ v ?_
    obtain ⟨t, _, ht⟩ := List.mem_flatMap.1 (List.mem_of_getElem? hv)
    exact hf t v ht
theorem opn_of_sh {T : Type} {w : World} {f : T → List Value} {v : Value} (h : @Sh T w f v) : ∃ (l : List T) (oa : Option Addr) (c : Nat), v = .slice oa l.length c ∧ Opn w f l oa c := by
  rcases h with rfl | ⟨a, c, rfl⟩ | ⟨l, b, o, c, el, cs, fz, hp, hc, rfl, hh, hx⟩
  · exact ⟨[], none, 0, rfl, Nat.le_refl _, fun h => absurd h (Nat.lt_irrefl 0)⟩
  · exact ⟨[], some a, c, rfl, Nat.zero_le _, fun h => absurd h (Nat.lt_irrefl 0)⟩
  · exact ⟨l, some ⟨b, o, none⟩, c, rfl, hc, fun _ => ⟨_, rfl, rfl, cs, el, fz, hh, hx⟩⟩
end Go.Proofs.Ytkdalfdfepipiaa
