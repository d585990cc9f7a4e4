/- Rows of laws: a slice of slices that came in. -/
import Derived.Test.YtkdalfdfepipiaaX18
namespace Go.Proofs.Ytkdalfdfepipiaa
open Go.RowKit Go.Deep Go.ChangeShapes Go.WideShapes Go.ChangeAt Go.Joins
set_option linter.unusedSectionVars false
set_option linter.unusedSimpArgs false
set_option linter.unusedVariables false
set_option maxRecDepth 100000
/-- An inner slice, opened. -/
abbrev InS {T : Type} (w : World) (f : T → List Value) : Type := {t : List T × Option Addr × Nat // Opn w f t.1 t.2.1 t.2.2}
instance {T : Type} {w : World} {f : T → List Value} : Inhabited (InS w f) := ⟨⟨([], none, 0), ⟨Nat.le_refl _, fun h => absurd h (Nat.lt_irrefl 0)⟩⟩⟩
abbrev inC {T : Type} {w : World} {f : T → List Value} (t : InS w f) : List Value := [.slice t.1.2.1 t.1.1.length t.1.2.2]
theorem sh_cells {T HH : Type} {enc : TypeId × Value → HH} {w : World} {f : T → List Value} {t e : TypeId} {sz : Nat} (ht : Try.prog.underlying t = some (.slice e)) (hsz : Try.prog.cellsOf e = sz) (hpos : 0 < sz) (hf : ∀ t, (f t).length = sz)
    (hR : ∀ fu cs y, cs.length = sz → DataW.trod enc Try.prog w 0 (fun _ => true) true fu e cs = some y → ∃ u, cs = f u) {v : Value} {fuel : Nat} {x : DataW HH × List MemPlace}
    (h : DataW.trod enc Try.prog w 0 (fun _ => true) true fuel t [v] = some x) : Sh w f v := by
  rcases slice_arg ht hsz hpos h (fun cs => ∃ u, cs = f u) hR with hv' | ⟨a, n, c, xs, hv', hlen, hnc, _, hR', hb⟩
  · exact .inl hv'
  · rw [hv']
    clear h hv'
    rcases Nat.eq_zero_or_pos n with rfl | hn
    · exact .inr (.inl ⟨a, c, rfl⟩)
    · obtain ⟨hs, cs, el, fz, hh, hx⟩ := hb hn
      obtain ⟨l, hl, rfl⟩ := list_of (f := f) (sz := sz) hf n xs hlen hR'
      obtain ⟨b, o, s⟩ := a
      simp only at hs
      subst hs hl
      exact .inr (.inr ⟨l, b, o, c, el, cs, fz, hn, hnc, rfl, hh, hx⟩)
/-- A slice of slices. -/
theorem shs_of_trod {T HH : Type} {enc : TypeId × Value → HH} {w : World} {f : T → List Value} {t e : TypeId} (ht : Try.prog.underlying t = some (.slice e)) (hsz : Try.prog.cellsOf e = 1)
    (hR : ∀ fu v y, DataW.trod enc Try.prog w 0 (fun _ => true) true fu e [v] = some y → Sh w f v) {v : Value} {d : DataW HH} {p : List MemPlace}
    {r : Reach} {b0 : Nat} (hv : Value.okWide Try.prog w r b0 t v) (h : DataW.Trod enc Try.prog w 0 (fun _ => true) true t v d p) : ∃ (l : List (InS w f)) (oa : Option Addr) (c : Nat), v = .slice oa l.length c ∧ Opn w inC l oa c ∧ l.length ≤ 9223372036854775807 := by
  obtain ⟨A, n0, c0, rfl⟩ := okWide_slice ht hv
  obtain ⟨fuel, h⟩ := h
  change DataW.trod enc Try.prog w 0 (fun _ => true) true fuel t [.slice A n0 c0] = some (d, p) at h
  rcases slice_arg ht hsz (by decide) h (fun cs => ∃ u : InS w f, cs = inC u) (fun fu cs y hl hy => by
    obtain ⟨v, rfl⟩ : ∃ v, cs = [v] := by
      match cs, hl with
      | [v], _ => exact ⟨v, rfl⟩
    obtain ⟨l, oa, c, rfl, ho⟩ := opn_of_sh (hR fu v y hy)
    exact ⟨⟨(l, oa, c), ho⟩, rfl⟩) with hv' | ⟨a, n, c, xs, hv', hlen, hnc, hmx, hR', hb⟩
  · exact ⟨[], none, 0, hv', ⟨Nat.le_refl _, fun h => absurd h (Nat.lt_irrefl 0)⟩, Nat.zero_le _⟩
  · have hm : maxLen = 9223372036854775807 := rfl
    obtain ⟨l, hl, rfl⟩ := list_of (f := fun t : InS w f => inC t) (sz := 1) (fun _ => rfl) n xs hlen hR'
    refine ⟨l, some a, c, by rw [hv', hl], ⟨by omega, fun hp => ?_⟩, by omega⟩
    obtain ⟨hs, cs, el, fz, hh, hx⟩ := hb (by omega)
    exact ⟨a, rfl, hs, cs, el, fz, hh, hx⟩
theorem vr_opq (e : Nat → Ent) {D : Nat → Prop} {ρ : Nat → Pl} {i n c : Nat} {oa : Option Addr} {cells : List Value} (h : e i = (oa, n, c, cells)) : @VR ⟨rawOf e⟩ D ρ (.slice (some ⟨i, 0, some 2⟩) n 0) (.slice oa n c) := by
  have h0 := @VR.opq ⟨rawOf e⟩ D ρ i n 0 (by show (e i).2.1 = n; rw [h])
  have e1 : (@rg ⟨rawOf e⟩).adr i = oa := by show (e i).1 = oa; rw [h]
  have e2 : (@rg ⟨rawOf e⟩).cap i = c := by show (e i).2.2.1 = c; rw [h]
  rw [e1, e2] at h0
  exact h0
/-- The outer slice: its cells are the inner ones. -/
theorem rawAt_outer (e : Nat → Ent) {T : Type} {f : T → List Value} {w : World} {i b : Nat} {l : List (InS w f)} {oa : Option Addr} {c : Nat} {ll : List (List T)} (hll : ll = l.map fun t => t.1.1)
    (h : e i = (oa, l.length, c, (List.range ll.length).map fun j => Value.slice (some ⟨b + j, 0, some 2⟩) (ll.getD j []).length 0)) (ho : Opn w inC l oa c)
    (hin : ∀ j, j < l.length → ∃ cells, e (b + j) = ((l.getD j default).1.2.1, (l.getD j default).1.1.length, (l.getD j default).1.2.2, cells)) : @RawAt ⟨rawOf e⟩ w i := by
  have hlen : ll.length = l.length := by rw [hll]; simp
  refine rawAt_of e h ho.le (fun hp he => ?_) (fun hne => ?_)
  · rw [List.map_eq_nil_iff, List.range_eq_nil] at he; omega
  · have hp : 0 < l.length := by
      rcases Nat.eq_zero_or_pos l.length with h0 | h0
      · rw [hlen, h0] at hne; exact absurd rfl hne
      · exact h0
    obtain ⟨a, e1, e2, cs, el, fz, e3, e4⟩ := ho.row hp
    refine ⟨a, e1, e2, cs, el, fz, e3, fun j v hv => ?_⟩
    have hj : j < l.length := by have := (List.getElem?_eq_some_iff.1 hv).1; simpa [hlen] using this
    rw [List.getElem?_map, List.getElem?_range (by omega)] at hv
    simp only [Option.map_some, Option.some.injEq] at hv
    have hg : l[j]? = some (l.getD j default) := by rw [List.getD_eq_getElem?_getD, List.getElem?_eq_getElem hj]; rfl
    refine ⟨.slice (l.getD j default).1.2.1 (l.getD j default).1.1.length (l.getD j default).1.2.2, e4 j _ ?_, ?_⟩
    · rw [show l.flatMap (fun t : InS w f => inC t) = l.map fun t => Value.slice t.1.2.1 t.1.1.length t.1.2.2 from flatMap_one l, List.getElem?_map, hg]; rfl
    · obtain ⟨cells, hc⟩ := hin j hj
      have hlj : (ll.getD j []).length = (l.getD j default).1.1.length := by
        rw [hll, List.getD_eq_getElem?_getD, List.getElem?_map, hg]; rfl
      rw [← hv, hlj]
      exact vr_opq e hc
end Go.Proofs.Ytkdalfdfepipiaa
