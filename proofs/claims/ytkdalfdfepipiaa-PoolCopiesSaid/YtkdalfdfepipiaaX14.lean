/-
  The engine, fourteenth part: slices that come in as arguments.
-/
import Derived.Test.YtkdalfdfepipiaaX13
import Derived.Deep.Slices
import Derived.DataReads
namespace Go.Proofs.Ytkdalfdfepipiaa
set_option linter.unusedSectionVars false
open Go.RowKit Go.Deep
set_option linter.unusedVariables false
variable [Inhabited RawG]

section
variable {P : Program} {call : CallF} {D : Nat → Prop} {ρ : Nat → Pl} {H : Heap} {w : World}

/-- A slice that came in: its cells in one list. -/
theorem slice_arg {HH : Type} {enc : TypeId × Value → HH} {t e sz : Nat} (ht : P.underlying t = some (.slice e)) (hsz : P.cellsOf e = sz) (hpos : 0 < sz) {v : Value} {fuel : Nat} {x : DataW HH × List MemPlace}
    (h : DataW.trod enc P w 0 (fun _ => true) true fuel t [v] = some x) (R : List Value → Prop) (hR : ∀ fu cs y, cs.length = sz → DataW.trod enc P w 0 (fun _ => true) true fu e cs = some y → R cs) :
    v = .slice none 0 0 ∨ ∃ (a : Addr) (n c : Nat) (xs : List Value), v = .slice (some a) n c ∧ xs.length = n * sz ∧ n ≤ c ∧ c ≤ maxLen ∧ (∀ i, i < n → R ((xs.drop (i * sz)).take sz)) ∧
      (0 < n → a.spot = none ∧ ∃ cs el fz, w.heap[a.block]? = some (.cells cs el fz) ∧ ∀ (i : Nat) (u : Value), xs[i]? = some u → cs[a.off + i]? = some u) := by
  subst hsz
  rcases open_slice ht h with ⟨hcs, _⟩ | ⟨a, len, cap, m, n', Dd, Pl, hcs, hb, hl, hm, hmm, _, hi⟩
  · exact .inl (by simpa using hcs)
  · refine .inr ⟨a, len, cap, ?_⟩
    simp at hmm
    subst hmm
    have hv : v = .slice (some a) len m := by simpa using hcs
    have key : ∀ i, i < len → ∃ cs', (∀ j, j < P.cellsOf e → w.cell? ((a.add (i * P.cellsOf e)).add j) = cs'[j]?) ∧ cs'.length = P.cellsOf e ∧ R cs' := by
      intro i hin
      obtain ⟨cs', h1, h2⟩ := hi i (by omega)
      obtain ⟨_, h4, h5⟩ := World.cells?_some h1
      exact ⟨cs', h5, h4, hR _ _ _ h4 h2⟩
    have spot : 0 < len → a.spot = none := by
      intro hp
      obtain ⟨cs', h1, h2, _⟩ := key 0 hp
      have h3 := h1 0 hpos
      rw [List.getElem?_eq_getElem (by omega)] at h3
      have h4 := World.cell?_spot h3
      simpa [Addr.add] using h4
    refine ⟨(List.range (len * P.cellsOf e)).map fun k => (w.cell? (a.add k)).getD undef, hv, by simp, hl, hm, fun i hin => ?_, fun hp => ⟨spot hp, ?_⟩⟩
    · obtain ⟨cs', h1, h2, h3⟩ := key i hin
      have hs := spot (by omega)
      have : (((List.range (len * P.cellsOf e)).map fun k => (w.cell? (a.add k)).getD undef).drop (i * P.cellsOf e)).take (P.cellsOf e) = cs' := by
        have hle : i * P.cellsOf e + P.cellsOf e ≤ len * P.cellsOf e := by
          rw [← Nat.succ_mul]; exact Nat.mul_le_mul_right _ hin
        apply List.ext_getElem?
        intro j
        by_cases hj : j < P.cellsOf e
        · rw [List.getElem?_take_of_lt hj, List.getElem?_drop, List.getElem?_map, List.getElem?_range (by omega)]
          have h4 := h1 j hj
          rw [List.getElem?_eq_getElem (by omega)] at h4 ⊢
          rw [addr_add' a hs, addr_add] at h4
          simp only [Option.map_some, addr_add' a hs, ← Nat.add_assoc, h4, Option.getD_some]
        · rw [List.getElem?_eq_none (by simp; omega), List.getElem?_eq_none (by omega)]
      rw [this]
      exact h3
    · have hs := spot hp
      have cell : ∀ k, k < len * P.cellsOf e → ∃ u, w.cell? ⟨a.block, a.off + k, none⟩ = some u := by
        intro k hk
        obtain ⟨cs', h1, h2, h3⟩ := key (k / P.cellsOf e) (Nat.div_lt_of_lt_mul (by rw [Nat.mul_comm]; exact hk))
        have h4 := h1 (k % P.cellsOf e) (Nat.mod_lt _ hpos)
        rw [List.getElem?_eq_getElem (by rw [h2]; exact Nat.mod_lt _ hpos), addr_add' a hs, addr_add] at h4
        exact ⟨_, by rw [← h4, Nat.add_assoc, Nat.mul_comm, Nat.div_add_mod]⟩
      obtain ⟨u0, hu0⟩ := cell 0 (Nat.mul_pos hp hpos)
      have hblk : ∃ cs el fz, w.heap[a.block]? = some (.cells cs el fz) := by
        unfold World.cell? at hu0
        split at hu0
        · rename_i cs el fz hh; exact ⟨cs, el, fz, hh⟩
        · cases hu0
      obtain ⟨cs, el, fz, hh⟩ := hblk
      refine ⟨cs, el, fz, hh, fun i u hu => ?_⟩
      have hi2 : i < len * P.cellsOf e := by have := (List.getElem?_eq_some_iff.1 hu).1; simpa using this
      obtain ⟨u', hu'⟩ := cell i hi2
      rw [List.getElem?_map, List.getElem?_range hi2] at hu
      simp only [Option.map_some, addr_add' a hs, hu', Option.getD_some, Option.some.injEq] at hu
      subst hu
      simpa [World.cell?, hh] using hu'

/-- Elements, read as data of one's own. -/
theorem list_of {T : Type} {f : T → List Value} {sz : Nat} (hf : ∀ t, (f t).length = sz) : ∀ (n : Nat) (xs : List Value), xs.length = n * sz → (∀ i, i < n → ∃ t, (xs.drop (i * sz)).take sz = f t) → ∃ l : List T, l.length = n ∧ xs = l.flatMap f
  | 0, xs, hl, _ => ⟨[], rfl, by simpa using hl⟩
  | n + 1, xs, hl, h => by
    obtain ⟨t, ht⟩ := h 0 (by omega)
    simp only [Nat.zero_mul, List.drop_zero] at ht
    obtain ⟨l, h1, h2⟩ := list_of hf n (xs.drop sz) (by rw [List.length_drop, hl, Nat.succ_mul]; omega) (fun i hi => by
      obtain ⟨t, ht⟩ := h (i + 1) (by omega)
      exact ⟨t, by rw [List.drop_drop, ← ht, Nat.succ_mul, Nat.add_comm]⟩)
    exact ⟨t :: l, by simp [h1], by rw [List.flatMap_cons, ← ht, ← h2, List.take_append_drop]⟩

/-- A call whose arguments are laid in blocks that are only read. -/
theorem calls_args (hc : CallSpec P call) (hm : P.follows .mixedOrders = true) {ω : Orc} {LF F lo : Nat} {g : FuncId} {av : List Value} {v : Value} {ps : List Prop} (h : resVO (aFuncO P call ω LF F g av H lo) = some (v, ps)) (hps : Ob ps) (hv : flat v = true)
    {args : Array Value} (hlt : ∀ b, D b → b < lo) (hsz : args.size = av.length) (hav : ∀ i, VR D ρ (av.getD i undef) (args.getD i undef)) (hw : WR (szP P) D ρ (hget H) w) (hro : ∀ b k, hget H b = some k → k.mode = 2) :
    Calls P g args w (fun e w1 => e = .returned v ∧ Below w.heap.size w w1) := by
  obtain ⟨H1, h1⟩ := resVO_spec h
  refine (funcO_spec hc hm h1 hps hlt hsz hav hw).mono ?_
  rintro e w1 ⟨u, rfl, D1, ρ1, t1, hV, _⟩
  refine ⟨by rw [hV.flat_eq hv], ⟨t1.os, t1.tape, t1.output, t1.size, fun k hk => t1.keep k hk ?_⟩⟩
  rintro ⟨b, l, hb, hm2, _⟩
  exact hm2 (hro b l hb)
/-- What is left of a callee's heap: what its result and the blocks that came in lead to. -/
def gcR (Hs : Heap) (r : Option (Value × Heap × List Prop)) : Option (Value × Heap × List Prop) :=
  match r with
  | some (v, H1, ps) => some (v, restrict H1 (reach H1 fuelR (vids 4 v ++ ids Hs) []), ps)
  | none => none
theorem callOK_of (hc : CallSpec P call) (hm : P.follows .mixedOrders = true) {ω : Orc} {LF F lo : Nat} {g : FuncId} {av : List Value} {Hs H1 : Heap} {v : Value} {ps : List Prop} (h : gcR Hs (aFuncO P call ω LF F g av Hs lo) = some (v, H1, ps)) (hps : Ob ps) : CallOK P g av Hs lo v H1 := by
  intro D ρ w args hlt hsz hav hw
  unfold gcR at h
  split at h
  · rename_i v' H' ps' hO
    cases h
    refine (funcO_spec hc hm hO hps hlt hsz hav hw).mono ?_
    rintro e w1 ⟨u, rfl, D1, ρ1, t1, hV, hD⟩
    exact ⟨u, rfl, D1, ρ1, t1.trans (T.less t1.wr fun b k => hget_restrict), hV, hD⟩
  · cases h
/-- No block, but slices that came in. -/
theorem wr_raw (hr : ∀ i, RawAt w i) : WR (szP P) (fun _ => False) ρ (hget []) w :=
  ⟨fun b k hk => (by cases hk), fun b k hk => (by cases hk), fun b c k l hk => (by cases hk), ⟨hr, fun i a _ _ ⟨b, k, hk, _⟩ => (by cases hk)⟩⟩
/-- Cells that are plain data, in a block that is only read. -/
theorem br_arg {p : Pl} {el : Nat} {xs : List Value} {cs : Array Value} {fz : Nat × Nat} (hc : p.cap = none) (hh : w.heap[p.blk]? = some (.cells cs el fz)) (hx : ∀ (i : Nat) (u : Value), xs[i]? = some u → cs[p.off + i]? = some u) (hf : ∀ u ∈ xs, flat0 u = true) :
    BR D ρ p ⟨el, xs, 2⟩ (szP P) w :=
  .of ⟨cs, fz, hh, fun i v hv => ⟨v, hx i v hv, .scal _ (hf v (List.mem_of_getElem? hv))⟩, fun h => (by cases h), fun h => absurd h (by simp), fun _ => hc, (by decide : 2 ≤ 3), fun _ v hv => clo0_of (hf v hv)⟩
end
end Go.Proofs.Ytkdalfdfepipiaa
