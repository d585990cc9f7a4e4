/- Borders: what the engine knows, taken out of the world and put in anew. -/
import Derived.Test.YtkdalfdfepipiaaP22
namespace Go.Proofs.Ytkdalfdfepipiaa
open Go.RowKit Go.Deep
set_option linter.unusedSimpArgs false
set_option linter.unusedVariables false
set_option linter.unusedSectionVars false
set_option maxRecDepth 100000
/-! ### Values whose meaning is determined -/
section
variable [Inhabited RawG] {D D' : Nat → Prop} {ρ ρ' : Nat → Pl}
/-- What a value of the engine is in the world. -/
def imgV [Inhabited RawG] (ρ : Nat → Pl) (v : Value) : Value :=
  match v with
  | .pointer (some ⟨b, o, none⟩) => .pointer (some ⟨(ρ b).blk, (ρ b).off + o, none⟩)
  | .slice (some ⟨b, 0, none⟩) n c => .slice (some ⟨(ρ b).blk, (ρ b).off, none⟩) n ((ρ b).cap.getD c)
  | .slice (some ⟨i, 0, some 2⟩) n _ => .slice (rg.adr i) n (rg.cap i)
  | v => v
def goodV (v : Value) : Bool :=
  match v with
  | .pointer (some ⟨_, _, none⟩) => true
  | .slice (some ⟨_, 0, none⟩) _ _ => true
  | .slice (some ⟨_, 0, some 2⟩) _ _ => true
  | v => flat0 v
theorem VR.img {v u : Value} (h : VR D ρ v u) (hg : goodV v = true) : u = imgV ρ v := by
  unfold goodV at hg
  split at hg
  · exact h.ptr_inv.2
  · rename_i b n c
    obtain ⟨_, cap', e, _, h1, h2⟩ := h.slice_inv
    rw [e]
    show _ = Value.slice (some ⟨(ρ b).blk, (ρ b).off, none⟩) n ((ρ b).cap.getD c)
    rw [Nat.add_zero]
    cases hc : (ρ b).cap with
    | none => rw [h1 hc]; rfl
    | some x => rw [h2 x hc rfl]; rfl
  · exact h.opq_inv.2.1
  · rename_i h1 h2 h3
    have e := h.flat0_eq hg
    subst e
    unfold imgV
    split
    · exact absurd rfl (h1 _ _)
    · exact absurd rfl (h2 _ _ _)
    · exact absurd rfl (h3 _ _ _)
    · rfl
/-- Cells of a block that is whole. -/
theorem box_cells {p : Pl} {k : ABlk} {w : World} (hb : BR D ρ p k (szP Try.prog) w) (hm : k.mode = 0) (hg : k.cells.all goodV = true) : p.off = 0 ∧ p.cap = none ∧ ∃ fz, w.heap[p.blk]? = some (.cells (k.cells.map (imgV ρ)).toArray k.elem fz) ∧ fzOK fz k.cells.length := by
  obtain ⟨cs, fz, h1, h2, h3, _⟩ := hb.has (by omega)
  obtain ⟨a, b, c, d⟩ := h3 hm
  refine ⟨a, c, fz, ?_, by rw [← b]; exact d⟩
  have e : cs = (k.cells.map (imgV ρ)).toArray := by
    apply Array.ext (by simpa using b)
    intro i hi hi'
    have hi2 : i < k.cells.length := by omega
    obtain ⟨u, hu, hv⟩ := h2 i _ (List.getElem?_eq_getElem hi2)
    rw [a, Nat.zero_add, Array.getElem?_eq_getElem hi] at hu
    have hx := hv.img (List.all_eq_true.1 hg _ (List.getElem_mem hi2))
    simp only [List.getElem_toArray, List.getElem_map]
    rw [← hx]
    exact Option.some.inj hu
  rw [← e]; exact h1
/-- A row that grew. -/
structure RowAt (w : World) (B : Nat) (el cap sz : Nat) (cells : List Value) : Prop where
  ex : ∃ cs fz, w.heap[B]? = some (.cells cs el fz) ∧ fzOK fz cs.size ∧ cs.size = cap * sz ∧ cells.length ≤ cs.size ∧ ∀ (i : Nat) (v : Value), cells[i]? = some v → cs[i]? = some v
theorem row_cells {p : Pl} {k : ABlk} {w : World} {el sz : Nat} (hb : BR D ρ p k (szP Try.prog) w) (hm : k.mode % 2 = 1) (he : k.elem = el) (hs : szP Try.prog el = sz) (hg : ∀ v ∈ k.cells, goodV v = true) : p.off = 0 ∧ ∃ c, p.cap = some c ∧ RowAt w p.blk el c sz (k.cells.map (imgV ρ)) := by
  obtain ⟨cs, fz, h1, h2, _, h4, _⟩ := hb.has (by omega)
  obtain ⟨a, b, c, d, e, f⟩ := h4 hm
  rw [he] at e h1
  rw [hs] at e
  refine ⟨a, c, d, cs, fz, h1, b, e, by simpa using f, fun i v hv => ?_⟩
  rw [List.getElem?_map] at hv
  obtain ⟨x, hx, rfl⟩ := Option.map_eq_some_iff.1 hv
  obtain ⟨u, hu, hvr⟩ := h2 i x hx
  rw [a, Nat.zero_add] at hu
  rw [hu, hvr.img (hg x (List.mem_of_getElem? hx))]
theorem br_box {p : Pl} {el : Nat} {ec rc : List Value} {w : World} {fz : Nat × Nat} (hp : p.off = 0) (hc : p.cap = none) (hh : w.heap[p.blk]? = some (.cells rc.toArray el fz)) (hf : fzOK fz rc.length) (hl : ec.length = rc.length) (hv : ∀ (i : Nat) (v : Value), ec[i]? = some v → ∃ u, rc[i]? = some u ∧ VR D ρ v u) : BR D ρ p ⟨el, ec, 0⟩ (szP Try.prog) w :=
  .of ⟨rc.toArray, fz, hh, fun i v h => by
    obtain ⟨u, hu, hr⟩ := hv i v h
    exact ⟨u, by rw [hp, Nat.zero_add]; simpa using hu, hr⟩, fun _ => ⟨hp, by simpa using hl.symm, hc, by simpa using hf⟩, fun h => absurd h (by simp), fun h => absurd h (by simp), by simp, fun h => absurd h (by simp)⟩
theorem br_row {p : Pl} {el c sz md : Nat} {ec rc : List Value} {w : World} (hp : p.off = 0) (hc : p.cap = some c) (hr : RowAt w p.blk el c sz rc) (hs : szP Try.prog el = sz) (hl : ec.length = rc.length) (hmd : md = 1 ∨ (md = 3 ∧ ∀ v ∈ ec, clo0 v = true)) (hv : ∀ (i : Nat) (v : Value), ec[i]? = some v → ∃ u, rc[i]? = some u ∧ VR D ρ v u) : BR D ρ p ⟨el, ec, md⟩ (szP Try.prog) w := by
  obtain ⟨cs, fz, h1, h2, h3, h4, h5⟩ := hr.ex
  refine .of ⟨cs, fz, h1, fun i v h => ?_, fun h => absurd (show md = 0 from h) (by omega), fun _ => ⟨hp, h2, c, hc, by rw [hs]; exact h3, by show ec.length ≤ _; omega⟩, fun h => absurd (show md = 2 from h) (by omega), show md ≤ 3 by omega, fun h => ?_⟩
  · obtain ⟨u, hu, hr⟩ := hv i v h
    exact ⟨u, by rw [hp, Nat.zero_add]; exact h5 i u hu, hr⟩
  · rcases hmd with h1 | ⟨_, h1⟩
    · exact absurd (show 2 ≤ md from h) (by omega)
    · exact h1
end
/-! ### Pools with the headers of their rows -/
/-- A pool, the headers of its rows. -/
abbrev PX : Type := PoolT × Value × Value
instance : Inhabited PX := ⟨(default, .slice none 0 0, .slice none 0 0)⟩
abbrev realP (t : PX) : List Value := [.string t.1.nm, t.2.1, t.2.2, .int .i64 t.1.po, .int .i64 t.1.b1, .int .i64 t.1.b2, .int .i64 t.1.b3, .int .i64 t.1.b4, .int .i64 t.1.e1, .int .i64 t.1.e2, .int .i64 t.1.e3, .int .i64 t.1.e4, .int .i64 t.1.p1, .int .i64 t.1.p2, .int .i64 t.1.p3, .int .i64 t.1.p4]
theorem realP16 (t : PX) : (realP t).length = 16 := rfl
def RowV {T : Type} (w : World) (f : T → List Value) (l : List T) (u : Value) : Prop := ∃ oa c, u = .slice oa l.length c ∧ Opn w f l oa c
structure okW (w : World) (t : PX) : Prop where
  h : RowV w hF t.1.hs t.2.1
  b : RowV w bkV t.1.bk t.2.2
theorem okD {w : World} : okW w (default : PX) := ⟨⟨none, 0, rfl, opn_nil⟩, ⟨none, 0, rfl, opn_nil⟩⟩
theorem opn_keep {T : Type} {w w1 : World} {f : T → List Value} {l : List T} {oa : Option Addr} {c : Nat} (h : Opn w f l oa c) (hk : ∀ k, (∃ cs el fz, w.heap[k]? = some (.cells cs el fz)) → (∃ a, oa = some a ∧ a.block = k ∧ 0 < l.length) → w1.heap[k]? = w.heap[k]?) : Opn w1 f l oa c := by
  refine ⟨h.le, fun hp => ?_⟩
  obtain ⟨a, e1, e2, cs, el, fz, hh, hx⟩ := h.row hp
  exact ⟨a, e1, e2, cs, el, fz, (hk _ ⟨cs, el, fz, hh⟩ ⟨a, e1, rfl, hp⟩).trans hh, hx⟩
theorem opn_below {T : Type} {w w1 : World} {f : T → List Value} {l : List T} {oa : Option Addr} {c : Nat} (h : Opn w f l oa c) (hb : Below w.heap.size w w1) : Opn w1 f l oa c :=
  opn_keep h fun k ⟨cs, el, fz, hh⟩ _ => hb.block k (Array.getElem?_eq_some_iff.1 hh).1
theorem rowV_below {T : Type} {w w1 : World} {f : T → List Value} {l : List T} {u : Value} (h : RowV w f l u) (hb : Below w.heap.size w w1) : RowV w1 f l u := by
  obtain ⟨oa, c, e, ho⟩ := h
  exact ⟨oa, c, e, opn_below ho hb⟩
theorem okW_below {w w1 : World} {t : PX} (h : okW w t) (hb : Below w.heap.size w w1) : okW w1 t := ⟨rowV_below h.h hb, rowV_below h.b hb⟩
def rowEnt (u : Value) (cells : List Value) : Ent :=
  match u with
  | .slice oa n c => (oa, n, c, cells)
  | _ => entD
/-- Entries: 0 and 1 are said, then the rows of a list of pools. -/
def entQ (E0 E1 : Ent) (L : List PX) (i : Nat) : Ent :=
  if i = 0 then E0 else if i = 1 then E1
  else if i % 2 = 0 then rowEnt (L.getD ((i - 2) / 2) default).2.1 ((L.getD ((i - 2) / 2) default).1.hs.flatMap hF)
  else rowEnt (L.getD ((i - 2) / 2) default).2.2 ((L.getD ((i - 2) / 2) default).1.bk.flatMap bkV)
section
variable {E0 E1 : Ent} {L : List PX} {w : World}
theorem entQ0 : entQ E0 E1 L 0 = E0 := rfl
theorem entQ1 : entQ E0 E1 L 1 = E1 := rfl
theorem entQh (j : Nat) : entQ E0 E1 L (2 + 2 * j) = rowEnt (L.getD j default).2.1 ((L.getD j default).1.hs.flatMap hF) := by
  unfold entQ
  rw [if_neg (by omega), if_neg (by omega), if_pos (by omega), show (2 + 2 * j - 2) / 2 = j by omega]
theorem entQb (j : Nat) : entQ E0 E1 L (3 + 2 * j) = rowEnt (L.getD j default).2.2 ((L.getD j default).1.bk.flatMap bkV) := by
  unfold entQ
  rw [if_neg (by omega), if_neg (by omega), if_neg (by omega), show (3 + 2 * j - 2) / 2 = j by omega]
theorem okWL (hL : ∀ t ∈ L, okW w t) (j : Nat) : okW w (L.getD j default) := by
  rw [List.getD_eq_getElem?_getD]
  cases h : L[j]? with
  | none => exact okD
  | some t => exact hL t (List.mem_of_getElem? h)
/-- The header of a row, for the engine. -/
theorem vr_h {D : Nat → Prop} {ρ : Nat → Pl} (hL : ∀ t ∈ L, okW w t) (j : Nat) : @VR ⟨rawOf (entQ E0 E1 L)⟩ D ρ (.slice (some ⟨2 + 2 * j, 0, some 2⟩) (L.getD j default).1.hs.length 0) (L.getD j default).2.1 := by
  obtain ⟨oa, c, e, _⟩ := (okWL hL j).h
  have h1 := entQh (E0 := E0) (E1 := E1) (L := L) j
  rw [e] at h1 ⊢
  exact vr_opq _ h1
theorem vr_b {D : Nat → Prop} {ρ : Nat → Pl} (hL : ∀ t ∈ L, okW w t) (j : Nat) : @VR ⟨rawOf (entQ E0 E1 L)⟩ D ρ (.slice (some ⟨3 + 2 * j, 0, some 2⟩) (L.getD j default).1.bk.length 0) (L.getD j default).2.2 := by
  obtain ⟨oa, c, e, _⟩ := (okWL hL j).b
  have h1 := entQb (E0 := E0) (E1 := E1) (L := L) j
  rw [e] at h1 ⊢
  exact vr_opq _ h1
theorem cells_h (hL : ∀ t ∈ L, okW w t) (j : Nat) : (@rg ⟨rawOf (entQ E0 E1 L)⟩).cells (2 + 2 * j) = (L.getD j default).1.hs.map Value.string := by
  show (entQ E0 E1 L (2 + 2 * j)).2.2.2 = _
  obtain ⟨oa, c, e, _⟩ := (okWL hL j).h
  rw [entQh, e]
  exact flatMap_one _
theorem cells_b (hL : ∀ t ∈ L, okW w t) (j : Nat) : (@rg ⟨rawOf (entQ E0 E1 L)⟩).cells (3 + 2 * j) = (L.getD j default).1.bk.flatMap bkV := by
  show (entQ E0 E1 L (3 + 2 * j)).2.2.2 = _
  obtain ⟨oa, c, e, _⟩ := (okWL hL j).b
  rw [entQb, e]
  rfl
theorem rawL (h0 : @RawAt ⟨rawOf (entQ E0 E1 L)⟩ w 0) (h1 : @RawAt ⟨rawOf (entQ E0 E1 L)⟩ w 1) (hL : ∀ t ∈ L, okW w t) (i : Nat) : @RawAt ⟨rawOf (entQ E0 E1 L)⟩ w i := by
  rcases (show i = 0 ∨ i = 1 ∨ ∃ j, i = 2 + 2 * j ∨ i = 3 + 2 * j from by
    by_cases a : i = 0
    · exact .inl a
    · by_cases b : i = 1
      · exact .inr (.inl b)
      · exact .inr (.inr ⟨(i - 2) / 2, by omega⟩)) with rfl | rfl | ⟨j, rfl | rfl⟩
  · exact h0
  · exact h1
  · obtain ⟨oa, c, e, ho⟩ := (okWL hL j).h
    have h1 := entQh (E0 := E0) (E1 := E1) (L := L) j
    rw [e] at h1
    exact rawAt_opn _ (f := hF) h1 ho (fun t u hu => by simp at hu; subst hu; rfl) (fun t h => by cases h)
  · obtain ⟨oa, c, e, ho⟩ := (okWL hL j).b
    have h1 := entQb (E0 := E0) (E1 := E1) (L := L) j
    rw [e] at h1
    exact rawAt_opn _ (f := bkV) h1 ho (fun t u hu => by simp at hu; (try rcases hu with rfl | rfl) <;> rfl) (fun t h => by cases h)
/-- A pool under the numbers of its rows. -/
def numX (t : PX) (j : Nat) : PoolT := { t.1 with ih := 2 + 2 * j, ib := 3 + 2 * j }
/-- Pools of a list, from its place 'off' on. -/
def numS (M : List PX) (off : Nat) : List PoolT := (List.range M.length).map fun j => numX (M.getD j default) (off + j)
theorem numS_len (M : List PX) (off : Nat) : (numS M off).length = M.length := by simp [numS]
/-- The same cells, for the engine: the headers are numbers. -/
def hdP (p : PoolT) : PX := (p, .slice (some ⟨p.ih, 0, some 2⟩) p.hs.length 0, .slice (some ⟨p.ib, 0, some 2⟩) p.bk.length 0)
theorem hdP_cells (p : PoolT) : realP (hdP p) = poolF p := rfl
/-- Two pools' cells, the headers related. -/
theorem rel_pool {R : Value → Value → Prop} {s t : PX} (hs : ∀ v, flat0 v = true → R v v) (he : realP (s.1, t.2) = realP t) (h1 : R s.2.1 t.2.1) (h2 : R s.2.2 t.2.2) : ∀ (k : Nat) (v : Value), (realP s)[k]? = some v → ∃ u, (realP t)[k]? = some u ∧ R v u := fun k v hk => by
  have q : ∀ (i : Nat) (v : Value), i ≠ 1 → i ≠ 2 → (realP s)[i]? = some v → flat0 v = true → ∃ u, (realP t)[i]? = some u ∧ R v u := fun i v n1 n2 hi hf => by
    refine ⟨v, ?_, hs v hf⟩
    rw [← he]
    rw [← hi]
    match i, n1, n2 with
    | 0, _, _ => rfl
    | 1, h, _ => exact absurd rfl h
    | 2, _, h => exact absurd rfl h
    | i + 3, _, _ => rfl
  match k, hk with
  | 0, hk => obtain rfl := Option.some.inj hk; exact q 0 _ (by decide) (by decide) rfl rfl
  | 1, hk => obtain rfl := Option.some.inj hk; exact ⟨_, rfl, h1⟩
  | 2, hk => obtain rfl := Option.some.inj hk; exact ⟨_, rfl, h2⟩
  | 3, hk => obtain rfl := Option.some.inj hk; exact q 3 _ (by decide) (by decide) rfl rfl
  | 4, hk => obtain rfl := Option.some.inj hk; exact q 4 _ (by decide) (by decide) rfl rfl
  | 5, hk => obtain rfl := Option.some.inj hk; exact q 5 _ (by decide) (by decide) rfl rfl
  | 6, hk => obtain rfl := Option.some.inj hk; exact q 6 _ (by decide) (by decide) rfl rfl
  | 7, hk => obtain rfl := Option.some.inj hk; exact q 7 _ (by decide) (by decide) rfl rfl
  | 8, hk => obtain rfl := Option.some.inj hk; exact q 8 _ (by decide) (by decide) rfl rfl
  | 9, hk => obtain rfl := Option.some.inj hk; exact q 9 _ (by decide) (by decide) rfl rfl
  | 10, hk => obtain rfl := Option.some.inj hk; exact q 10 _ (by decide) (by decide) rfl rfl
  | 11, hk => obtain rfl := Option.some.inj hk; exact q 11 _ (by decide) (by decide) rfl rfl
  | 12, hk => obtain rfl := Option.some.inj hk; exact q 12 _ (by decide) (by decide) rfl rfl
  | 13, hk => obtain rfl := Option.some.inj hk; exact q 13 _ (by decide) (by decide) rfl rfl
  | 14, hk => obtain rfl := Option.some.inj hk; exact q 14 _ (by decide) (by decide) rfl rfl
  | 15, hk => obtain rfl := Option.some.inj hk; exact q 15 _ (by decide) (by decide) rfl rfl
  | k + 16, hk => cases hk
/-- Rows of pools, the headers related. -/
theorem rel_rows {R : Value → Value → Prop} (hs : ∀ v, flat0 v = true → R v v) {A B : List PX} (hl : A.length = B.length) (h : ∀ j, j < A.length → realP ((A.getD j default).1, (B.getD j default).2) = realP (B.getD j default) ∧ R (A.getD j default).2.1 (B.getD j default).2.1 ∧ R (A.getD j default).2.2 (B.getD j default).2.2) :
    ∀ (i : Nat) (v : Value), (A.flatMap realP)[i]? = some v → ∃ u, (B.flatMap realP)[i]? = some u ∧ R v u := fun i v hv => by
  rw [flat_range A realP] at hv
  obtain ⟨u, hu, hr⟩ := rel_flat (R := R) (f := fun j => realP (A.getD j default)) (g := fun j => realP (B.getD j default)) (List.range A.length) (fun _ _ => rfl) (fun j hj k v hk => by
    obtain ⟨h1, h2, h3⟩ := h j (List.mem_range.1 hj)
    exact rel_pool hs h1 h2 h3 k v hk) i v hv
  refine ⟨u, ?_, hr⟩
  rw [flat_range B realP, ← hl]
  exact hu
end
end Go.Proofs.Ytkdalfdfepipiaa
