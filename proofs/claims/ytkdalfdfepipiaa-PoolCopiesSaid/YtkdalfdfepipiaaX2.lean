/-
  The engine, second part: what one operation does to the engine's heap, and that the model's operation does it to the world.
-/
import Derived.Test.YtkdalfdfepipiaaX1
namespace Go.Proofs.Ytkdalfdfepipiaa
set_option linter.unusedSectionVars false
open Go.RowKit
set_option linter.unusedVariables false
variable [Inhabited RawG]

/-! ### Operations that look at no memory -/
def peval (P : Program) {α : Type} : Sem α → Option α
  | .pure a => some a
  | .program k => peval P (k P)
  | .mark _ k => peval P k
  | _ => none
theorem run_of_peval {P : Program} {α : Type} {s : Sem α} {x : α} (h : peval P s = some x) (w : World) : s.run P w = .ok x w := by
  induction s with
  | pure a => simp only [peval, Option.some.injEq] at h; subst h; rfl
  | program k ih => simp only [peval] at h; simp only [Sem.run]; exact ih _ h
  | mark m k ih => simp only [peval] at h; simp only [Sem.run]; exact ih h
  | _ => simp [peval] at h

/-- What an operation hands back and leaves, when it was carried out with this result. -/
def givesUpon (P : Program) (G : Value → World → Prop) : Result Next → Prop
  | .ok (.value u) w' => G u w'
  | .ok .skip w' => G undef w'
  | .ok (.enter f args) w' => Calls P f args w' (fun e w'' => ∃ u, e = .returned u ∧ G u w'')
  | _ => False
def Gives (P : Program) (o : Oper) (a : Act) (w : World) (G : Value → World → Prop) : Prop := givesUpon P G ((execOp a.eval o).run P w)
theorem wp_of_gives {P : Program} {Q : Exit → Act → World → Prop} {o : Oper} {a : Act} {w : World} {G : Value → World → Prop} {K : Act → World → Prop} (h : Gives P o a w G) (hK : ∀ u w', G u w' → K (a.put o.dst u) w') : o.wp P a w K Q := by
  unfold Gives at h
  unfold Oper.wp
  generalize (execOp a.eval o).run P w = r at *
  cases r with
  | ok n w' =>
    cases n <;> simp only [givesUpon] at h <;> simp only [Oper.upon]
    case value u => exact hK _ _ h
    case skip => exact hK _ _ h
    case enter f args =>
      refine h.mono fun e w'' he => ?_
      obtain ⟨u, rfl, hu⟩ := he
      exact hK _ _ hu
  | halt x w' => simp only [givesUpon] at h

abbrev Heap := List (Nat × ABlk)
def hget : Heap → Nat → Option ABlk
  | [], _ => none
  | (i, k) :: r, b => if i == b then some k else hget r b
/-- A block that bears cells (no map). -/
def hgetC (H : Heap) (b : Nat) : Option ABlk := match hget H b with
  | some k => if k.mode = 4 then none else some k
  | none => none
theorem hgetC_some {H : Heap} {b : Nat} {k : ABlk} (h : hgetC H b = some k) : hget H b = some k ∧ k.mode ≠ 4 := by
  unfold hgetC at h
  split at h
  · rename_i k' hk
    split at h
    · cases h
    · rename_i hm
      cases h
      exact ⟨hk, hm⟩
  · cases h
def upd (h : HF) (b : Nat) (k : Option ABlk) : HF := fun i => if i = b then k else h i
/-- The changes, the first in the list being the last that was made. -/
def updf (h : HF) : List (Nat × Option ABlk) → HF
  | [] => h
  | (b, k) :: r => upd (updf h r) b k

def szP (P : Program) (e : Nat) : Nat := ((P.info? e).map (·.size)).getD 0

/-- What an operation does: the value; the blocks that it looks at; the changes; the new blocks' numbers. -/
structure Did where
  v : Value
  rd : List Nat
  wr : List (Nat × Option ABlk)
  nw : List Nat

def OpOK (P : Program) (o : Oper) (ev : Operand → Value) (h : HF) (d : Did) : Prop :=
  ∀ (D : Nat → Prop) (ρ : Nat → Pl) (w : World) (a : Act), (∀ x ∈ o.op.operands, VR D ρ (ev x) (a.eval x)) → WR (szP P) D ρ h w → (∀ b ∈ d.nw, ¬ D b) →
    Gives P o a w (fun u w' => ∃ D' ρ', T (szP P) D ρ h w D' ρ' (updf h d.wr) w' ∧ VR D' ρ' d.v u ∧ ∀ b, D' b → D b ∨ b ∈ d.nw)

section
variable {P : Program} {D D' : Nat → Prop} {ρ ρ' : Nat → Pl} {h : HF} {w w' : World}

theorem gives_pure {o : Oper} {a : Act} {G : Value → World → Prop} {u : Value} (h : (execOp a.eval o).run P w = .ok (.value u) w) (hg : G u w) : Gives P o a w G := by
  unfold Gives; rw [h]; exact hg

/-- An operation that yields a value and leaves the world. -/
theorem opOK_still {o : Oper} {ev : Operand → Value} {v : Value} {rd : List Nat}
    (H : ∀ (D : Nat → Prop) (ρ : Nat → Pl) (w : World) (a : Act), (∀ x ∈ o.op.operands, VR D ρ (ev x) (a.eval x)) → WR (szP P) D ρ h w → ∃ u, (execOp a.eval o).run P w = .ok (.value u) w ∧ VR D ρ v u) :
    OpOK P o ev h ⟨v, rd, [], []⟩ := by
  intro D ρ w a hv hw _
  obtain ⟨u, hr, hu⟩ := H D ρ w a hv hw
  exact gives_pure hr ⟨D, ρ, T.refl hw, hu, fun b hb => .inl hb⟩

theorem opOK_flat {o : Oper} {ev : Operand → Value} {v : Value} (hs : ∀ cs b, o.op ≠ .select cs b) (hf : (o.op.operands.all fun x => flat (ev x)) = true) (hp : peval P (execOp ev o) = some (.value v)) (hv : flat v = true) :
    OpOK P o ev h ⟨v, [], [], []⟩ := by
  refine opOK_still fun D ρ w a hx hw => ⟨v, ?_, .of_flat hv⟩
  have : execOp a.eval o = execOp ev o := execOp_congr o hs fun x hx' => (hx x hx').flat_eq (Array.all_eq_true_iff_forall_mem.1 hf x hx')
  rw [this]
  exact run_of_peval hp w

/-! ### New blocks, and changes of one block -/
theorem WR.alloc (hw : WR (szP P) D ρ h w) {n : Nat} (hn : ¬ D n) {xs : List Value} {cs : Array Value} {t : TypeId} (hs : xs.length = cs.size) (hc : ∀ (i : Nat) (v : Value), xs[i]? = some v → ∃ u, cs[i]? = some u ∧ VR D ρ v u) :
    T (szP P) D ρ h w (fun b => D b ∨ b = n) (fun b => if b = n then ⟨w.heap.size, 0, none⟩ else ρ b) (upd h n (some ⟨t, xs, 0⟩)) (w.alloc (.cells cs t)) := by
  have same : ∀ b, D b → (if b = n then (⟨w.heap.size, 0, none⟩ : Pl) else ρ b) = ρ b := fun b hb => if_neg (by rintro rfl; exact hn hb)
  have old : ∀ b k, upd h n (some ⟨t, xs, 0⟩) b = some k → b ≠ n → h b = some k := by
    intro b k hb hne
    simpa [upd, hne] using hb
  have new : ∀ k, upd h n (some ⟨t, xs, 0⟩) n = some k → k = ⟨t, xs, 0⟩ := by
    intro k hk
    simpa [upd, eq_comm] using hk
  refine T.mk' hw (fun b hb => .inl hb) (same) (fun b k hb => ?_) (fun b k hb => ?_) (fun b c k l hb hc' hne hm => ?_) (rfl) (rfl) (rfl) (by simp) (fun k hk _ => Below.heap_alloc _ _ _ hk) (fun k ⟨b, l, hb, hm, he⟩ => ?_) (fun b k hb hm => ?_)
  · by_cases hbn : b = n
    · exact .inr hbn
    · exact .inl (hw.dom b k (old b k hb hbn))
  · by_cases hbn : b = n
    · subst hbn
      have := new k hb
      subst this
      simp only [if_true]
      refine .of ⟨cs, (0, 0), heap_alloc_new w _, fun i v hv => ?_, fun _ => ⟨rfl, hs.symm, rfl, .inr rfl⟩, (fun hm => absurd hm (by simp)), (fun hm => by cases hm), Nat.zero_le _, (fun hm => absurd hm (show ¬ 2 ≤ 0 by decide))⟩
      obtain ⟨u, hu, hr⟩ := hc i v hv
      exact ⟨u, by simpa using hu, hr.mono (fun b hb => .inl hb) same⟩
    · have h1 := old b k hb hbn
      simp only [if_neg hbn]
      exact ((hw.here b k h1).of_heap (Below.heap_alloc _ _ _ (hw.lt h1))).mono (fun b hb => .inl hb) same
  · by_cases hbn : b = n <;> by_cases hcn : c = n
    · omega
    · have h1 := hw.lt (old c l hc' hcn)
      simp only [hbn, hcn, if_true, if_false]
      omega
    · have h1 := hw.lt (old b k hb hbn)
      simp only [hbn, hcn, if_true, if_false]
      omega
    · simp only [if_neg hbn, if_neg hcn]
      exact hw.sep b c k l (old b k hb hbn) (old c l hc' hcn) hne hm
  · by_cases hbn : b = n
    · subst hbn
      simp only [if_true] at he
      exact .inr (by omega)
    · simp only [if_neg hbn] at he
      exact .inl ⟨b, l, old b l hb hbn, hm, he⟩
  · by_cases hbn : b = n
    · subst hbn
      rw [new k hb] at hm
      cases hm
    · exact old b k hb hbn

/-- One block that may be written has turned. -/
theorem WR.turn (hw : WR (szP P) D ρ h w) {b : Nat} {k k' : ABlk} (hb : h b = some k) (hm : k.mode ≠ 2) (hm' : k'.mode ≠ 2) (hk : BR D ρ (ρ b) k' (szP P) w')
    (ho : w'.os = w.os) (ht : w'.tape = w.tape) (hp : w'.output = w.output) (hz : w'.heap.size = w.heap.size) (hf : ∀ i, i ≠ (ρ b).blk → w'.heap[i]? = w.heap[i]?) :
    T (szP P) D ρ h w D ρ (upd h b (some k')) w' := by
  have old : ∀ c l, upd h b (some k') c = some l → c ≠ b → h c = some l := by
    intro c l hc hne
    simpa [upd, hne] using hc
  have new : ∀ l, upd h b (some k') b = some l → l = k' := by
    intro l hl
    simpa [upd, eq_comm] using hl
  refine T.mk' hw (fun _ h => h) (fun _ _ => rfl) (fun c l hc => ?_) (fun c l hc => ?_) (fun c d l m hc hd hne hmm => ?_) (ho) (ht) (hp) (by omega) (fun i hi hn => hf i fun e => hn ⟨b, k, hb, hm, e.symm⟩) (fun i ⟨c, l, hc, hl, he⟩ => ?_) (fun c l hc hl => ?_)
  · by_cases hcb : c = b
    · subst hcb; exact hw.dom _ _ hb
    · exact hw.dom c l (old c l hc hcb)
  · by_cases hcb : c = b
    · subst hcb; rw [new l hc]; exact hk
    · have h1 := old c l hc hcb
      exact (hw.here c l h1).of_heap (hf _ (hw.sep c b l k h1 hb hcb (.inr hm)))
  · by_cases hcb : c = b <;> by_cases hdb : d = b
    · omega
    · subst hcb; exact hw.sep _ d k m hb (old d m hd hdb) hne (.inl hm)
    · subst hdb; exact hw.sep c _ l k (old c l hc hcb) hb hne (.inr hm)
    · exact hw.sep c d l m (old c l hc hcb) (old d m hd hdb) hne hmm
  · by_cases hcb : c = b
    · subst hcb; exact .inl ⟨_, k, hb, hm, he⟩
    · exact .inl ⟨c, l, old c l hc hcb, hl, he⟩
  · by_cases hcb : c = b
    · subst hcb; rw [new l hc] at hl; exact absurd hl hm'
    · exact old c l hc hcb

theorem heap_setCells_at (b : Nat) : ∀ (vs : List Value) (o : Nat) (w : World) (cs : Array Value) (t : TypeId) (fz : Nat × Nat), w.heap[b]? = some (.cells cs t fz) → o + vs.length ≤ cs.size →
    ∃ cs', (w.setCells b o vs).heap[b]? = some (.cells cs' t fz) ∧ cs'.size = cs.size ∧ ∀ j, cs'[j]? = if o ≤ j ∧ j < o + vs.length then vs[j - o]? else cs[j]?
  | [], o, w, cs, t, fz, hb, hl => ⟨cs, hb, rfl, fun j => by rw [if_neg (by simp only [List.length_nil]; omega)]⟩
  | v :: r, o, w, cs, t, fz, hb, hl => by
    simp only [List.length_cons] at hl
    have h1 : (w.setCell ⟨b, o, none⟩ v).heap[b]? = some (.cells (cs.setIfInBounds o v) t fz) := by simp [World.setCell, Array.getElem?_modify, hb]
    obtain ⟨cs', h2, h3, h4⟩ := heap_setCells_at b r (o + 1) _ _ t fz h1 (by simp; omega)
    refine ⟨cs', h2, by simpa using h3, fun j => ?_⟩
    rw [h4 j]
    simp only [List.length_cons]
    by_cases hj : j = o
    · subst hj
      rw [if_neg (by omega), if_pos (by omega)]
      simp [show j < cs.size by omega]
    · by_cases hj2 : o + 1 ≤ j ∧ j < o + 1 + r.length
      · rw [if_pos hj2, if_pos (by omega), show j - o = (j - (o + 1)) + 1 by omega, List.getElem?_cons_succ]
      · rw [if_neg hj2, if_neg (by omega), Array.getElem?_setIfInBounds_ne (by omega)]
theorem heap_setCells_far (b : Nat) : ∀ (vs : List Value) (o : Nat) (w : World) (i : Nat), i ≠ b → (w.setCells b o vs).heap[i]? = w.heap[i]?
  | [], _, _, _, _ => rfl
  | v :: r, o, w, i, hi => (heap_setCells_far b r (o + 1) _ i hi).trans (Below.heap_setCell _ _ _ _ hi)
theorem setCells_rest (b : Nat) : ∀ (vs : List Value) (o : Nat) (w : World), (w.setCells b o vs).os = w.os ∧ (w.setCells b o vs).tape = w.tape ∧ (w.setCells b o vs).output = w.output ∧ (w.setCells b o vs).heap.size = w.heap.size
  | [], _, _ => ⟨rfl, rfl, rfl, rfl⟩
  | v :: r, o, w => by
    obtain ⟨h1, h2, h3, h4⟩ := setCells_rest b r (o + 1) (w.setCell ⟨b, o, none⟩ v)
    exact ⟨h1, h2, h3, h4.trans (by simp [World.setCell])⟩

/-- Cells put in the place of others. -/
def splice (cs : List Value) (o : Nat) (vs : List Value) : List Value := cs.take o ++ vs ++ cs.drop (o + vs.length)
theorem splice_get {cs : List Value} {o : Nat} {vs : List Value} (hl : o + vs.length ≤ cs.length) (j : Nat) : (splice cs o vs)[j]? = if o ≤ j ∧ j < o + vs.length then vs[j - o]? else cs[j]? := by
  unfold splice
  rw [List.append_assoc]
  by_cases h1 : j < o
  · rw [List.getElem?_append_left (by simp; omega), if_neg (by omega), List.getElem?_take_of_lt h1]
  · rw [List.getElem?_append_right (by simp; omega)]
    simp only [List.length_take, Nat.min_eq_left (show o ≤ cs.length by omega)]
    by_cases h2 : j < o + vs.length
    · rw [List.getElem?_append_left (by omega), if_pos (by omega)]
    · rw [List.getElem?_append_right (by omega), if_neg (by omega), List.getElem?_drop]
      congr 1
      omega
theorem splice_length {cs : List Value} {o : Nat} {vs : List Value} (hl : o + vs.length ≤ cs.length) : (splice cs o vs).length = cs.length := by
  unfold splice; simp; omega

/-- Some cells of a block are stored. -/
theorem WR.store (hw : WR (szP P) D ρ h w) {b o : Nat} {k : ABlk} (hb : h b = some k) (hm : k.mode ≠ 2) (hm4 : k.mode ≠ 4) {xs us : List Value} (hfl : k.mode = 3 → ∀ v ∈ xs, clo0 v = true) (hl : xs.length = us.length) (ho : o + xs.length ≤ k.cells.length)
    (hx : ∀ (i : Nat) (v : Value), xs[i]? = some v → ∃ u, us[i]? = some u ∧ VR D ρ v u) :
    T (szP P) D ρ h w D ρ (upd h b (some { k with cells := splice k.cells o xs })) (w.setCells (ρ b).blk ((ρ b).off + o) us) := by
  obtain ⟨cs, fz, h1, h2, h3, h4, h5, h6⟩ := (hw.here b k hb).has hm4
  have hsz : (ρ b).off = 0 ∧ k.cells.length ≤ cs.size := by
    rcases (show k.mode = 0 ∨ k.mode % 2 = 1 by have h61 := h6.1; clear h3 h4 h5 h6; omega) with hm0 | hm0
    · exact ⟨(h3 hm0).1, by have := (h3 hm0).2.1; omega⟩
    · obtain ⟨a, _, c, _, _, d⟩ := h4 hm0
      exact ⟨a, d⟩
  obtain ⟨cs', g1, g2, g3⟩ := heap_setCells_at (ρ b).blk us ((ρ b).off + o) w cs k.elem fz h1 (by omega)
  obtain ⟨r1, r2, r3, r4⟩ := setCells_rest (ρ b).blk us ((ρ b).off + o) w
  refine hw.turn hb hm (k' := { k with cells := splice k.cells o xs }) hm (.of ⟨cs', fz, g1, fun i v hv => ?_, fun hm0 => ?_, fun hm0 => ?_, h5, h6.1, fun hm3 v hv => ?_⟩) r1 r2 r3 r4 (fun i hi => heap_setCells_far _ _ _ _ _ hi)
  · rw [g3]
    simp only [splice_get ho] at hv
    by_cases hi : o ≤ i ∧ i < o + xs.length
    · rw [if_pos hi] at hv
      rw [if_pos (by omega), show (ρ b).off + i - ((ρ b).off + o) = i - o by omega]
      exact hx _ _ hv
    · rw [if_neg hi] at hv
      rw [if_neg (by omega)]
      exact h2 i v hv
  · obtain ⟨a, c, d, e⟩ := h3 hm0
    exact ⟨a, by simp only [splice_length ho]; omega, d, by rw [g2]; exact e⟩
  · obtain ⟨a, f, c, d, e, g⟩ := h4 hm0
    exact ⟨a, by rw [g2]; exact f, c, d, g2.trans e, by simp only [splice_length ho]; omega⟩
  · simp only [splice, List.append_assoc, List.mem_append] at hv
    rcases hv with hv | hv | hv
    · exact h6.2 hm3 v (List.mem_of_mem_take hv)
    · exact hfl (show k.mode = 3 by have hh : 2 ≤ k.mode := hm3; have := h6.1; clear h3 h4 h5 h6; omega) v hv
    · exact h6.2 hm3 v (List.mem_of_mem_drop hv)

/-- Cells of a block, as the world has them. -/
theorem WR.cells (hw : WR (szP P) D ρ h w) {b o n : Nat} {k : ABlk} (hb : h b = some k) (hm4 : k.mode ≠ 4) (ho : o + n ≤ k.cells.length) :
    ∃ us : List Value, us.length = n ∧ w.rangeAt (ρ b).blk ((ρ b).off + o) us ∧ ∀ (i : Nat) (v : Value), ((k.cells.drop o).take n)[i]? = some v → ∃ u, us[i]? = some u ∧ VR D ρ v u := by
  obtain ⟨cs, fz, h1, h2, _⟩ := (hw.here b k hb).has hm4
  have hlen : ((k.cells.drop o).take n).length = n := by simp; omega
  rcases Nat.eq_zero_or_pos n with h0 | h0
  · subst h0
    exact ⟨[], rfl, fun j v hv => by simp at hv, fun i v hv => by simp at hv⟩
  have hcs : (ρ b).off + o + n ≤ cs.size := by
    obtain ⟨u, hu, _⟩ := h2 (o + n - 1) (k.cells[o + n - 1]'(by omega)) (by simp)
    have := (Array.getElem?_eq_some_iff.1 hu).1
    omega
  refine ⟨(cs.toList.drop ((ρ b).off + o)).take n, by simp; omega, fun j v hv => ?_, fun i v hv => ?_⟩
  · have hj : j < n := by
      have := (List.getElem?_eq_some_iff.1 hv).1
      simp at this; omega
    rw [List.getElem?_take_of_lt hj, List.getElem?_drop] at hv
    simp only [World.cell?, h1]
    simpa using hv
  · have hj : i < n := by
      have := (List.getElem?_eq_some_iff.1 hv).1
      omega
    rw [List.getElem?_take_of_lt hj, List.getElem?_drop] at hv
    obtain ⟨u, hu, hr⟩ := h2 (o + i) v hv
    exact ⟨u, by rw [List.getElem?_take_of_lt hj, List.getElem?_drop, Array.getElem?_toList, ← hu]; congr 1; omega, hr⟩
/-- Cells of a slice that came in. -/
theorem RawOK.row (hr : RawOK ρ h w) {i : Nat} {a : Addr} (ha : rg.adr i = some a) {o n : Nat} (hpos : 0 < (rg.cells i).length) (ho : o + n ≤ (rg.cells i).length) :
    ∃ us : List Value, us.length = n ∧ w.rangeAt a.block (a.off + o) us ∧ ∀ (j : Nat) (v : Value), (((rg.cells i).drop o).take n)[j]? = some v → ∃ u, us[j]? = some u ∧ VR D ρ v u := by
  obtain ⟨_, _, h0⟩ := hr.at' i
  obtain ⟨a', e, hs, cs, el, fz, h1, h2⟩ := h0 (fun e => by rw [e] at hpos; exact absurd hpos (Nat.lt_irrefl _))
  rw [ha] at e
  cases e
  have hlen : (((rg.cells i).drop o).take n).length = n := by simp; omega
  rcases Nat.eq_zero_or_pos n with h0 | h0
  · subst h0
    exact ⟨[], rfl, fun j v hv => by simp at hv, fun i v hv => by simp at hv⟩
  have hcs : a.off + o + n ≤ cs.size := by
    obtain ⟨u, hu, _⟩ := h2 (o + n - 1) ((rg.cells i)[o + n - 1]'(by omega)) (by simp)
    have := (Array.getElem?_eq_some_iff.1 hu).1
    omega
  refine ⟨(cs.toList.drop (a.off + o)).take n, by simp; omega, fun j v hv => ?_, fun i v hv => ?_⟩
  · have hj : j < n := by
      have := (List.getElem?_eq_some_iff.1 hv).1
      simp at this; omega
    rw [List.getElem?_take_of_lt hj, List.getElem?_drop] at hv
    simp only [World.cell?, h1]
    simpa using hv
  · have hj : i < n := by
      have := (List.getElem?_eq_some_iff.1 hv).1
      omega
    rw [List.getElem?_take_of_lt hj, List.getElem?_drop] at hv
    obtain ⟨u, hu, hr⟩ := h2 (o + i) v hv
    exact ⟨u, by rw [List.getElem?_take_of_lt hj, List.getElem?_drop, Array.getElem?_toList, ← hu]; congr 1; omega, hr.mono (fun _ hb => hb.elim) (fun _ hb => hb.elim)⟩
theorem WR.frozen (hw : WR (szP P) D ρ h w) {b : Nat} {k : ABlk} (hb : h b = some k) (hm : k.mode ≠ 2) (hm4 : k.mode ≠ 4) {o : Nat} {v : Value} (hc : w.cell? ⟨(ρ b).blk, o, none⟩ = some v) : w.frozen? ⟨(ρ b).blk, o, none⟩ = false := by
  obtain ⟨cs, fz, h1, h2, h3, h4, h5, h6⟩ := (hw.here b k hb).has hm4
  have hf : fzOK fz cs.size := by
    have h61 := h6.1
    have h7 : k.mode = 0 ∨ k.mode % 2 = 1 := by clear h1 h2 h3 h4 h5 h6; omega
    rcases h7 with hm0 | hm0
    · exact (h3 hm0).2.2.2
    · exact (h4 hm0).2.1
  have ho : o < cs.size := by
    simp only [World.cell?, h1] at hc
    have : cs[o]? = some v := by simpa using hc
    exact (Array.getElem?_eq_some_iff.1 this).1
  simp only [World.frozen?, h1]
  rcases hf with hf | hf
  · simp [show ¬ fz.1 ≤ o by omega]
  · simp [hf]
end
end Go.Proofs.Ytkdalfdfepipiaa
