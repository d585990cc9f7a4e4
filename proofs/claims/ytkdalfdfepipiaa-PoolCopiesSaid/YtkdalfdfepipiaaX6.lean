/-
  The engine, sixth part: append.
-/
import Derived.Test.YtkdalfdfepipiaaX5
import Derived.Deep.AppendSrc
namespace Go.Proofs.Ytkdalfdfepipiaa
set_option linter.unusedSectionVars false
open Go.RowKit
set_option linter.unusedVariables false
variable [Inhabited RawG]

section
variable {P : Program} {D : Nat → Prop} {ρ : Nat → Pl} {h : HF} {w w' : World} {o : Oper} {ev : Operand → Value} {H : Heap} {d : Did}

/-- A new row that grew. -/
theorem WR.growF (hw : WR (szP P) D ρ h w) {n : Nat} (hn : ¬ D n) {xs : List Value} {cs : Array Value} {t : TypeId} {c : Nat} {fz : Nat × Nat} {md : Nat} (hmd : md = 1 ∨ (md = 3 ∧ ∀ v ∈ xs, clo0 v = true)) (hs : cs.size = c * szP P t) (hl : xs.length ≤ cs.size) (hfz : fzOK fz cs.size) (hc : ∀ (i : Nat) (v : Value), xs[i]? = some v → ∃ u, cs[i]? = some u ∧ VR D ρ v u) :
    T (szP P) D ρ h w (fun b => D b ∨ b = n) (fun b => if b = n then ⟨w.heap.size, 0, some c⟩ else ρ b) (upd h n (some ⟨t, xs, md⟩)) (w.alloc (.cells cs t fz)) := by
  have same : ∀ b, D b → (if b = n then (⟨w.heap.size, 0, some c⟩ : Pl) else ρ b) = ρ b := fun b hb => if_neg (by rintro rfl; exact hn hb)
  have old : ∀ b k, upd h n (some ⟨t, xs, md⟩) b = some k → b ≠ n → h b = some k := by
    intro b k hb hne
    simpa [upd, hne] using hb
  have new : ∀ k, upd h n (some ⟨t, xs, md⟩) n = some k → k = ⟨t, xs, md⟩ := by
    intro k hk
    simpa [upd, eq_comm] using hk
  refine T.mk' hw (fun b hb => .inl hb) (same) (fun b k hb => ?_) (fun b k hb => ?_) (fun b c' k l hb hc' hne hm => ?_) (rfl) (rfl) (rfl) (by simp) (fun k hk _ => Below.heap_alloc _ _ _ hk) (fun k ⟨b, l, hb, hm, he⟩ => ?_) (fun b k hb hm => ?_)
  · by_cases hbn : b = n
    · exact .inr hbn
    · exact .inl (hw.dom b k (old b k hb hbn))
  · by_cases hbn : b = n
    · subst hbn
      have := new k hb
      subst this
      simp only [if_true]
      refine .of ⟨cs, fz, heap_alloc_new w _, fun i v hv => ?_, (fun hm => absurd (show md = 0 from hm) (by omega)), fun _ => ⟨rfl, hfz, c, rfl, hs, hl⟩, (fun hm => absurd (show md = 2 from hm) (by omega)), show md ≤ 3 by omega, (fun hm => by rcases hmd with h | ⟨_, h⟩; (exact absurd (show 2 ≤ md from hm) (by omega)); exact h)⟩
      obtain ⟨u, hu, hr⟩ := hc i v hv
      exact ⟨u, by simpa using hu, hr.mono (fun b hb => .inl hb) same⟩
    · have h1 := old b k hb hbn
      simp only [if_neg hbn]
      exact ((hw.here b k h1).of_heap (Below.heap_alloc _ _ _ (hw.lt h1))).mono (fun b hb => .inl hb) same
  · by_cases hbn : b = n <;> by_cases hcn : c' = n
    · omega
    · have h1 := hw.lt (old c' l hc' hcn)
      simp only [hbn, hcn, if_true, if_false]
      omega
    · have h1 := hw.lt (old b k hb hbn)
      simp only [hbn, hcn, if_true, if_false]
      omega
    · simp only [if_neg hbn, if_neg hcn]
      exact hw.sep b c' k l (old b k hb hbn) (old c' l hc' hcn) hne hm
  · by_cases hbn : b = n
    · subst hbn
      simp only [if_true] at he
      exact .inr (by omega)
    · simp only [if_neg hbn] at he
      exact .inl ⟨b, l, old b l hb hbn, hm, he⟩
  · by_cases hbn : b = n
    · subst hbn
      rw [new k hb] at hm
      exact absurd (show md = 2 from hm) (by omega)
    · exact old b k hb hbn

theorem WR.grow (hw : WR (szP P) D ρ h w) {n : Nat} (hn : ¬ D n) {xs : List Value} {cs : Array Value} {t : TypeId} {c : Nat} {md : Nat} (hmd : md = 1 ∨ (md = 3 ∧ ∀ v ∈ xs, clo0 v = true)) (hs : cs.size = c * szP P t) (hl : xs.length ≤ cs.size) (hc : ∀ (i : Nat) (v : Value), xs[i]? = some v → ∃ u, cs[i]? = some u ∧ VR D ρ v u) :
    T (szP P) D ρ h w (fun b => D b ∨ b = n) (fun b => if b = n then ⟨w.heap.size, 0, some c⟩ else ρ b) (upd h n (some ⟨t, xs, md⟩)) (w.alloc (.cells cs t)) := hw.growF hn hmd hs hl (.inr rfl) hc

/-- A block that goes. -/
theorem T.drop (hw : WR (szP P) D ρ h w) (b : Nat) : T (szP P) D ρ h w D ρ (upd h b none) w := by
  have old : ∀ c l, upd h b none c = some l → h c = some l := by
    intro c l hc
    unfold upd at hc
    split at hc
    · cases hc
    · exact hc
  exact ⟨fun _ h => h, fun _ _ => rfl, hw.less old, rfl, rfl, rfl, Nat.le_refl _, fun _ _ _ => rfl, fun k ⟨c, l, hc, hm, he⟩ => .inl ⟨c, l, old c l hc, hm, he⟩, fun c l hc _ => old c l hc⟩

/-- A block takes another number. -/
theorem T.move (hw : WR (szP P) D ρ h w) {b n : Nat} {k : ABlk} (hb : h b = some k) (hk : k.mode ≠ 2) (hn : ¬ D n) :
    T (szP P) D ρ h w (fun c => D c ∨ c = n) (fun c => if c = n then ρ b else ρ c) (upd (upd h b none) n (some k)) w := by
  have hbn : b ≠ n := by rintro rfl; exact hn (hw.dom _ _ hb)
  have same : ∀ c, D c → (if c = n then ρ b else ρ c) = ρ c := fun c hc => if_neg (by rintro rfl; exact hn hc)
  have old : ∀ c l, upd (upd h b none) n (some k) c = some l → c ≠ n → h c = some l ∧ c ≠ b := by
    intro c l hc hne
    simp only [upd, if_neg hne] at hc
    split at hc
    · cases hc
    · rename_i h1; exact ⟨hc, h1⟩
  have new : ∀ l, upd (upd h b none) n (some k) n = some l → l = k := by
    intro l hl
    simpa [upd, eq_comm] using hl
  refine T.mk' hw (fun c hc => .inl hc) (same) (fun c l hc => ?_) (fun c l hc => ?_) (fun c e l m hc he hne hm => ?_) (rfl) (rfl) (rfl) (Nat.le_refl _) (fun _ _ _ => rfl) (fun i ⟨c, l, hc, hm, he⟩ => ?_) (fun c l hc hm => ?_)
  · by_cases hcn : c = n
    · exact .inr hcn
    · exact .inl (hw.dom c l (old c l hc hcn).1)
  · by_cases hcn : c = n
    · subst hcn
      rw [new l hc]
      simp only [if_true]
      exact (hw.here b k hb).mono (fun c hc => .inl hc) same
    · simp only [if_neg hcn]
      exact (hw.here c l (old c l hc hcn).1).mono (fun c hc => .inl hc) same
  · by_cases hcn : c = n <;> by_cases hen : e = n
    · omega
    · subst hcn
      obtain ⟨h1, h2⟩ := old e m he hen
      simp only [if_true, if_neg hen]
      exact hw.sep b e k m hb h1 (Ne.symm h2) (by rw [← new l hc]; exact hm)
    · subst hen
      obtain ⟨h1, h2⟩ := old c l hc hcn
      simp only [if_true, if_neg hcn]
      exact hw.sep c b l k h1 hb h2 (by rw [← new m he]; exact hm)
    · simp only [if_neg hcn, if_neg hen]
      exact hw.sep c e l m (old c l hc hcn).1 (old e m he hen).1 hne hm
  · by_cases hcn : c = n
    · subst hcn
      simp only [if_true] at he
      exact .inl ⟨b, k, hb, by rw [← new l hc]; exact hm, he⟩
    · simp only [if_neg hcn] at he
      exact .inl ⟨c, l, (old c l hc hcn).1, hm, he⟩
  · by_cases hcn : c = n
    · subst hcn
      exact absurd (by rw [← new l hc]; exact hm) hk
    · exact (old c l hc hcn).1

/-- Cells put behind those of a row that grew. -/
theorem WR.extend (hw : WR (szP P) D ρ h w) {b : Nat} {k : ABlk} (hb : h b = some k) (hm : k.mode % 2 = 1) {c : Nat} (hcap : (ρ b).cap = some c) {xs us : List Value} {md : Nat} (hmd : md = 1 ∨ (md = 3 ∧ k.mode = 3 ∧ ∀ v ∈ xs, clo0 v = true)) (hl : xs.length = us.length) (ho : k.cells.length + us.length ≤ c * szP P k.elem)
    (hx : ∀ (i : Nat) (v : Value), xs[i]? = some v → ∃ u, us[i]? = some u ∧ VR D ρ v u) :
    T (szP P) D ρ h w D ρ (upd h b (some { k with cells := k.cells ++ xs, mode := md })) (w.setCells (ρ b).blk k.cells.length us) := by
  obtain ⟨cs, fz, h1, h2, h3, h4, h5, h6⟩ := (hw.here b k hb).has (by omega)
  obtain ⟨a, f, c', d, e, g⟩ := h4 hm
  rw [hcap] at d
  cases d
  obtain ⟨cs', g1, g2, g3⟩ := heap_setCells_at (ρ b).blk us k.cells.length w cs k.elem fz h1 (by omega)
  obtain ⟨r1, r2, r3, r4⟩ := setCells_rest (ρ b).blk us k.cells.length w
  have mk2 : k.mode ≠ 2 := fun e => by rw [e] at hm; cases hm
  have md2 : md ≠ 2 := by rcases hmd with h | ⟨h, _⟩ <;> (rw [h]; decide)
  have md0 : md ≠ 0 := by rcases hmd with h | ⟨h, _⟩ <;> (rw [h]; decide)
  have md3 : md ≤ 3 := by rcases hmd with h | ⟨h, _⟩ <;> (rw [h]; decide)
  refine hw.turn hb mk2 (k' := { k with cells := k.cells ++ xs, mode := md }) md2 (.of ⟨cs', fz, g1, fun i v hv => ?_, fun hm0 => absurd hm0 md0, fun _ => ⟨a, by rw [g2]; exact f, c, hcap, g2.trans e, ?_⟩, fun hm2 => absurd hm2 md2, md3, fun hm3 v hv => ?_⟩) r1 r2 r3 r4 (fun i hi => heap_setCells_far _ _ _ _ _ hi)
  · rw [g3, a]
    simp only [Nat.zero_add]
    by_cases hi : i < k.cells.length
    · rw [if_neg (by omega)]
      simp only [List.getElem?_append_left hi] at hv
      have := h2 i v hv
      rwa [a, Nat.zero_add] at this
    · simp only [List.getElem?_append_right (Nat.le_of_not_lt hi)] at hv
      have := (List.getElem?_eq_some_iff.1 hv).1
      rw [if_pos (by omega)]
      exact hx _ _ hv
  · simp only [List.length_append]; omega
  · rcases hmd with h | ⟨_, hk3, h⟩
    · exact absurd (show 2 ≤ md from hm3) (by rw [h]; decide)
    · rcases List.mem_append.1 hv with hv | hv
      · exact h6.2 (by rw [hk3]; decide) v hv
      · exact h v hv

theorem run_append_none {t tx ty e : TypeId} {i : TypeInfo} {x : Value} (ht : P.underlying t = some (.slice e)) (hi : P.info? e = some i) (hs : Src P i.size tx x 0 [] w)
    {base : Option Addr} {sLen sCap : Nat} (hroom : sLen ≤ sCap) :
    (Builtin.append_ #[t, tx] ty #[.slice base sLen sCap, x]).run P w = .ok (.slice base sLen sCap) w := by
  have h1 := hs.cells
  rcases hs.kind with ⟨e', hk⟩ | hk <;> cases base <;> simp [Builtin.append_, run_underlying ht, run_underlying hk, sizeOf, typeInfo, hi, hs.len, hroom, h1, storeCells]

/-! the executable side -/
/-- What is appended: how many, the cells, the blocks looked at. -/
def srcCells (P : Program) (H : Heap) (n : Nat) (x : Value) : Option (Nat × List Value × List Nat) :=
  match x with
  | .slice none _ _ => some (0, [], [])
  | .slice (some ⟨b, o, none⟩) m _ => match hgetC H b with
    | some k => if o + m * n ≤ k.cells.length then some (m, (k.cells.drop o).take (m * n), [b]) else none
    | none => none
  | .slice (some ⟨_, _, some 0⟩) _ _ => some (0, [], [])
  | .slice (some ⟨_, _, some 1⟩) _ _ => some (0, [], [])
  | .slice (some ⟨i, 0, some 2⟩) m _ => if m = 0 then some (0, [], []) else if m * n ≤ (rg.cells i).length ∧ 0 < (rg.cells i).length then some (m, (rg.cells i).take (m * n), []) else none
  | .string s => if n = 1 then some (s.size, s.data.toList.map (fun b => .int .u8 b.toNat), []) else none
  | _ => none
def srcKind : TypeDesc → Bool
  | .slice _ => true
  | .string => true
  | _ => false
def srcSlice : Value → Bool
  | .slice none m _ => m == 0
  | .slice (some _) _ _ => true
  | .string _ => true
  | _ => false
def mdOf (l : List Value) : Nat := if l.all clo0 = true then 3 else 1
def mdUp (m : Nat) (l : List Value) : Nat := if m = 3 ∧ l.all clo0 = true then 3 else 1
theorem mdOf_spec (l : List Value) : mdOf l = 1 ∨ (mdOf l = 3 ∧ ∀ v ∈ l, clo0 v = true) := by
  unfold mdOf
  split
  · rename_i h; exact .inr ⟨rfl, fun v hv => List.all_eq_true.1 h v hv⟩
  · exact .inl rfl
theorem mdUp_spec (m : Nat) (l : List Value) : mdUp m l = 1 ∨ (mdUp m l = 3 ∧ m = 3 ∧ ∀ v ∈ l, clo0 v = true) := by
  unfold mdUp
  split
  · rename_i h; exact .inr ⟨rfl, h.1, fun v hv => List.all_eq_true.1 h.2 v hv⟩
  · exact .inl rfl
def aAppend (P : Program) (ev : Operand → Value) (H : Heap) (t tx : TypeId) (s x : Operand) (nid : Nat) : Option Did :=
  match P.underlying t, P.underlying tx with
  | some (.slice e), some dd =>
    match P.info? e with
    | some i => match i.zero with
      | some z =>
        if srcKind dd = true ∧ 0 < i.size ∧ z.cells.size = i.size ∧ srcSlice (ev x) = true then
          (srcCells P H i.size (ev x)).bind fun (m, news, rd) =>
            match ev s with
            | .slice none 0 0 =>
              if m = 0 then some ⟨.slice none 0 0, rd, [], []⟩
              else if m * i.bytes ≤ 140737488355328 ∧ m ≤ 9223372036854775807 ∧ news.all (·.oneCell') = true then some ⟨.slice (some ⟨nid, 0, none⟩) m m, rd, [(nid, some ⟨e, news, mdOf news⟩)], [nid]⟩ else none
            | .slice (some ⟨b0, o0, some 1⟩) 0 0 =>
              if m = 0 then some ⟨.slice (some ⟨b0, o0, some 1⟩) 0 0, rd, [], []⟩
              else if m * i.bytes ≤ 140737488355328 ∧ m ≤ 9223372036854775807 ∧ news.all (·.oneCell') = true then some ⟨.slice (some ⟨nid, 0, none⟩) m m, rd, [(nid, some ⟨e, news, mdOf news⟩)], [nid]⟩ else none
            | .slice (some ⟨b, off, none⟩) len cap =>
              match hgetC H b with
              | some k =>
                if m = 0 then some ⟨.slice (some ⟨b, off, none⟩) len cap, b :: rd, [], []⟩
                else if (len + m) * i.bytes ≤ 140737488355328 ∧ len + m ≤ 9223372036854775807 ∧ news.all (·.oneCell') = true then
                  if k.mode % 2 = 1 then
                    if off = 0 ∧ len * i.size = k.cells.length ∧ k.elem = e then some ⟨.slice (some ⟨nid, 0, none⟩) (len + m) (len + m), b :: rd, [(nid, some ⟨e, k.cells ++ news, mdUp k.mode news⟩), (b, none)], [nid]⟩ else none
                  else if len + m ≤ cap then
                    if k.mode = 0 ∧ off + (len + m) * i.size ≤ k.cells.length then some ⟨.slice (some ⟨b, off, none⟩) (len + m) cap, b :: rd, [(b, some { k with cells := splice k.cells (off + len * i.size) news })], []⟩ else none
                  else if off + len * i.size ≤ k.cells.length then some ⟨.slice (some ⟨nid, 0, none⟩) (len + m) (len + m), b :: rd, [(nid, some ⟨e, (k.cells.drop off).take (len * i.size) ++ news, mdOf ((k.cells.drop off).take (len * i.size) ++ news)⟩)], [nid]⟩ else none
                else none
              | none => none
            | _ => none
        else none
      | none => none
    | none => none
  | _, _ => none

/-- The source, in the world. -/
theorem srcCells_spec {n m : Nat} {x u : Value} {news : List Value} {rd : List Nat} {tx : TypeId} {dd : TypeDesc} (htx : P.underlying tx = some dd) (hdd : srcKind dd = true)
    (hs : srcCells P H n x = some (m, news, rd)) (hx : srcSlice x = true) (h1c : m ≠ 0 → news.all (·.oneCell') = true) (hv : VR D ρ x u) (hw : WR (szP P) D ρ h w) (hr : ∀ b ∈ rd, h b = hget H b) :
    ∃ us : List Value, us.length = m * n ∧ us.length = news.length ∧ (∀ w1 : World, w1.heap = w.heap → Src P n tx u m us w1) ∧ ∀ (i : Nat) (v : Value), news[i]? = some v → ∃ u, us[i]? = some u ∧ VR D ρ v u := by
  have kind : (∃ e', P.underlying tx = some (.slice e')) ∨ P.underlying tx = some .string := by
    cases dd <;> first | (simp [srcKind] at hdd; done) | exact .inl ⟨_, htx⟩ | exact .inr htx
  unfold srcCells at hs
  split at hs
  · cases hs
    have := hv.flat0_eq rfl
    subst this
    simp only [srcSlice, beq_iff_eq] at hx
    subst hx
    exact ⟨[], by simp, rfl, fun w1 _ => ⟨kind, fun _ => rfl, run_firstCells_none w1 n 0 0 _, run_firstCells_none w1.drew n 0 0 _, by simp, fun _ h => by cases h⟩, fun i v hv => by simp at hv⟩
  · rename_i b off mm cc
    split at hs
    · rename_i k hk
      split at hs
      · rename_i hl
        cases hs
        have hb := hr b (by simp)
        have hm4 := (hgetC_some hk).2
        rw [(hgetC_some hk).1] at hb
        obtain ⟨hD, cap', h2, _⟩ := hv.slice_inv
        subst h2
        obtain ⟨us, hul, hur, huv⟩ := hw.cells hb hm4 hl
        have hcell : ∀ w1 : World, w1.heap = w.heap → ∀ j v, us[j]? = some v → w1.cell? ((⟨(ρ b).blk, (ρ b).off + off, none⟩ : Addr).add j) = some v := by
          intro w1 h1 j v hv
          rw [addr_add]
          have := hur j v hv
          simp only [World.cell?] at this ⊢
          rw [h1]
          exact this
        refine ⟨us, hul, by rw [hul]; simp; omega, fun w1 h1 => ⟨kind, fun _ => rfl, run_firstCells_some w1 n _ _ _ _ us hul (hcell w1 h1), run_firstCells_some w1.drew n _ _ _ _ us hul (hcell w1.drew h1), hul, fun u hu => ?_⟩, huv⟩
        obtain ⟨i, hi⟩ := List.mem_iff_getElem?.1 hu
        have hi1 : i < us.length := (List.getElem?_eq_some_iff.1 hi).1
        have hi2 : i < ((k.cells.drop off).take (m * n)).length := by simp; omega
        obtain ⟨u', hu', hvr⟩ := huv i _ (List.getElem?_eq_getElem hi2)
        rw [hi] at hu'
        cases hu'
        refine hvr.one (List.all_eq_true.1 (h1c ?_) _ (List.getElem_mem hi2))
        rintro rfl
        omega
      · cases hs
    · cases hs
  · cases hs
    generalize hy : Value.slice _ _ _ = y at hv
    cases hv <;> cases hy
    all_goals first
      | (rename_i hh; simp [flat0] at hh; done)
      | exact ⟨[], by simp, rfl, fun w1 _ => ⟨kind, fun _ => rfl, run_firstCells_some w1 _ 0 _ _ _ [] (by simp) (fun j v hv => by simp at hv), run_firstCells_some w1.drew _ 0 _ _ _ [] (by simp) (fun j v hv => by simp at hv), by simp, fun _ h => by cases h⟩, fun i v hv => by simp at hv⟩
  · cases hs
    generalize hy : Value.slice _ _ _ = y at hv
    cases hv <;> cases hy
    all_goals first
      | (rename_i hh; simp [flat0] at hh; done)
      | exact ⟨[], by simp, rfl, fun w1 _ => ⟨kind, fun _ => rfl, run_firstCells_some w1 _ 0 _ _ _ [] (by simp) (fun j v hv => by simp at hv), run_firstCells_some w1.drew _ 0 _ _ _ [] (by simp) (fun j v hv => by simp at hv), by simp, fun _ h => by cases h⟩, fun i v hv => by simp at hv⟩
  · rename_i b mm cc
    obtain ⟨hl0, hu, _⟩ := hv.opq_inv
    subst hu
    split at hs
    · rename_i h0
      subst h0
      cases hs
      cases ha : rg.adr b with
      | none => exact ⟨[], by simp, rfl, fun w1 _ => ⟨kind, fun _ => rfl, run_firstCells_none w1 n 0 _ _, run_firstCells_none w1.drew n 0 _ _, by simp, fun _ h => by cases h⟩, fun i v hv => by simp at hv⟩
      | some q => exact ⟨[], by simp, rfl, fun w1 _ => ⟨kind, fun _ => rfl, run_firstCells_some w1 _ 0 _ _ _ [] (by simp) (fun j v hv => by simp at hv), run_firstCells_some w1.drew _ 0 _ _ _ [] (by simp) (fun j v hv => by simp at hv), by simp, fun _ h => by cases h⟩, fun i v hv => by simp at hv⟩
    · split at hs
      · rename_i h0 hc
        cases hs
        obtain ⟨q, hq, hqs⟩ := hw.raw.addr (i := b) (by rw [hl0]; omega)
        rw [hq]
        obtain ⟨us, hul, hur, huv⟩ := hw.raw.row (D := D) hq (o := 0) (n := m * n) hc.2 (by omega)
        rw [List.drop_zero] at huv
        have hcell : ∀ w1 : World, w1.heap = w.heap → ∀ j v, us[j]? = some v → w1.cell? (q.add j) = some v := by
          intro w1 h1 j v hv
          have := hur j v hv
          rw [show q.add j = (⟨q.block, q.off + 0 + j, none⟩ : Addr) by obtain ⟨qb, qo, qs⟩ := q; simp only at hqs; subst hqs; rw [addr_add, Nat.add_zero]]
          simp only [World.cell?] at this ⊢
          rw [h1]
          exact this
        refine ⟨us, hul, by rw [hul]; simp; omega, fun w1 h1 => ⟨kind, fun _ => rfl, run_firstCells_some w1 n _ _ _ _ us hul (hcell w1 h1), run_firstCells_some w1.drew n _ _ _ _ us hul (hcell w1.drew h1), hul, fun u hu => ?_⟩, huv⟩
        obtain ⟨i, hi⟩ := List.mem_iff_getElem?.1 hu
        have hi1 : i < us.length := (List.getElem?_eq_some_iff.1 hi).1
        have hi2 : i < ((rg.cells b).take (m * n)).length := by simp; omega
        obtain ⟨u', hu', hvr⟩ := huv i _ (List.getElem?_eq_getElem hi2)
        rw [hi] at hu'
        cases hu'
        exact hvr.one (List.all_eq_true.1 (h1c h0) _ (List.getElem_mem hi2))
      · cases hs
  · rename_i s
    split at hs
    · rename_i hn
      subst hn
      cases hs
      have := hv.flat0_eq rfl
      subst this
      refine ⟨byteCells s, by rw [byteCells_length, Nat.mul_one], rfl, fun w1 _ => ⟨kind, fun _ => rfl, firstCells_string s w1, firstCells_string s w1.drew, by rw [byteCells_length, Nat.mul_one], fun u hu => ?_⟩, fun i v hv => ⟨v, hv, ?_⟩⟩
      · obtain ⟨_, _, rfl⟩ := List.mem_map.1 hu
        rfl
      · simp only [List.getElem?_map, Option.map_eq_some_iff] at hv
        obtain ⟨b, _, rfl⟩ := hv
        exact .scal _ rfl
    · cases hs
  · cases hs

theorem szP_of {e : Nat} {i : TypeInfo} (hi : P.info? e = some i) : szP P e = i.size := by simp [szP, hi]

/-- The arm that grows, in the engine's words. -/
theorem append_grows {t tx ty e : TypeId} {i : TypeInfo} {z : Value} (ht : P.underlying t = some (.slice e)) (hi : P.info? e = some i) (hz : i.zero = some z) (hzs : z.cells.size = i.size) (hsz : 0 < i.size)
    (hw : WR (szP P) D ρ h w) {nid : Nat} (hn : ¬ D nid) {base : Option Addr} {len cap m : Nat} {u : Value} {oldA news : List Value} {olds us : List Value} {md : Nat} (hmd : md = 1 ∨ (md = 3 ∧ ∀ v ∈ oldA ++ news, clo0 v = true))
    (hol : olds.length = len * i.size) (hoa : oldA.length = olds.length) (hov : ∀ (j : Nat) (v : Value), oldA[j]? = some v → ∃ u, olds[j]? = some u ∧ VR D ρ v u)
    (hold : (Builtin.firstCells i.size len (.slice base len cap)).run P w.drew = .ok olds.toArray w.drew)
    (hul : us.length = m * i.size) (hua : us.length = news.length) (hS : Src P i.size tx u m us w) (huv : ∀ (j : Nat) (v : Value), news[j]? = some v → ∃ u, us[j]? = some u ∧ VR D ρ v u)
    (hg : cap < len + m) (hb : (len + m) * i.bytes ≤ 140737488355328) (h63 : len + m ≤ 9223372036854775807) :
    ∃ v w', (Builtin.append_ #[t, tx] ty #[.slice base len cap, u]).run P w = .ok v w' ∧ ∃ D' ρ', T (szP P) D ρ h w D' ρ' (upd h nid (some ⟨e, oldA ++ news, md⟩)) w' ∧ VR D' ρ' (.slice (some ⟨nid, 0, none⟩) (len + m) (len + m)) v ∧ ∀ b, D' b → D b ∨ b ∈ [nid] := by
  have hrun := run_append_grow_src (P := P) w t tx ty e i z ht hi hz base len cap olds hold u m us hS hg (by omega) (growslice_fits hg hb)
  have hge := grownCap_ge w (len + m) cap e
  have hT := (hw.heap (w' := w.drew) rfl).grow (n := nid) hn hmd (xs := oldA ++ news) (cs := (olds ++ us).toArray ++ Builtin.zeroCells z.cells (grownCap w (len + m) cap e - (len + m))) (t := e) (c := grownCap w (len + m) cap e)
    (by
      rw [szP_of hi]
      simp only [Array.size_append, List.size_toArray, List.length_append, size_zeroCells, hzs, hol, hul, ← Nat.add_mul]
      congr 1
      omega)
    (by simp only [Array.size_append, List.size_toArray, List.length_append]; omega)
    (fun j v hv => by
      rw [Array.getElem?_append_left (by
        have := (List.getElem?_eq_some_iff.1 hv).1
        simp only [List.size_toArray, List.length_append] at this ⊢; omega), List.getElem?_toArray]
      by_cases hj : j < oldA.length
      · rw [List.getElem?_append_left hj] at hv
        rw [List.getElem?_append_left (by omega)]
        exact hov j v hv
      · rw [List.getElem?_append_right (by omega)] at hv
        rw [List.getElem?_append_right (by omega), ← hoa]
        exact huv _ v hv)
  refine ⟨_, _, hrun, _, _, (T.drew hw).trans hT, ?_, fun b hb => hb.imp id (by rintro rfl; simp)⟩
  have := VR.slice (D := fun b => D b ∨ b = nid) (ρ := fun b => if b = nid then (⟨w.drew.heap.size, 0, some (grownCap w (len + m) cap e)⟩ : Pl) else ρ b) nid 0 (len + m) (len + m) (grownCap w (len + m) cap e) (.inr rfl) hge (by simp) (fun c hc _ => by simpa using hc)
  simpa using this

theorem exec_append {s x : Operand} {t tx : TypeId} {a : Act} (ho : o.op = .call { callee := .builtin .append, args := #[s, x], argTypes := #[t, tx] }) {v : Value} {w' : World} (hrun : (Builtin.append_ #[t, tx] o.type #[a.eval s, a.eval x]).run P w = .ok v w') : (execOp a.eval o).run P w = .ok (.value v) w' := by
  simp [execOp, ho, resolve, invoke, builtin, hrun, Sem.run_bind]

theorem aAppend_ok {s x : Operand} {t tx : TypeId} {nid : Nat} (ho : o.op = .call { callee := .builtin .append, args := #[s, x], argTypes := #[t, tx] }) (hd : aAppend P ev H t tx s x nid = some d) (hr : ∀ b ∈ d.rd, h b = hget H b) : OpOK P o ev h d := by
  have hops : ∀ (D : Nat → Prop) (ρ : Nat → Pl) (a : Act), (∀ x ∈ o.op.operands, VR D ρ (ev x) (a.eval x)) → VR D ρ (ev s) (a.eval s) ∧ VR D ρ (ev x) (a.eval x) :=
    fun D ρ a hv => ⟨hv s (by simp [ho, Op.operands, Call.operands]), hv x (by simp [ho, Op.operands, Call.operands])⟩
  unfold aAppend at hd
  split at hd
  case h_2 => cases hd
  rename_i e dd ht htx
  split at hd
  case h_2 => cases hd
  rename_i i hi
  split at hd
  case h_2 => cases hd
  rename_i z hz
  split at hd
  case isFalse => cases hd
  rename_i hc
  obtain ⟨hdd, hsz, hzs, hsrc⟩ := hc
  obtain ⟨⟨m, news, rd⟩, hsc, hd⟩ := Option.bind_eq_some_iff.1 hd
  dsimp only at hd
  have nothing : m = 0 → news = [] := by
    intro hm
    subst hm
    unfold srcCells at hsc
    split at hsc
    · cases hsc; rfl
    · split at hsc
      · split at hsc
        · cases hsc; simp
        · cases hsc
      · cases hsc
    · cases hsc; rfl
    · cases hsc; rfl
    · split at hsc
      · cases hsc; rfl
      · rename_i h0
        split at hsc
        · simp only [Option.some.injEq, Prod.mk.injEq] at hsc
          exact absurd hsc.1 h0
        · cases hsc
    · rename_i st _
      split at hsc
      · simp only [Option.some.injEq, Prod.mk.injEq] at hsc
        rw [← hsc.2.1]
        have : st.data.toList.length = 0 := hsc.1
        rw [List.eq_nil_of_length_eq_zero this]; rfl
      · cases hsc
    · cases hsc
  split at hd
  · rename_i hs
    split at hd
    · rename_i hm0
      subst hm0
      cases hd
      refine opOK_still fun D ρ w a hv hw => ?_
      obtain ⟨v1, v2⟩ := hops D ρ a hv
      rw [hs] at v1
      have h1 := v1.flat0_eq rfl
      obtain ⟨us, h2, h3, h4, h5⟩ := srcCells_spec htx hdd hsc hsrc (fun h => absurd rfl h) v2 hw hr
      have : us = [] := List.eq_nil_of_length_eq_zero (by rw [h2]; simp)
      subst this
      refine ⟨.slice none 0 0, exec_append ho ?_, .scal _ rfl⟩
      rw [h1]
      exact run_append_none ht hi (h4 w rfl) (Nat.le_refl _)
    · rename_i hm0
      split at hd
      case isFalse => cases hd
      rename_i hbb
      cases hd
      intro D ρ w a hv hw hn
      obtain ⟨v1, v2⟩ := hops D ρ a hv
      rw [hs] at v1
      have h1 := v1.flat0_eq rfl
      obtain ⟨us, h2, h3, h4, h5⟩ := srcCells_spec htx hdd hsc hsrc (fun _ => hbb.2.2) v2 hw hr
      obtain ⟨v, w', hrun, D', ρ', hT, hV, hD'⟩ := append_grows (ty := o.type) (base := none) (len := 0) (cap := 0) (oldA := []) (olds := []) (md := mdOf news) (hmd := mdOf_spec news) ht hi hz hzs hsz hw (hn nid (by simp)) (by simp) rfl (fun j v hv => by simp at hv) (run_firstCells_none _ _ _ _ _) h2 h3 (h4 w rfl) h5 (by omega) (by simpa using hbb.1) (by simpa using hbb.2.1)
      unfold Gives
      rw [exec_append ho (by rw [h1]; exact hrun)]
      simp only [Nat.zero_add, List.nil_append] at hT hV
      exact ⟨D', ρ', hT, hV, hD'⟩
  · rename_i b0 o0 hs
    split at hd
    · rename_i hm0
      subst hm0
      cases hd
      refine opOK_still fun D ρ w a hv hw => ?_
      obtain ⟨v1, v2⟩ := hops D ρ a hv
      rw [hs] at v1
      obtain ⟨_, _, a0, h1⟩ := v1.none0_inv
      obtain ⟨us, h2, h3, h4, h5⟩ := srcCells_spec htx hdd hsc hsrc (fun h => absurd rfl h) v2 hw hr
      have : us = [] := List.eq_nil_of_length_eq_zero (by rw [h2]; simp)
      subst this
      refine ⟨.slice (some a0) 0 0, exec_append ho ?_, .none0 _ _ _⟩
      rw [h1]
      exact run_append_none ht hi (h4 w rfl) (Nat.le_refl _)
    · rename_i hm0
      split at hd
      case isFalse => cases hd
      rename_i hbb
      cases hd
      intro D ρ w a hv hw hn
      obtain ⟨v1, v2⟩ := hops D ρ a hv
      rw [hs] at v1
      obtain ⟨_, _, a0, h1⟩ := v1.none0_inv
      obtain ⟨us, h2, h3, h4, h5⟩ := srcCells_spec htx hdd hsc hsrc (fun _ => hbb.2.2) v2 hw hr
      obtain ⟨v, w', hrun, D', ρ', hT, hV, hD'⟩ := append_grows (ty := o.type) (base := some a0) (len := 0) (cap := 0) (oldA := []) (olds := []) (md := mdOf news) (hmd := mdOf_spec news) ht hi hz hzs hsz hw (hn nid (by simp)) (by simp) rfl (fun j v hv => by simp at hv) (run_firstCells_some _ _ _ _ _ _ [] (by simp) (fun j v hv => by simp at hv)) h2 h3 (h4 w rfl) h5 (by omega) (by simpa using hbb.1) (by simpa using hbb.2.1)
      unfold Gives
      rw [exec_append ho (by rw [h1]; exact hrun)]
      simp only [Nat.zero_add, List.nil_append] at hT hV
      exact ⟨D', ρ', hT, hV, hD'⟩
  · rename_i b off len cap hs
    split at hd
    case h_2 => cases hd
    rename_i k hk
    split at hd
    · rename_i hm0
      subst hm0
      cases hd
      refine opOK_still fun D ρ w a hv hw => ?_
      obtain ⟨v1, v2⟩ := hops D ρ a hv
      rw [hs] at v1
      obtain ⟨hD, cap', h1, h6, _⟩ := v1.slice_inv
      obtain ⟨us, h2, h3, h4, h5⟩ := srcCells_spec htx hdd hsc hsrc (fun h => absurd rfl h) v2 hw (fun c hc => hr c (by simp [hc]))
      have : us = [] := List.eq_nil_of_length_eq_zero (by rw [h2]; simp)
      subst this
      refine ⟨a.eval s, exec_append ho ?_, v1⟩
      rw [h1]
      exact run_append_none ht hi (h4 w rfl) h6
    · rename_i hm0
      split at hd
      case isFalse => cases hd
      rename_i hbb
      split at hd
      · rename_i hmd
        split at hd
        case isFalse => cases hd
        rename_i hown
        obtain ⟨rfl, hlen, hel⟩ := hown
        cases hd
        have hb := hr b (by simp)
        have hm4 := (hgetC_some hk).2
        rw [(hgetC_some hk).1] at hb
        intro D ρ w a hv hw hn
        obtain ⟨v1, v2⟩ := hops D ρ a hv
        rw [hs] at v1
        obtain ⟨hD, cap', h1, h6, h7, h8⟩ := v1.slice_inv
        obtain ⟨us, h2, h3, h4, h5⟩ := srcCells_spec htx hdd hsc hsrc (fun _ => hbb.2.2) v2 hw (fun c hc => hr c (by simp [hc]))
        obtain ⟨hoff, c, cs, fz, hcap, hheap, hcs, hle⟩ := hw.cap_some hb hmd
        have hcc := h8 c hcap rfl
        subst hcc
        have hsize : szP P k.elem = i.size := by rw [hel]; exact szP_of hi
        rw [hsize] at hcs
        obtain ⟨olds, o1, o2, o3⟩ := hw.cells (o := 0) (n := k.cells.length) hb hm4 (by omega)
        simp only [List.drop_zero, List.take_length, Nat.add_zero] at o2 o3
        have hne : nid ≠ b := fun e => hn nid (by simp) (e ▸ hD)
        by_cases hroom : len + m ≤ cap'
        · have hlenle : len * i.size + us.length ≤ cs.size := by rw [h2, hcs, ← Nat.add_mul]; exact Nat.mul_le_mul_right _ hroom
          have hrun := run_append_room_src (P := P) w t tx o.type e i ht hi (ρ b).blk (ρ b).off len cap' (a.eval x) m us (h4 w rfl) hroom
            (fun j hj => by
              have hx : w.cell? ⟨(ρ b).blk, (ρ b).off + len * i.size + j, none⟩ = cs[(ρ b).off + len * i.size + j]? := by simp [World.cell?, hheap]
              rw [hx, Array.getElem?_eq_getElem (by omega)]; rfl)
            (fun j hj => by
              have hx : w.cell? ⟨(ρ b).blk, (ρ b).off + len * i.size + j, none⟩ = cs[(ρ b).off + len * i.size + j]? := by simp [World.cell?, hheap]
              rw [Array.getElem?_eq_getElem (by omega)] at hx
              exact hw.frozen hb (by omega) hm4 hx)
          have hM := T.move hw (n := nid) hb (by omega) (hn nid (by simp))
          have hk2 : upd (upd h b none) nid (some k) nid = some k := by simp [upd]
          have hE := hM.wr.extend (b := nid) (k := k) hk2 hmd (c := cap') (by simpa using hcap) (xs := news) (us := us) (mdUp_spec k.mode news) h3.symm (by rw [hsize]; omega) (fun j v hv => by
            obtain ⟨u, hu, hvr⟩ := h5 j v hv
            exact ⟨u, hu, hvr.mono hM.sub hM.same⟩)
          unfold Gives
          rw [exec_append ho (by rw [h1]; exact hrun)]
          refine ⟨fun c => D c ∨ c = nid, fun c => if c = nid then ρ b else ρ c, ?_, ?_, fun c hc => hc.imp id (by rintro rfl; simp)⟩
          · have := hM.trans hE
            simp only [if_true] at this
            rw [hoff, Nat.zero_add, hlen, ← hel]
            refine cast ?_ this
            congr 1
            funext c
            simp only [updf, upd]
            split <;> rfl
          · have := VR.slice (D := fun c => D c ∨ c = nid) (ρ := fun c => if c = nid then ρ b else ρ c) nid 0 (len + m) (len + m) cap' (.inr rfl) hroom (by simp [hcap]) (fun c hc _ => by simp [hcap] at hc; omega)
            simpa using this
        · have hmdA : mdUp k.mode news = 1 ∨ (mdUp k.mode news = 3 ∧ ∀ v ∈ k.cells ++ news, clo0 v = true) := by
            rcases mdUp_spec k.mode news with h | ⟨h, hk3, hn⟩
            · exact .inl h
            · refine .inr ⟨h, fun v hv => ?_⟩
              obtain ⟨cs0, fz0, _, _, _, _, _, hh6⟩ := (hw.here b k hb).has hm4
              rcases List.mem_append.1 hv with hv | hv
              · exact hh6.2 (by rw [hk3]; decide) v hv
              · exact hn v hv
          obtain ⟨v, w', hrun, D', ρ', hT, hV, hD'⟩ := append_grows (ty := o.type) (base := some ⟨(ρ b).blk, (ρ b).off + 0, none⟩) (len := len) (cap := cap') (oldA := k.cells) (olds := olds) (md := mdUp k.mode news) (hmd := hmdA) ht hi hz hzs hsz hw (hn nid (by simp)) (by rw [o1, hlen]) o1.symm o3
            (run_firstCells_some _ _ _ _ _ _ olds (by rw [o1, hlen]) (fun j v hv => by rw [addr_add]; exact o2 j v hv)) h2 h3 (h4 w rfl) h5 (by omega) hbb.1 hbb.2.1
          unfold Gives
          rw [exec_append ho (by rw [h1]; exact hrun)]
          have hDr := T.drop hT.wr b
          refine ⟨D', ρ', ?_, hV, hD'⟩
          have := hT.trans hDr
          refine cast ?_ this
          congr 1
          funext c
          simp only [updf, upd]
          by_cases hcb : c = b
          · subst hcb; simp [Ne.symm hne]
          · simp [hcb]
      · rename_i hmd
        split at hd
        · rename_i hroom
          split at hd
          case isFalse => cases hd
          rename_i hfit
          cases hd
          have hb := hr b (by simp)
          have hm4 := (hgetC_some hk).2
          rw [(hgetC_some hk).1] at hb
          intro D ρ w a hv hw hn
          obtain ⟨v1, v2⟩ := hops D ρ a hv
          rw [hs] at v1
          obtain ⟨hD, cap', h1, h6, h7, h8⟩ := v1.slice_inv
          have hcc := h7 (hw.cap_none hb hm4 (by omega))
          subst hcc
          obtain ⟨us, h2, h3, h4, h5⟩ := srcCells_spec htx hdd hsc hsrc (fun _ => hbb.2.2) v2 hw (fun c hc => hr c (by simp [hc]))
          have hln : len * i.size + us.length = (len + m) * i.size := by rw [h2, ← Nat.add_mul]
          obtain ⟨us0, g0, g1, _⟩ := hw.cells (o := off + len * i.size) (n := us.length) hb hm4 (by omega)
          have hrun := run_append_room_src (P := P) w t tx o.type e i ht hi (ρ b).blk ((ρ b).off + off) len cap' (a.eval x) m us (h4 w rfl) hroom
            (fun j hj => by
              rw [show (ρ b).off + off + len * i.size + j = (ρ b).off + (off + len * i.size) + j by omega, g1 j us0[j] (by simp [show j < us0.length by omega])]; rfl)
            (fun j hj => by
              rw [show (ρ b).off + off + len * i.size + j = (ρ b).off + (off + len * i.size) + j by omega]
              exact hw.frozen hb (by omega) hm4 (g1 j us0[j] (by simp [show j < us0.length by omega])))
          have hT := hw.store (o := off + len * i.size) hb (by omega) hm4 (xs := news) (us := us) (fun hm3 => absurd hm3 (by omega)) h3.symm (by omega) h5
          unfold Gives
          rw [exec_append ho (by rw [h1]; exact hrun)]
          refine ⟨D, ρ, ?_, .slice b off (len + m) cap' cap' hD hroom (fun _ => rfl) h8, fun b hb => .inl hb⟩
          rw [Nat.add_assoc]
          exact hT
        · rename_i hroom
          split at hd
          case isFalse => cases hd
          rename_i hfit
          cases hd
          have hb := hr b (by simp)
          have hm4 := (hgetC_some hk).2
          rw [(hgetC_some hk).1] at hb
          intro D ρ w a hv hw hn
          obtain ⟨v1, v2⟩ := hops D ρ a hv
          rw [hs] at v1
          obtain ⟨hD, cap', h1, h6, h7, h8⟩ := v1.slice_inv
          have hcc := h7 (hw.cap_none hb hm4 (by omega))
          subst hcc
          obtain ⟨us, h2, h3, h4, h5⟩ := srcCells_spec htx hdd hsc hsrc (fun _ => hbb.2.2) v2 hw (fun c hc => hr c (by simp [hc]))
          obtain ⟨olds, o1, o2, o3⟩ := hw.cells (o := off) (n := len * i.size) hb hm4 hfit
          obtain ⟨v, w', hrun, D', ρ', hT, hV, hD'⟩ := append_grows (ty := o.type) (base := some ⟨(ρ b).blk, (ρ b).off + off, none⟩) (len := len) (cap := cap') (oldA := (k.cells.drop off).take (len * i.size)) (olds := olds) (md := mdOf ((k.cells.drop off).take (len * i.size) ++ news)) (hmd := mdOf_spec _) ht hi hz hzs hsz hw (hn nid (by simp)) o1 (by rw [o1]; simp; omega) o3
            (run_firstCells_some _ _ _ _ _ _ olds o1 (fun j v hv => by rw [addr_add]; exact o2 j v hv)) h2 h3 (h4 w rfl) h5 (by omega) hbb.1 hbb.2.1
          unfold Gives
          rw [exec_append ho (by rw [h1]; exact hrun)]
          exact ⟨D', ρ', hT, hV, hD'⟩
  · cases hd
end
end Go.Proofs.Ytkdalfdfepipiaa
