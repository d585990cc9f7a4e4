/-
  The engine, seventh part: values that are built, slices that are made.
-/
import Derived.Test.YtkdalfdfepipiaaX6
import Derived.IntWalk
namespace Go.Proofs.Ytkdalfdfepipiaa
set_option linter.unusedSectionVars false
open Go.RowKit
set_option linter.unusedVariables false
variable [Inhabited RawG]

section
variable {P : Program} {D : Nat → Prop} {ρ : Nat → Pl} {h : HF} {w w' : World} {o : Oper} {ev : Operand → Value} {H : Heap} {d : Did}

theorem set_vr {c1 c2 : Array Value} {v u : Value} (hs : c1.size = c2.size) (hc : ∀ i, VR D ρ (c1.getD i undef) (c2.getD i undef)) (hv : VR D ρ v u) (n : Nat) :
    (c1.setIfInBounds n v).size = (c2.setIfInBounds n u).size ∧ ∀ i, VR D ρ ((c1.setIfInBounds n v).getD i undef) ((c2.setIfInBounds n u).getD i undef) := by
  refine ⟨by simp [hs], fun i => ?_⟩
  have hh := hc i
  by_cases hi : i < c1.size
  · simp only [Array.getD, Array.size_setIfInBounds, hi, hs ▸ hi, dite_true, Array.getInternal_eq_getElem, Array.getElem_setIfInBounds] at hh ⊢
    split
    · exact hv
    · exact hh
  · simp only [Array.getD, Array.size_setIfInBounds, hi, show ¬ i < c2.size by omega, dite_false]
    exact .und
theorem puts_vr (off : Nat) : ∀ (l1 l2 : List Value) (k : Nat) (c1 c2 : Array Value), l1.length = l2.length → (∀ j, VR D ρ (l1.getD j undef) (l2.getD j undef)) → c1.size = c2.size → (∀ i, VR D ρ (c1.getD i undef) (c2.getD i undef)) →
    ((l1.zipIdx k).foldl (fun cs x => cs.setIfInBounds (off + x.2) x.1) c1).size = ((l2.zipIdx k).foldl (fun cs x => cs.setIfInBounds (off + x.2) x.1) c2).size ∧
    ∀ i, VR D ρ (((l1.zipIdx k).foldl (fun cs x => cs.setIfInBounds (off + x.2) x.1) c1).getD i undef) (((l2.zipIdx k).foldl (fun cs x => cs.setIfInBounds (off + x.2) x.1) c2).getD i undef)
  | [], [], _, _, _, _, _, hs, hc => ⟨hs, hc⟩
  | v :: l1, u :: l2, k, c1, c2, hl, hv, hs, hc => by
    have h0 := hv 0
    simp only [List.getD_cons_zero] at h0
    obtain ⟨g1, g2⟩ := set_vr hs hc h0 (off + k)
    simp only [List.zipIdx_cons, List.foldl_cons]
    exact puts_vr off l1 l2 (k + 1) _ _ (by simpa using hl) (fun j => by simpa using hv (j + 1)) g1 g2
  | [], _ :: _, _, _, _, hl, _, _, _ => by simp at hl
  | _ :: _, [], _, _, _, hl, _, _, _ => by simp at hl
theorem fill_vr (place : Nat → Option (Nat × Nat)) {f g : Operand → Value} : ∀ (l : List (Nat × Operand)) (c1 c2 r1 : Array Value), (∀ p ∈ l, VR D ρ (f p.2) (g p.2)) → c1.size = c2.size → (∀ i, VR D ρ (c1.getD i undef) (c2.getD i undef)) →
    Instr.fill place c1 (l.map fun p => (p.1, f p.2)) = some r1 → ∃ r2, Instr.fill place c2 (l.map fun p => (p.1, g p.2)) = some r2 ∧ r1.size = r2.size ∧ ∀ i, VR D ρ (r1.getD i undef) (r2.getD i undef)
  | [], c1, c2, r1, _, hs, hc, hf => by
    simp only [List.map_nil, Instr.fill, Option.some.injEq] at hf ⊢
    subst hf
    exact ⟨c2, rfl, hs, hc⟩
  | (i, x) :: l, c1, c2, r1, hv, hs, hc, hf => by
    simp only [List.map_cons, Instr.fill] at hf ⊢
    cases hp : place i with
    | none => simp [hp] at hf
    | some q =>
      obtain ⟨off, size⟩ := q
      simp only [hp] at hf ⊢
      obtain ⟨h1, h2⟩ := (hv (i, x) (by simp)).cells
      simp only at h1 h2
      split at hf
      · cases hf
      · rename_i hcond
        rw [← h1, ← hs, if_neg hcond]
        have hz := puts_vr (D := D) (ρ := ρ) off (f x).cells.toList (g x).cells.toList 0 c1 c2 (by simpa using h1) (fun j => by
          have := h2 j
          simpa [Array.getD_eq_getD_getElem?, List.getD_eq_getElem?_getD] using this) hs hc
        simp only [← Array.foldl_toList, Array.toList_zipIdx] at hf ⊢
        exact fill_vr place l _ _ r1 (fun p hp => hv p (by simp [hp])) hz.1 hz.2 hf

def aBuild (P : Program) (ev : Operand → Value) (t : TypeId) (parts : Array (Nat × Operand)) : Option Did :=
  match peval P (zeroValue t), P.underlying t with
  | some z, some (.struct fs) => match peval P (fs.mapM fun f => do pure (f.offset, ← sizeOf f.type)) with
    | some places => if flat1 z then match Instr.fill (places[·]?) z.cells (parts.toList.map fun p => (p.1, ev p.2)) with
      | some cells => some ⟨.agg cells, [], [], []⟩
      | none => none
      else none
    | none => none
  | some z, some (.array _ e) => match peval P (sizeOf e) with
    | some n => if flat1 z then match Instr.fill (fun i => some (i * n, n)) z.cells (parts.toList.map fun p => (p.1, ev p.2)) with
      | some cells => some ⟨.agg cells, [], [], []⟩
      | none => none
      else none
    | none => none
  | _, _ => none
theorem parts_toList (parts : Array (Nat × Operand)) (f : Operand → Value) : (parts.map fun x => match x with | (i, x) => (i, f x)).toList = parts.toList.map fun p => (p.1, f p.2) := by simp
theorem aBuild_ok {t : TypeId} {parts : Array (Nat × Operand)} (ho : o.op = .build t parts) (hd : aBuild P ev t parts = some d) : OpOK P o ev h d := by
  have hops : ∀ (D : Nat → Prop) (ρ : Nat → Pl) (a : Act), (∀ x ∈ o.op.operands, VR D ρ (ev x) (a.eval x)) → ∀ p ∈ parts.toList, VR D ρ (ev p.2) (a.eval p.2) :=
    fun D ρ a hv p hp => hv p.2 (by simp only [ho, Op.operands, List.mem_toArray, List.mem_map]; exact ⟨p, hp, rfl⟩)
  unfold aBuild at hd
  split at hd
  · rename_i z fs hz hu
    split at hd
    case h_2 => cases hd
    rename_i places hp
    split at hd
    case isFalse => cases hd
    rename_i hf
    split at hd
    case h_2 => cases hd
    rename_i cells hc
    cases hd
    refine opOK_still fun D ρ w a hv hw => ?_
    obtain ⟨r2, h1, h2, h3⟩ := fill_vr (D := D) (ρ := ρ) (places[·]?) parts.toList z.cells z.cells cells (hops D ρ a hv) rfl (fun i => (VR.of_flat1 hf).cells.2 i) hc
    refine ⟨.agg r2, ?_, .agg _ _ h2 h3⟩
    have hp' : (fs.mapM fun f => Prod.mk f.offset <$> sizeOf f.type).run P w = .ok places w := run_of_peval hp w
    simp [execOp, ho, Instr.build, Sem.run_bind, run_of_peval hz w, run_underlying hu w, hp', h1]
  · rename_i z n0 e hz hu
    split at hd
    case h_2 => cases hd
    rename_i n hn
    split at hd
    case isFalse => cases hd
    rename_i hf
    split at hd
    case h_2 => cases hd
    rename_i cells hc
    cases hd
    refine opOK_still fun D ρ w a hv hw => ?_
    obtain ⟨r2, h1, h2, h3⟩ := fill_vr (D := D) (ρ := ρ) (fun i => some (i * n, n)) parts.toList z.cells z.cells cells (hops D ρ a hv) rfl (fun i => (VR.of_flat1 hf).cells.2 i) hc
    refine ⟨.agg r2, ?_, .agg _ _ h2 h3⟩
    simp [execOp, ho, Instr.build, Sem.run_bind, run_of_peval hz w, run_underlying hu w, run_of_peval hn w, h1]
  · cases hd

/-! new rows -/
theorem opOK_row {e : TypeId} {cells : Array Value} {len cap n : Nat} (hlc : len ≤ cap)
    (H : ∀ (D : Nat → Prop) (ρ : Nat → Pl) (w : World) (a : Act), (∀ x ∈ o.op.operands, VR D ρ (ev x) (a.eval x)) → ∃ cs : Array Value, cells.size = cs.size ∧ (∀ i, VR D ρ (cells.getD i undef) (cs.getD i undef)) ∧ (execOp a.eval o).run P w = .ok (.value (.slice (some ⟨w.heap.size, 0, none⟩) len cap)) (w.alloc (.cells cs e))) :
    OpOK P o ev h ⟨.slice (some ⟨n, 0, none⟩) len cap, [], [(n, some ⟨e, cells.toList, 0⟩)], [n]⟩ := by
  intro D ρ w a hv hw hn
  obtain ⟨cs, hs, hg, hr⟩ := H D ρ w a hv
  have hT := hw.alloc (n := n) (hn n (by simp)) (xs := cells.toList) (cs := cs) (t := e) (by simpa using hs) (fun i v hv => by
    simp only [Array.getElem?_toList] at hv
    exact VR.get? hs hg hv)
  unfold Gives
  rw [hr]
  refine ⟨_, _, hT, ?_, fun b hb => hb.imp id (by rintro rfl; simp)⟩
  have := VR.slice (D := fun b => D b ∨ b = n) (ρ := fun b => if b = n then (⟨w.heap.size, 0, none⟩ : Pl) else ρ b) n 0 len cap cap (.inr rfl) hlc (fun _ => rfl) (by simp)
  simpa using this
def rowZero (n : Nat) (zero : Array Value) : Array Value := (Array.range n).map (zero[· % zero.size]!)
theorem rowZero_vr {n : Nat} {z : Value} (hf : flat1 z = true) (i : Nat) : VR D ρ ((rowZero n z.cells).getD i undef) ((rowZero n z.cells).getD i undef) := by
  have hall : ∀ j : Nat, VR D ρ (z.cells[j]!) (z.cells[j]!) := by
    intro j
    have := (VR.of_flat1 (D := D) (ρ := ρ) hf).cells.2 j
    by_cases hj : j < z.cells.size
    · simp only [Array.getD, hj, dite_true, Array.getInternal_eq_getElem] at this
      simpa [hj] using this
    · simp only [hj, not_false_eq_true, getElem!_neg]
      exact .scal _ rfl
  unfold rowZero
  by_cases hi : i < n
  · simp only [Array.getD, Array.size_map, Array.size_range, hi, dite_true, Array.getInternal_eq_getElem, Array.getElem_map, Array.getElem_range]
    exact hall _
  · simp only [Array.getD, Array.size_map, Array.size_range, hi, dite_false]
    exact .und
def aBuildSlice (P : Program) (ev : Operand → Value) (t : TypeId) (len : Nat) (parts : Array (Nat × Operand)) (nid : Nat) : Option Did :=
  match P.underlying t with
  | some (.slice e) => match peval P (sizeOf e), peval P (zeroValue e) with
    | some n, some z => if len * n ≤ 2 ^ 24 ∧ 0 < len * n ∧ flat1 z = true then match Instr.fill (fun i => some (i * n, n)) (rowZero (len * n) z.cells) (parts.toList.map fun p => (p.1, ev p.2)) with
      | some cells => some ⟨.slice (some ⟨nid, 0, none⟩) len len, [], [(nid, some ⟨e, cells.toList, 0⟩)], [nid]⟩
      | none => none
      else if len * n = 0 ∧ parts.size = 0 then some ⟨.slice (some ⟨nid, 0, none⟩) len len, [], [(nid, some ⟨e, [], 0⟩)], [nid]⟩ else none
    | _, _ => none
  | _ => none
theorem aBuildSlice_ok {t : TypeId} {len : Nat} {parts : Array (Nat × Operand)} {nid : Nat} (ho : o.op = .buildSlice t len parts) (hd : aBuildSlice P ev t len parts nid = some d) : OpOK P o ev h d := by
  have hops : ∀ (D : Nat → Prop) (ρ : Nat → Pl) (a : Act), (∀ x ∈ o.op.operands, VR D ρ (ev x) (a.eval x)) → ∀ p ∈ parts.toList, VR D ρ (ev p.2) (a.eval p.2) :=
    fun D ρ a hv p hp => hv p.2 (by simp only [ho, Op.operands, List.mem_toArray, List.mem_map]; exact ⟨p, hp, rfl⟩)
  unfold aBuildSlice at hd
  split at hd
  case h_2 => cases hd
  rename_i e hu
  split at hd
  case h_2 => cases hd
  rename_i n z hn hz
  split at hd
  · rename_i hc
    obtain ⟨hl, hpos, hf⟩ := hc
    split at hd
    case h_2 => cases hd
    rename_i cells hcells
    cases hd
    refine opOK_row (Nat.le_refl _) fun D ρ w a hv => ?_
    obtain ⟨r2, h1, h2, h3⟩ := fill_vr (D := D) (ρ := ρ) (fun i => some (i * n, n)) parts.toList _ _ cells (hops D ρ a hv) rfl (fun i => rowZero_vr hf i) hcells
    refine ⟨r2, h2, h3, ?_⟩
    have hne : len * n ≠ 0 := by omega
    have hle : ¬ (2 ^ 24 < len * n) := by omega
    have h1' : Instr.fill (fun i => some (i * n, n)) ((Array.range (len * n)).map fun x => z.cells[x % z.cells.size]!) (parts.toList.map fun p => (p.1, a.eval p.2)) = some r2 := h1
    simp only [execOp, ho, Instr.buildSlice, bind_pure_comp, Sem.run_map, Sem.run_bind, run_underlying hu w, run_of_peval hn w, run_of_peval hz w, Result.andThen_ok]
    rw [if_neg hle]
    simp [Sem.run_bind, run_of_peval hz w, hne, h1', newRow, newObj, Sem.run]
  · split at hd
    case isFalse => cases hd
    rename_i hc
    cases hd
    refine opOK_row (cells := #[]) (Nat.le_refl _) fun D ρ w a hv => ⟨#[], rfl, fun i => .und, ?_⟩
    have hp : parts = #[] := Array.eq_empty_of_size_eq_zero hc.2
    subst hp
    simp [execOp, ho, Instr.buildSlice, Sem.run_bind, run_underlying hu w, run_of_peval hn w, hc.1, Instr.fill, newRow, newObj, Sem.run, show Array.range 0 = #[] from rfl]

def aMakeSlice (P : Program) (ev : Operand → Value) (t : TypeId) (l c : Operand) (nid : Nat) : Option Did :=
  match P.underlying t, ev l, ev c with
  | some (.slice e), .int _ ln, .int _ cn => match P.info? e with
    | some i => match i.zero with
      | some z => if 0 ≤ ln ∧ ln ≤ cn ∧ cn ≤ 9223372036854775807 ∧ (i.bytes : Int) * cn ≤ 281474976710656 ∧ flat1 z = true then
          some ⟨.slice (some ⟨nid, 0, none⟩) ln.toNat cn.toNat, [], [(nid, some ⟨e, (if cn.toNat * i.size = 0 then #[] else rowZero (cn.toNat * i.size) z.cells).toList, 0⟩)], [nid]⟩ else none
      | none => none
    | none => none
  | _, _, _ => none
theorem aMakeSlice_ok {t : TypeId} {l c : Operand} {nid : Nat} (ho : o.op = .makeSlice t l c) (hd : aMakeSlice P ev t l c nid = some d) : OpOK P o ev h d := by
  unfold aMakeSlice at hd
  split at hd
  case h_2 => cases hd
  rename_i e k1 ln k2 cn hu hl hc
  split at hd
  case h_2 => cases hd
  rename_i i hi
  split at hd
  case h_2 => cases hd
  rename_i z hz
  split at hd
  case isFalse => cases hd
  rename_i hcond
  obtain ⟨c1, c2, c3, c4, c5⟩ := hcond
  cases hd
  refine opOK_row (by omega) fun D ρ w a hv => ⟨_, rfl, fun j => ?_, ?_⟩
  · split
    · exact .und
    · exact rowZero_vr c5 j
  · have h1 := hv l (by simp [ho, Op.operands])
    have h2 := hv c (by simp [ho, Op.operands])
    rw [hl] at h1
    rw [hc] at h2
    have e1 := h1.int_inv
    have e2 := h2.int_inv
    have w1 : IntKind.i64.wrap ln = ln := IntWalk.i64_in _ (by omega)
    have w2 : IntKind.i64.wrap cn = cn := IntWalk.i64_in _ (by omega)
    have t1 : ¬ (cn < 0) := by omega
    have t2 : ¬ (281474976710656 < (i.bytes : Int) * cn) := by omega
    have t3 : ¬ (ln < 0) := by omega
    have t4 : ¬ (cn < ln) := by omega
    by_cases hzero : cn.toNat * i.size = 0
    · simp [execOp, ho, e1, e2, Instr.makeSlice, asInt, asIntOf, Sem.run_bind, run_underlying hu w, typeInfo, sizeOf, hi, w1, w2, t1, t2, t3, t4, askRoom, hzero, newRow, newObj, Sem.run, show Array.range 0 = #[] from rfl]
      try (split <;> simp [Sem.run_bind, Sem.run, mark, hzero, newRow, newObj, hi, typeInfo])
    · simp [execOp, ho, e1, e2, Instr.makeSlice, asInt, asIntOf, Sem.run_bind, run_underlying hu w, typeInfo, sizeOf, zeroValue, hi, hz, w1, w2, t1, t2, t3, t4, askRoom, hzero, newRow, newObj, Sem.run, rowZero]
      try (split <;> simp [Sem.run_bind, Sem.run, mark, hzero, newRow, newObj, hi, hz, typeInfo])

/-! clear -/
def aClear (P : Program) (ev : Operand → Value) (H : Heap) (t : TypeId) (x : Operand) : Option Did :=
  match P.underlying t, ev x with
  | some (.slice _), .slice (some _) 0 _ => some ⟨.tuple #[], [], [], []⟩
  | some (.slice e), .slice (some ⟨b, off, none⟩) n _ => match hgetC H b, peval P (zeroValue e) with
    | some k, some z =>
      let vs := (rowZero (n * z.cells.size) z.cells).toList
      if k.mode ≠ 2 ∧ off + vs.length ≤ k.cells.length ∧ vs.all (·.oneCell') = true ∧ flat1 z = true ∧ (k.mode ≠ 3 ∨ vs.all clo0 = true) then some ⟨.tuple #[], [b], [(b, some { k with cells := splice k.cells off vs })], []⟩ else none
    | _, _ => none
  | _, _ => none
theorem aClear_ok {t : TypeId} {x : Operand} (ho : o.op = .call { callee := .builtin .clear, args := #[x], argTypes := #[t] }) (hd : aClear P ev H t x = some d) (hr : ∀ b ∈ d.rd, h b = hget H b) : OpOK P o ev h d := by
  have hops : ∀ (D : Nat → Prop) (ρ : Nat → Pl) (a : Act), (∀ x ∈ o.op.operands, VR D ρ (ev x) (a.eval x)) → VR D ρ (ev x) (a.eval x) := fun D ρ a hv => hv x (by simp [ho, Op.operands, Call.operands])
  unfold aClear at hd
  split at hd
  · rename_i e a0 c hu hx
    cases hd
    refine opOK_still fun D ρ w a hv hw => ?_
    have v1 := hops D ρ a hv
    rw [hx] at v1
    obtain ⟨a', cap', h2⟩ := v1.len_inv
    refine ⟨.tuple #[], ?_, .scal _ rfl⟩
    cases a' <;> simp [execOp, ho, resolve, invoke, builtin, Builtin.clear_, h2, Sem.run_bind, run_underlying hu w]
  · rename_i e b off n c hnz hu hx
    split at hd
    case h_2 => cases hd
    rename_i k z hk hz
    dsimp only at hd
    split at hd
    case isFalse => cases hd
    rename_i hc
    obtain ⟨hm, hl, h1c, hf, hfl⟩ := hc
    cases hd
    have hb := hr b (by simp)
    have hm4 := (hgetC_some hk).2
    rw [(hgetC_some hk).1] at hb
    intro D ρ w a hv hw _
    have v1 := hops D ρ a hv
    rw [hx] at v1
    obtain ⟨hD, cap', h2, _⟩ := v1.slice_inv
    have hT := hw.store (o := off) hb hm hm4 (xs := (rowZero (n * z.cells.size) z.cells).toList) (us := (rowZero (n * z.cells.size) z.cells).toList) (fun hm3 v hv => List.all_eq_true.1 (hfl.resolve_left (fun hn => hn hm3)) v hv) rfl hl (fun i v hv => by
      simp only [Array.getElem?_toList] at hv ⊢
      exact VR.get? rfl (fun i => rowZero_vr hf i) hv)
    obtain ⟨us0, hu0, hu1, _⟩ := hw.cells (o := off) (n := (rowZero (n * z.cells.size) z.cells).toList.length) hb hm4 hl
    have hst := run_storeCells_cells (P := P) (ρ b).blk ((ρ b).off + off) (rowZero (n * z.cells.size) z.cells).toList 0 w
      (fun j hj => by
        have hj' : j < us0.length := by rw [hu0]; exact hj
        rw [Nat.add_zero, hu1 j us0[j] (by simp [hj'])]; rfl)
      (fun j hj => by
        have hj' : j < us0.length := by rw [hu0]; exact hj
        rw [Nat.add_zero]; exact hw.frozen hb hm hm4 (hu1 j us0[j] (by simp [hj'])))
      (fun v hv => List.all_eq_true.1 h1c v hv)
    rw [Nat.add_zero] at hst
    have hst' : (storeCells ⟨(ρ b).blk, (ρ b).off + off, none⟩ (Builtin.zeroCells z.cells n).toList).run P w = .ok () (w.setCells (ρ b).blk ((ρ b).off + off) (rowZero (n * z.cells.size) z.cells).toList) := hst
    unfold Gives
    have hn0 : n ≠ 0 := hnz
    have : (execOp a.eval o).run P w = .ok (.value (.tuple #[])) (w.setCells (ρ b).blk ((ρ b).off + off) (rowZero (n * z.cells.size) z.cells).toList) := by
      cases n with
      | zero => exact absurd rfl hn0
      | succ m => simp [execOp, ho, resolve, invoke, builtin, Builtin.clear_, h2, Sem.run_bind, run_underlying hu w, run_of_peval hz w, hst']
    rw [this]
    exact ⟨D, ρ, hT, .scal _ rfl, fun b hb => .inl hb⟩
  · cases hd

/-! texts and bytes -/
theorem freeze_new (w : World) (cs : Array Value) (e n : Nat) : (w.alloc (.cells cs e)).freeze ⟨w.heap.size, n, none⟩ 1 = w.alloc (.cells cs e (n, n + 1)) := by
  have h : ((w.alloc (.cells cs e)).freeze ⟨w.heap.size, n, none⟩ 1).heap = (w.alloc (.cells cs e (n, n + 1))).heap := by
    apply Array.ext_getElem?
    intro i
    simp only [World.freeze, World.alloc, Nat.one_ne_zero, if_false, Array.getElem?_modify, Array.getElem?_push]
    by_cases hi : i = w.heap.size
    · simp [hi]
    · simp [hi, Ne.symm hi]
  have h2 : ((w.alloc (.cells cs e)).freeze ⟨w.heap.size, n, none⟩ 1) = { w with heap := ((w.alloc (.cells cs e)).freeze ⟨w.heap.size, n, none⟩ 1).heap } := rfl
  rw [h2, h]
  rfl
def bytesLoop (cs : Array Value) : Sem Value := do
  let mut s := ByteArray.empty
  for c in cs do
    let .int .u8 n := c | stuck "bytesToString: byte expected"
    s := s.push (UInt8.ofNat n.toNat)
  pure (.string s)
def aConvert (P : Program) (ev : Operand → Value) (H : Heap) (src dst : TypeId) (x : Operand) (nid : Nat) : Option Did :=
  match P.underlying src, P.underlying dst, ev x with
  | some .string, some (.slice e), .string s => match P.underlying e, peval P (sizeOf e) with
    | some (.int .u8), some 1 => some ⟨.slice (some ⟨nid, 0, none⟩) s.size s.size, [], [(nid, some ⟨e, byteCells s, 3⟩)], [nid]⟩
    | _, _ => none
  | some (.slice e), some .string, .slice (some ⟨b, off, none⟩) n _ => match P.underlying e, hgetC H b with
    | some (.int .u8), some k =>
      if off + n ≤ k.cells.length ∧ ((k.cells.drop off).take n).all flat0 = true then
        match peval P (bytesLoop ((k.cells.drop off).take n).toArray) with
        | some (.string s) => some ⟨.string s, [b], [], []⟩
        | _ => none
      else none
    | _, _ => none
  | _, _, _ => none
theorem aConvert_ok {src dst : TypeId} {x : Operand} {nid : Nat} (ho : o.op = .convert src dst x) (hd : aConvert P ev H src dst x nid = some d) (hr : ∀ b ∈ d.rd, h b = hget H b) : OpOK P o ev h d := by
  have hops : ∀ (D : Nat → Prop) (ρ : Nat → Pl) (a : Act), (∀ x ∈ o.op.operands, VR D ρ (ev x) (a.eval x)) → VR D ρ (ev x) (a.eval x) := fun D ρ a hv => hv x (by simp [ho, Op.operands])
  unfold aConvert at hd
  split at hd
  · rename_i e s hu1 hu2 hx
    split at hd
    case h_2 => cases hd
    rename_i hue hsz
    cases hd
    intro D ρ w a hv hw hn
    have v1 := hops D ρ a hv
    rw [hx] at v1
    have h1 := v1.flat0_eq rfl
    have hsize : szP P e = 1 := by
      have := run_of_peval hsz w
      cases hi : P.info? e with
      | none => simp [sizeOf, typeInfo, hi, Sem.run_bind] at this
      | some i => simp [sizeOf, typeInfo, hi, Sem.run_bind] at this; simp [szP, hi, this]
    have hge := grownCap_ge w s.size 0 e
    have hT := (hw.heap (w' := w.drew) rfl).growF (n := nid) (hn nid (by simp)) (md := 3) (xs := byteCells s) (.inr ⟨rfl, fun v hv => by obtain ⟨b, _, rfl⟩ := List.mem_map.1 hv; rfl⟩) (cs := (s.data.map fun b => Value.int .u8 b.toNat) ++ Array.replicate (grownCap w s.size 0 e - s.size) (.int .u8 0)) (t := e) (c := grownCap w s.size 0 e) (fz := (grownCap w s.size 0 e, grownCap w s.size 0 e + 1))
      (by simp [hsize]; have : s.data.size = s.size := rfl; omega) (by simp [byteCells_length]; try (have : s.data.size = s.size := rfl; omega)) (.inl (by simp; have : s.data.size = s.size := rfl; omega)) (fun i v hv => by
        simp only [byteCells, List.getElem?_map, Option.map_eq_some_iff] at hv
        obtain ⟨b, hb, rfl⟩ := hv
        refine ⟨.int .u8 b.toNat, ?_, .scal _ rfl⟩
        rw [Array.getElem?_append_left (by simp; have := (List.getElem?_eq_some_iff.1 hb).1; simpa using this)]
        simp only [Array.getElem?_map]
        rw [← Array.getElem?_toList, hb]; try rfl)
    unfold Gives
    have hrun : (execOp a.eval o).run P w = .ok (.value (.slice (some ⟨w.heap.size, 0, none⟩) s.size (grownCap w s.size 0 e))) (w.drew.alloc (.cells ((s.data.map fun b => Value.int .u8 b.toNat) ++ Array.replicate (grownCap w s.size 0 e - s.size) (.int .u8 0)) e (grownCap w s.size 0 e, grownCap w s.size 0 e + 1))) := by
      have hcap : (Question.appendCap s.size 0 e).cut (w.tape w.drawn (.appendCap s.size 0 e)) = grownCap w s.size 0 e := rfl
      have hfr : (w.drew.alloc (.cells ((s.data.map fun b => Value.int .u8 b.toNat) ++ Array.replicate (grownCap w s.size 0 e - s.size) (.int .u8 0)) e)).freeze ⟨w.heap.size, grownCap w s.size 0 e, none⟩ 1 = w.drew.alloc (.cells ((s.data.map fun b => Value.int .u8 b.toNat) ++ Array.replicate (grownCap w s.size 0 e - s.size) (.int .u8 0)) e (grownCap w s.size 0 e, grownCap w s.size 0 e + 1)) := by
        exact freeze_new w.drew _ _ _
      have hsz2 : ((s.data.map fun b => Value.int .u8 b.toNat) ++ Array.replicate (grownCap w s.size 0 e - s.size) (Value.int .u8 0)).size = grownCap w s.size 0 e := by
        simp; have : s.data.size = s.size := rfl; omega
      have hshape : (w.drew.alloc (.cells ((s.data.map fun b => Value.int .u8 b.toNat) ++ Array.replicate (grownCap w s.size 0 e - s.size) (.int .u8 0)) e)).shape? w.heap.size = some (e, grownCap w s.size 0 e) := by
        have := heap_alloc_new w.drew (.cells ((s.data.map fun b => Value.int .u8 b.toNat) ++ Array.replicate (grownCap w s.size 0 e - s.size) (.int .u8 0)) e)
        simp only [World.size_drew] at this
        simp only [World.shape?, this, hsz2]
      simp only [execOp, ho, h1, convert, bind_pure_comp, Sem.run_map, Sem.run_bind, run_underlying hu1 w, run_underlying hu2 w, run_underlying hue w, Result.andThen_ok, Conv.stringToBytes, choose, Sem.run, Question.forced, hcap, newRow, newObj, markStringish, shape, freeze, World.alloc_eq, World.drew_eq, World.size_drew, hshape, hfr, Bool.false_eq_true, if_false]
    rw [hrun]
    refine ⟨_, _, (T.drew hw).trans hT, ?_, fun b hb => hb.imp id (by rintro rfl; simp)⟩
    have := VR.slice (D := fun b => D b ∨ b = nid) (ρ := fun b => if b = nid then (⟨w.drew.heap.size, 0, some (grownCap w s.size 0 e)⟩ : Pl) else ρ b) nid 0 s.size s.size (grownCap w s.size 0 e) (.inr rfl) hge (by simp) (fun c hc _ => by simpa using hc)
    simpa using this
  · rename_i e b off n c hu1 hu2 hx
    split at hd
    case h_2 => cases hd
    rename_i k hue hk
    split at hd
    case isFalse => cases hd
    rename_i hc
    obtain ⟨hl, hall⟩ := hc
    split at hd
    case h_2 => cases hd
    rename_i s hs
    cases hd
    have hb := hr b (by simp)
    have hm4 := (hgetC_some hk).2
    rw [(hgetC_some hk).1] at hb
    refine opOK_still fun D ρ w a hv hw => ⟨.string s, ?_, .scal _ rfl⟩
    have v1 := hops D ρ a hv
    rw [hx] at v1
    obtain ⟨hD, cap', h2, _⟩ := v1.slice_inv
    obtain ⟨us, hul, hur, huv⟩ := hw.cells hb hm4 hl
    have hus : us = (k.cells.drop off).take n := by
      apply List.ext_getElem?
      intro i
      by_cases hi : i < n
      · have h3 : i < ((k.cells.drop off).take n).length := by simp; omega
        obtain ⟨u, hu, hvr⟩ := huv i _ (List.getElem?_eq_getElem h3)
        rw [hu, List.getElem?_eq_getElem h3, hvr.flat0_eq (List.all_eq_true.1 hall _ (List.getElem_mem h3))]
      · rw [List.getElem?_eq_none (by omega), List.getElem?_eq_none (by simp; omega)]
    have hlc := run_loadCells_list (P := P) w ⟨(ρ b).blk, (ρ b).off + off, none⟩ us (fun j v hv => by rw [addr_add]; exact hur j v hv)
    rw [hul, hus] at hlc
    have hbl := run_of_peval hs w
    have hconv : Conv.bytesToString (.slice (some ⟨(ρ b).blk, (ρ b).off + off, none⟩) n cap') = (do bytesLoop (← loadCells ⟨(ρ b).blk, (ρ b).off + off, none⟩ n)) := rfl
    simp only [execOp, ho, h2, convert, bind_pure_comp, Sem.run_map, Sem.run_bind, run_underlying hu1 w, run_underlying hu2 w, run_underlying hue w, Result.andThen_ok, hconv, hlc, hbl]
  · cases hd
end
end Go.Proofs.Ytkdalfdfepipiaa
