/- The engine: maps (made, an entry looked up or made, its value stored). -/
import Derived.Test.YtkdalfdfepipiaaX7
namespace Go.Proofs.Ytkdalfdfepipiaa
set_option linter.unusedSectionVars false
open Go.RowKit
set_option linter.unusedVariables false
variable [Inhabited RawG]
/-- Keys and values of entries, in turn. -/
def cellsOf : List MapEntry → List Value
  | [] => []
  | e :: r => e.key :: e.val :: cellsOf r
theorem entL_cellsOf : ∀ (es : List MapEntry) (n : Nat), (∀ (j : Nat) (e : MapEntry), es[j]? = some e → e.born = n + j) → entL (cellsOf es) n = es
  | [], n, h => rfl
  | e :: r, n, h => by
    have h0 : e.born = n + 0 := h 0 e (by simp)
    simp only [cellsOf, entL]
    rw [entL_cellsOf r (n + 1) (fun j f hf => by have := h (j + 1) f (by simpa using hf); omega)]
    congr 1
    cases e
    simp only [Nat.add_zero] at h0
    subst h0
    rfl
theorem entL_born : ∀ (cs : List Value) (n j : Nat) (e : MapEntry), (entL cs n)[j]? = some e → e.born = n + j
  | [], n, j, e, h => by simp [entL] at h
  | [_], n, j, e, h => by simp [entL] at h
  | k :: v :: r, n, 0, e, h => by simp [entL] at h; subst h; rfl
  | k :: v :: r, n, j + 1, e, h => by
    simp only [entL, List.getElem?_cons_succ] at h
    have := entL_born r (n + 1) j e h
    omega
theorem entL_flat : ∀ {cs : List Value} {n : Nat}, (∀ v ∈ cs, flat0 v = true) → ∀ e ∈ entL cs n, flat0 e.key = true ∧ flat0 e.val = true
  | [], n, h, e, he => by simp [entL] at he
  | [_], n, h, e, he => by simp [entL] at he
  | k :: v :: r, n, h, e, he => by
    simp only [entL, List.mem_cons] at he
    rcases he with rfl | he
    · exact ⟨h k (by simp), h v (by simp)⟩
    · exact entL_flat (fun u hu => h u (by simp [hu])) e he
theorem cellsOf_flat : ∀ {es : List MapEntry}, (∀ e ∈ es, flat0 e.key = true ∧ flat0 e.val = true) → ∀ v ∈ cellsOf es, flat0 v = true
  | [], h, v, hv => by simp [cellsOf] at hv
  | e :: r, h, v, hv => by
    simp only [cellsOf, List.mem_cons] at hv
    rcases hv with rfl | rfl | hv
    · exact (h e (by simp)).1
    · exact (h e (by simp)).2
    · exact cellsOf_flat (fun f hf => h f (by simp [hf])) v hv
/-- A change of the entries that leaves when each was made. -/
theorem modify_born {es : List MapEntry} {i : Nat} {f : MapEntry → MapEntry} (hf : ∀ e, (f e).born = e.born) (h : ∀ (j : Nat) (e : MapEntry), es[j]? = some e → e.born = j) : ∀ (j : Nat) (e : MapEntry), (es.modify i f)[j]? = some e → e.born = j := by
  intro j e he
  rw [List.getElem?_modify] at he
  split at he
  · obtain ⟨e0, h0, rfl⟩ := Option.map_eq_some_iff.1 he
    rw [hf]; exact h j e0 h0
  · exact h j e (by simpa using he)
theorem modify_all {es : List MapEntry} {i : Nat} {f : MapEntry → MapEntry} {p : MapEntry → Prop} (hf : ∀ e, p e → p (f e)) (h : ∀ e ∈ es, p e) : ∀ e ∈ es.modify i f, p e := by
  intro e he
  obtain ⟨j, hj⟩ := List.mem_iff_getElem?.1 he
  rw [List.getElem?_modify] at hj
  split at hj
  · obtain ⟨e0, h0, rfl⟩ := Option.map_eq_some_iff.1 hj
    exact hf e0 (h e0 (List.mem_of_getElem? h0))
  · exact h e (List.mem_of_getElem? (by simpa using hj))
theorem flat1_of {v : Value} (h : flat0 v = true) : flat1 v = true := by
  cases v <;> first | exact h | (simp [flat0, flat1] at h ⊢; simp [h])
theorem flat_of {v : Value} (h : flat0 v = true) : flat v = true := by
  cases v <;> first | exact h | (simp [flat0, flat, flat1] at h ⊢; simp [h])
theorem flatT {v u : Value} (h : flat0 v = true) (g : flat0 u = true) : flat (.tuple #[v, u]) = true := by
  simp [flat, flat1_of h, flat1_of g]
section
variable {P : Program} {D : Nat → Prop} {ρ : Nat → Pl} {h : HF} {w : World} {o : Oper} {ev : Operand → Value} {H : Heap} {d : Did}
/-- A map has turned. -/
theorem WR.mapSet (hw : WR (szP P) D ρ h w) {b : Nat} {k : ABlk} (hb : h b = some k) (hm : k.mode = 4) {es : List MapEntry} {c : Nat} (hc : c = es.length) (hborn : ∀ (j : Nat) (e : MapEntry), es[j]? = some e → e.born = j) (hf : ∀ e ∈ es, flat0 e.key = true ∧ flat0 e.val = true) :
    T (szP P) D ρ h w D ρ (upd h b (some { k with cells := cellsOf es })) { w with heap := w.heap.setIfInBounds (ρ b).blk (.map es.toArray c) } := by
  have hlt := hw.lt hb
  subst hc
  refine hw.turn hb (by omega) (k' := { k with cells := cellsOf es }) (by show k.mode ≠ 2; omega) ⟨fun h => absurd hm h, fun _ => ⟨?_, cellsOf_flat hf⟩⟩ rfl rfl rfl (by simp) (fun i hi => ?_)
  · show (w.heap.setIfInBounds (ρ b).blk _)[(ρ b).blk]? = some (.map (entL (cellsOf es) 0).toArray (entL (cellsOf es) 0).length)
    rw [entL_cellsOf es 0 (fun j e he => by rw [hborn j e he]; omega)]
    simp [hlt]
  · exact Array.getElem?_setIfInBounds_ne (Ne.symm hi)
/-- A map is made. -/
theorem WR.allocMap (hw : WR (szP P) D ρ h w) {n : Nat} (hn : ¬ D n) {t : TypeId} :
    T (szP P) D ρ h w (fun b => D b ∨ b = n) (fun b => if b = n then ⟨w.heap.size, 0, none⟩ else ρ b) (upd h n (some ⟨t, [], 4⟩)) (w.alloc (.map #[] 0)) := by
  have same : ∀ b, D b → (if b = n then (⟨w.heap.size, 0, none⟩ : Pl) else ρ b) = ρ b := fun b hb => if_neg (by rintro rfl; exact hn hb)
  have old : ∀ b k, upd h n (some ⟨t, [], 4⟩) b = some k → b ≠ n → h b = some k := by
    intro b k hb hne
    simpa [upd, hne] using hb
  have new : ∀ k, upd h n (some ⟨t, [], 4⟩) n = some k → k = ⟨t, [], 4⟩ := by
    intro k hk
    simpa [upd, eq_comm] using hk
  refine T.mk' hw (fun b hb => .inl hb) (same) (fun b k hb => ?_) (fun b k hb => ?_) (fun b c k l hb hc' hne hm => ?_) (rfl) (rfl) (rfl) (by simp) (fun k hk _ => Below.heap_alloc _ _ _ hk) (fun k ⟨b, l, hb, hm, he⟩ => ?_) (fun b k hb hm => ?_)
  · by_cases hbn : b = n
    · exact .inr hbn
    · exact .inl (hw.dom b k (old b k hb hbn))
  · by_cases hbn : b = n
    · subst hbn
      have := new k hb
      subst this
      simp only [if_true]
      exact ⟨fun hm => absurd rfl hm, fun _ => ⟨heap_alloc_new w _, fun v hv => by simp at hv⟩⟩
    · have h1 := old b k hb hbn
      simp only [if_neg hbn]
      exact ((hw.here b k h1).of_heap (Below.heap_alloc _ _ _ (hw.lt h1))).mono (fun b hb => .inl hb) same
  · by_cases hbn : b = n <;> by_cases hcn : c = n
    · omega
    · have h1 := hw.lt (old c l hc' hcn)
      simp only [hbn, hcn, if_true, if_false]
      omega
    · have h1 := hw.lt (old b k hb hbn)
      simp only [hbn, hcn, if_true, if_false]
      omega
    · simp only [if_neg hbn, if_neg hcn]
      exact hw.sep b c k l (old b k hb hbn) (old c l hc' hcn) hne hm
  · by_cases hbn : b = n
    · subst hbn
      simp only [if_true] at he
      exact .inr (by omega)
    · simp only [if_neg hbn] at he
      exact .inl ⟨b, l, old b l hb hbn, hm, he⟩
  · by_cases hbn : b = n
    · subst hbn
      rw [new k hb] at hm
      cases hm
    · exact old b k hb hbn
theorem aMakeMap_ok {t : TypeId} {n : Nat} (ho : o.op = .makeMap t none) : OpOK P o ev h ⟨.map (some n), [], [(n, some ⟨t, [], 4⟩)], [n]⟩ := by
  intro D ρ w a hv hw hn
  have hT := hw.allocMap (n := n) (hn n (by simp)) (t := t)
  have hrun : (execOp a.eval o).run P w = .ok (.value (.map (some w.heap.size))) (w.alloc (.map #[] 0)) := by
    simp [execOp, ho, Instr.makeMap, newObj, Sem.run_bind, Sem.run]
  unfold Gives
  rw [hrun]
  refine ⟨_, _, hT, ?_, fun b hb => hb.imp id (by rintro rfl; simp)⟩
  have := VR.map (D := fun b => D b ∨ b = n) (ρ := fun b => if b = n then (⟨w.heap.size, 0, none⟩ : Pl) else ρ b) n (.inr rfl)
  simpa using this
/-! an entry -/
def aMapEntry (P : Program) (ev : Operand → Value) (H : Heap) (t : TypeId) (m k : Operand) : Option Did :=
  match ev m with
  | .map (some b) => match hget H b, peval P (underlying t) with
    | some kb, some (.map kt el) =>
      if kb.mode = 4 ∧ flat0 (ev k) = true then
        match peval P (Instr.checkKey false 10000 kt (ev k)), peval P (Instr.findKey kt (ev k) (entL kb.cells 0)) with
        | some _, some (some (i, v)) => match peval P (Instr.keyThatStays ((((entL kb.cells 0)[i]?).map (·.key)).getD (ev k)) (ev k)) with
          | some key' => if flat0 key' = true ∧ flat0 v = true then some ⟨.tuple #[v, goInt ((((entL kb.cells 0)[i]?).map (·.born)).getD 0)], [b], [(b, some { kb with cells := cellsOf ((entL kb.cells 0).modify i fun e => { e with key := key' }) })], []⟩ else none
          | none => none
        | some _, some none => match peval P (zeroValue el) with
          | some z => if flat0 z = true then some ⟨.tuple #[z, goInt (entL kb.cells 0).length], [b], [(b, some { kb with cells := cellsOf (entL kb.cells 0 ++ [MapEntry.mk (ev k) z (entL kb.cells 0).length]) })], []⟩ else none
          | none => none
        | _, _ => none
      else none
    | _, _ => none
  | _ => none
theorem run_getMap {r : Nat} {es : Array MapEntry} {c : Nat} (hh : w.heap[r]? = some (.map es c)) {α : Type} (k : Obj → Sem α) : (Sem.getObj r k).run P w = (k (.map es c)).run P w := by
  simp only [Sem.run, hh]
theorem run_setMap {r : Nat} {es : Array MapEntry} {c : Nat} (hh : w.heap[r]? = some (.map es c)) {x : Obj} {α : Type} (k : Sem α) : (Sem.setObj r x k).run P w = k.run P { w with heap := w.heap.setIfInBounds r x } := by
  simp only [Sem.run, hh]
theorem aMapEntry_ok {t : TypeId} {m k : Operand} (ho : o.op = .mapEntry t m k) (hd : aMapEntry P ev H t m k = some d) (hr : ∀ b ∈ d.rd, h b = hget H b) : OpOK P o ev h d := by
  unfold aMapEntry at hd
  split at hd
  · rename_i b hx
    split at hd
    · rename_i kb kt el hk hu
      split at hd
      · rename_i hc
        obtain ⟨h4, hfk⟩ := hc
        split at hd
        · rename_i u1 i v hck hfi
          split at hd
          · rename_i key' hst
            split at hd
            · rename_i hfl
              cases hd
              have hb := hr b (by simp)
              rw [hk] at hb
              intro D ρ w a hv hw _
              have h1 := hv m (by simp [ho, Op.operands])
              rw [hx] at h1
              obtain ⟨hD, h2⟩ := h1.map_inv
              have h3 := (hv k (by simp [ho, Op.operands])).flat0_eq hfk
              obtain ⟨hh, hfc⟩ := (hw.here b kb hb).isMap h4
              have hT := hw.mapSet hb h4 (es := (entL kb.cells 0).modify i fun e => { e with key := key' }) (c := (entL kb.cells 0).length) (by simp) (modify_born (fun e => rfl) (fun j e he => by have := entL_born _ _ _ _ he; omega)) (modify_all (p := fun e => flat0 e.key = true ∧ flat0 e.val = true) (fun e he => ⟨hfl.1, he.2⟩) (entL_flat hfc))
              have hrun : (execOp a.eval o).run P w = .ok (.value (.tuple #[v, goInt ((((entL kb.cells 0)[i]?).map (·.born)).getD 0)])) { w with heap := w.heap.setIfInBounds (ρ b).blk (.map ((entL kb.cells 0).modify i fun e => { e with key := key' }).toArray (entL kb.cells 0).length) } := by
                simp [execOp, ho, h2, h3, Instr.mapEntry, Sem.run_bind, run_of_peval hu w, getObj, setObj, run_getMap hh, run_setMap hh, hh, run_of_peval hck w, run_of_peval hfi w, run_of_peval hst w, Sem.run, List.modify_toArray]
              unfold Gives
              rw [hrun]
              exact ⟨D, ρ, hT, .of_flat (flatT hfl.2 rfl), fun b hb => .inl hb⟩
            · cases hd
          · cases hd
        · rename_i u1 hck hfi
          split at hd
          · rename_i z hz
            split at hd
            · rename_i hfl
              cases hd
              have hb := hr b (by simp)
              rw [hk] at hb
              intro D ρ w a hv hw _
              have h1 := hv m (by simp [ho, Op.operands])
              rw [hx] at h1
              obtain ⟨hD, h2⟩ := h1.map_inv
              have h3 := (hv k (by simp [ho, Op.operands])).flat0_eq hfk
              obtain ⟨hh, hfc⟩ := (hw.here b kb hb).isMap h4
              have hT := hw.mapSet hb h4 (es := entL kb.cells 0 ++ [MapEntry.mk (ev k) z (entL kb.cells 0).length]) (c := (entL kb.cells 0).length + 1) (by simp) (fun j e he => by
                rcases Nat.lt_or_ge j (entL kb.cells 0).length with hj | hj
                · rw [List.getElem?_append_left hj] at he
                  have := entL_born _ _ _ _ he; omega
                · rw [List.getElem?_append_right hj] at he
                  have hj0 : j - (entL kb.cells 0).length = 0 := by
                    have := (List.getElem?_eq_some_iff.1 he).1
                    simp at this; omega
                  rw [hj0] at he
                  simp at he
                  subst he
                  simp; omega) (fun e he => by
                rcases List.mem_append.1 he with he | he
                · exact entL_flat hfc e he
                · simp at he; subst he; exact ⟨hfk, hfl⟩)
              have hrun : (execOp a.eval o).run P w = .ok (.value (.tuple #[z, goInt (entL kb.cells 0).length])) { w with heap := w.heap.setIfInBounds (ρ b).blk (.map (entL kb.cells 0 ++ [MapEntry.mk (ev k) z (entL kb.cells 0).length]).toArray ((entL kb.cells 0).length + 1)) } := by
                simp [execOp, ho, h2, h3, Instr.mapEntry, Sem.run_bind, run_of_peval hu w, getObj, setObj, run_getMap hh, run_setMap hh, hh, run_of_peval hck w, run_of_peval hfi w, run_of_peval hz w, Sem.run, List.push_toArray]
              unfold Gives
              rw [hrun]
              exact ⟨D, ρ, hT, .of_flat (flatT hfl rfl), fun b hb => .inl hb⟩
            · cases hd
          · cases hd
        · cases hd
      · cases hd
    · cases hd
  · cases hd
/-! a value put under a key -/
def aMapUpdate (P : Program) (ev : Operand → Value) (H : Heap) (t : TypeId) (m k x : Operand) : Option Did :=
  match ev m with
  | .map (some b) => match hget H b, peval P (underlying t) with
    | some kb, some (.map kt el) =>
      if kb.mode = 4 ∧ flat0 (ev k) = true ∧ flat0 (ev x) = true then
        match peval P (Instr.checkKey false 10000 kt (ev k)), peval P (Instr.findKey kt (ev k) (entL kb.cells 0)) with
        | some _, some (some (i, v)) => match peval P (Instr.keyThatStays ((((entL kb.cells 0)[i]?).map (·.key)).getD (ev k)) (ev k)) with
          | some key' => if flat0 key' = true then some ⟨undef, [b], [(b, some { kb with cells := cellsOf ((entL kb.cells 0).modify i fun e => { e with key := key', val := ev x }) })], []⟩ else none
          | none => none
        | some _, some none => some ⟨undef, [b], [(b, some { kb with cells := cellsOf (entL kb.cells 0 ++ [MapEntry.mk (ev k) (ev x) (entL kb.cells 0).length]) })], []⟩
        | _, _ => none
      else none
    | _, _ => none
  | _ => none
theorem aMapUpdate_ok {t : TypeId} {m k x : Operand} (ho : o.op = .mapUpdate t m k x) (hd : aMapUpdate P ev H t m k x = some d) (hr : ∀ b ∈ d.rd, h b = hget H b) : OpOK P o ev h d := by
  unfold aMapUpdate at hd
  split at hd
  · rename_i b hx
    split at hd
    · rename_i kb kt el hk hu
      split at hd
      · rename_i hc
        obtain ⟨h4, hfk, hfx⟩ := hc
        split at hd
        · rename_i u1 i v hck hfi
          split at hd
          · rename_i key' hst
            split at hd
            · rename_i hfl
              cases hd
              have hb := hr b (by simp)
              rw [hk] at hb
              intro D ρ w a hv hw _
              have h1 := hv m (by simp [ho, Op.operands])
              rw [hx] at h1
              obtain ⟨hD, h2⟩ := h1.map_inv
              have h3 := (hv k (by simp [ho, Op.operands])).flat0_eq hfk
              have h5 := (hv x (by simp [ho, Op.operands])).flat0_eq hfx
              obtain ⟨hh, hfc⟩ := (hw.here b kb hb).isMap h4
              have hT := hw.mapSet hb h4 (es := (entL kb.cells 0).modify i fun e => { e with key := key', val := ev x }) (c := (entL kb.cells 0).length) (by simp) (modify_born (fun e => rfl) (fun j e he => by have := entL_born _ _ _ _ he; omega)) (modify_all (p := fun e => flat0 e.key = true ∧ flat0 e.val = true) (fun e he => ⟨hfl, hfx⟩) (entL_flat hfc))
              have hrun : (execOp a.eval o).run P w = .ok .skip { w with heap := w.heap.setIfInBounds (ρ b).blk (.map ((entL kb.cells 0).modify i fun e => { e with key := key', val := ev x }).toArray (entL kb.cells 0).length) } := by
                simp [execOp, ho, h2, h3, h5, Instr.mapUpdate, Sem.run_bind, run_of_peval hu w, getObj, setObj, run_getMap hh, run_setMap hh, hh, run_of_peval hck w, run_of_peval hfi w, run_of_peval hst w, Sem.run, List.modify_toArray]
              unfold Gives
              rw [hrun]
              exact ⟨D, ρ, hT, .und, fun b hb => .inl hb⟩
            · cases hd
          · cases hd
        · rename_i u1 hck hfi
          cases hd
          have hb := hr b (by simp)
          rw [hk] at hb
          intro D ρ w a hv hw _
          have h1 := hv m (by simp [ho, Op.operands])
          rw [hx] at h1
          obtain ⟨hD, h2⟩ := h1.map_inv
          have h3 := (hv k (by simp [ho, Op.operands])).flat0_eq hfk
          have h5 := (hv x (by simp [ho, Op.operands])).flat0_eq hfx
          obtain ⟨hh, hfc⟩ := (hw.here b kb hb).isMap h4
          have hT := hw.mapSet hb h4 (es := entL kb.cells 0 ++ [MapEntry.mk (ev k) (ev x) (entL kb.cells 0).length]) (c := (entL kb.cells 0).length + 1) (by simp) (fun j e he => by
            rcases Nat.lt_or_ge j (entL kb.cells 0).length with hj | hj
            · rw [List.getElem?_append_left hj] at he
              have := entL_born _ _ _ _ he; omega
            · rw [List.getElem?_append_right hj] at he
              have hj0 : j - (entL kb.cells 0).length = 0 := by
                have := (List.getElem?_eq_some_iff.1 he).1
                simp at this; omega
              rw [hj0] at he
              simp at he
              subst he
              simp; omega) (fun e he => by
            rcases List.mem_append.1 he with he | he
            · exact entL_flat hfc e he
            · simp at he; subst he; exact ⟨hfk, hfx⟩)
          have hrun : (execOp a.eval o).run P w = .ok .skip { w with heap := w.heap.setIfInBounds (ρ b).blk (.map (entL kb.cells 0 ++ [MapEntry.mk (ev k) (ev x) (entL kb.cells 0).length]).toArray ((entL kb.cells 0).length + 1)) } := by
            simp [execOp, ho, h2, h3, h5, Instr.mapUpdate, Sem.run_bind, run_of_peval hu w, getObj, setObj, run_getMap hh, run_setMap hh, hh, run_of_peval hck w, run_of_peval hfi w, Sem.run, List.push_toArray]
          unfold Gives
          rw [hrun]
          exact ⟨D, ρ, hT, .und, fun b hb => .inl hb⟩
        · cases hd
      · cases hd
    · cases hd
  · cases hd
/-! its value -/
def aEntryStore (P : Program) (ev : Operand → Value) (H : Heap) (t : TypeId) (m s x : Operand) : Option Did :=
  match ev m with
  | .map (some b) => match hget H b, peval P (asInt (ev s)) with
    | some kb, some born =>
      if kb.mode = 4 ∧ flat0 (ev x) = true ∧ flat0 (ev s) = true then
        match (entL kb.cells 0).findIdx? (fun e => (e.born : Int) == born) with
        | some i => some ⟨undef, [b], [(b, some { kb with cells := cellsOf ((entL kb.cells 0).modify i fun e => { e with val := ev x }) })], []⟩
        | none => none
      else none
    | _, _ => none
  | _ => none
theorem aEntryStore_ok {t : TypeId} {m s x : Operand} (ho : o.op = .entryStore t m s x) (hd : aEntryStore P ev H t m s x = some d) (hr : ∀ b ∈ d.rd, h b = hget H b) : OpOK P o ev h d := by
  unfold aEntryStore at hd
  split at hd
  · rename_i b hx
    split at hd
    · rename_i kb born hk hu
      split at hd
      · rename_i hc
        obtain ⟨h4, hfx, hfs⟩ := hc
        split at hd
        · rename_i i hi
          cases hd
          have hb := hr b (by simp)
          rw [hk] at hb
          intro D ρ w a hv hw _
          have h1 := hv m (by simp [ho, Op.operands])
          rw [hx] at h1
          obtain ⟨hD, h2⟩ := h1.map_inv
          have h3 := (hv x (by simp [ho, Op.operands])).flat0_eq hfx
          have h5 := (hv s (by simp [ho, Op.operands])).flat0_eq hfs
          obtain ⟨hh, hfc⟩ := (hw.here b kb hb).isMap h4
          have hT := hw.mapSet hb h4 (es := (entL kb.cells 0).modify i fun e => { e with val := ev x }) (c := (entL kb.cells 0).length) (by simp) (modify_born (fun e => rfl) (fun j e he => by have := entL_born _ _ _ _ he; omega)) (modify_all (p := fun e => flat0 e.key = true ∧ flat0 e.val = true) (fun e he => ⟨he.1, hfx⟩) (entL_flat hfc))
          have hrun : (execOp a.eval o).run P w = .ok .skip { w with heap := w.heap.setIfInBounds (ρ b).blk (.map ((entL kb.cells 0).modify i fun e => { e with val := ev x }).toArray (entL kb.cells 0).length) } := by
            simp [execOp, ho, h2, h3, h5, Instr.entryStore, Sem.run_bind, run_of_peval hu w, getObj, setObj, run_getMap hh, run_setMap hh, hh, hi, Sem.run, List.modify_toArray]
          unfold Gives
          rw [hrun]
          exact ⟨D, ρ, hT, .und, fun b hb => .inl hb⟩
        · cases hd
      · cases hd
    · cases hd
  · cases hd
/-! a look -/
def aLookup (P : Program) (ev : Operand → Value) (H : Heap) (t : TypeId) (m k : Operand) (ok : Bool) : Option Did :=
  match ev m with
  | .map (some b) => match hget H b, peval P (underlying t) with
    | some kb, some (.map kt el) =>
      if kb.mode = 4 ∧ flat0 (ev k) = true then
        match peval P (Instr.checkKey (entL kb.cells 0).isEmpty 10000 kt (ev k)), peval P (Instr.findKey kt (ev k) (entL kb.cells 0)) with
        | some _, some (some (i, v)) => if flat0 v = true then some ⟨if ok then .tuple #[v, .bool true] else v, [b], [], []⟩ else none
        | some _, some none => match peval P (zeroValue el) with
          | some z => if flat0 z = true then some ⟨if ok then .tuple #[z, .bool false] else z, [b], [], []⟩ else none
          | none => none
        | _, _ => none
      else none
    | _, _ => none
  | _ => none
theorem aLookup_ok {t : TypeId} {m k : Operand} {ok : Bool} (ho : o.op = .lookup t m k ok) (hd : aLookup P ev H t m k ok = some d) (hr : ∀ b ∈ d.rd, h b = hget H b) : OpOK P o ev h d := by
  unfold aLookup at hd
  split at hd
  · rename_i b hx
    split at hd
    · rename_i kb kt el hk hu
      split at hd
      · rename_i hc
        obtain ⟨h4, hfk⟩ := hc
        split at hd
        · rename_i u1 i v hck hfi
          split at hd
          · rename_i hfl
            cases hd
            have hb := hr b (by simp)
            rw [hk] at hb
            refine opOK_still fun D ρ w a hv hw => ?_
            have h1 := hv m (by simp [ho, Op.operands])
            rw [hx] at h1
            obtain ⟨hD, h2⟩ := h1.map_inv
            have h3 := (hv k (by simp [ho, Op.operands])).flat0_eq hfk
            obtain ⟨hh, hfc⟩ := (hw.here b kb hb).isMap h4
            refine ⟨_, ?_, .of_flat ?_⟩
            · simp [execOp, ho, h2, h3, Instr.lookup, Sem.run_bind, run_of_peval hu w, getObj, run_getMap hh, hh, run_of_peval hck w, run_of_peval hfi w, Sem.run]
            · cases ok
              · exact flat_of hfl
              · exact flatT hfl rfl
          · cases hd
        · rename_i u1 hck hfi
          split at hd
          · rename_i z hz
            split at hd
            · rename_i hfl
              cases hd
              have hb := hr b (by simp)
              rw [hk] at hb
              refine opOK_still fun D ρ w a hv hw => ?_
              have h1 := hv m (by simp [ho, Op.operands])
              rw [hx] at h1
              obtain ⟨hD, h2⟩ := h1.map_inv
              have h3 := (hv k (by simp [ho, Op.operands])).flat0_eq hfk
              obtain ⟨hh, hfc⟩ := (hw.here b kb hb).isMap h4
              refine ⟨_, ?_, .of_flat ?_⟩
              · simp [execOp, ho, h2, h3, Instr.lookup, Sem.run_bind, run_of_peval hu w, getObj, run_getMap hh, hh, run_of_peval hck w, run_of_peval hfi w, run_of_peval hz w, Sem.run]
              · cases ok
                · exact flat_of hfl
                · exact flatT hfl rfl
            · cases hd
          · cases hd
        · cases hd
      · cases hd
    · cases hd
  · cases hd
end
end Go.Proofs.Ytkdalfdfepipiaa
