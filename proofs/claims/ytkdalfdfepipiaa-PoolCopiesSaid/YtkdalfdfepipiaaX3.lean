/-
  The engine, third part: the operations on memory.
-/
import Derived.Test.YtkdalfdfepipiaaX2
namespace Go.Proofs.Ytkdalfdfepipiaa
set_option linter.unusedSectionVars false
open Go.RowKit
set_option linter.unusedVariables false
variable [Inhabited RawG]

section
variable {P : Program} {D : Nat → Prop} {ρ : Nat → Pl} {h : HF} {w : World} {o : Oper} {ev : Operand → Value} {H : Heap} {d : Did}

theorem addr_add (b o j : Nat) : (⟨b, o, none⟩ : Addr).add j = ⟨b, o + j, none⟩ := Addr.add_mid b o j

/-! load -/
def aLoad (P : Program) (ev : Operand → Value) (H : Heap) (t : TypeId) (x : Operand) : Option Did :=
  match ev x with
  | .pointer (some ⟨b, o, none⟩) =>
    match hgetC H b, peval P (sizeOf t), peval P (isAgg t) with
    | some k, some n, some true => if o + n ≤ k.cells.length then some ⟨.agg ((k.cells.drop o).take n).toArray, [b], [], []⟩ else none
    | some k, some _, some false => match k.cells[o]? with
      | some v => some ⟨v, [b], [], []⟩
      | none => none
    | _, _, _ => none
  | _ => none

theorem aLoad_ok {t : TypeId} {x : Operand} (ho : o.op = .load t x) (hd : aLoad P ev H t x = some d) (hr : ∀ b ∈ d.rd, h b = hget H b) : OpOK P o ev h d := by
  unfold aLoad at hd
  split at hd
  · rename_i b off hx
    split at hd
    · rename_i k n hk hn ha
      split at hd
      · rename_i hl
        cases hd
        have hb := hr b (by simp)
        have hm4 := (hgetC_some hk).2
        rw [(hgetC_some hk).1] at hb
        refine opOK_still fun D ρ w a hv hw => ?_
        have h1 := hv x (by simp [ho, Op.operands])
        rw [hx] at h1
        obtain ⟨hD, h2⟩ := h1.ptr_inv
        obtain ⟨us, hul, hur, huv⟩ := hw.cells hb hm4 hl
        have hlc := run_loadCells_list (P := P) w ⟨(ρ b).blk, (ρ b).off + off, none⟩ us (fun j v hv => by rw [addr_add]; exact hur j v hv)
        rw [hul] at hlc
        refine ⟨.agg us.toArray, ?_, .agg _ _ ?_ fun i => ?_⟩
        · simp [execOp, ho, h2, Instr.loadAt, Instr.sureAddr, loadVar, Sem.run_bind, run_of_peval ha w, run_of_peval hn w, hlc]
        · simp [hul]; omega
        · by_cases hi : i < n
          · have h3 : i < ((k.cells.drop off).take n).length := by simp; omega
            obtain ⟨u, hu, hvr⟩ := huv i _ (List.getElem?_eq_getElem h3)
            obtain ⟨hi', rfl⟩ := List.getElem?_eq_some_iff.1 hu
            simp only [Array.getD, List.size_toArray, h3, hi', dite_true, Array.getInternal_eq_getElem, List.getElem_toArray]
            exact hvr
          · have h3 : ¬ i < ((k.cells.drop off).take n).length := by simp; omega
            have h4 : ¬ i < us.length := by omega
            simp only [Array.getD, List.size_toArray, h3, h4, dite_false]
            exact .und
      · cases hd
    · rename_i k n hk hn ha
      split at hd
      · rename_i v hv0
        cases hd
        have hb := hr b (by simp)
        have hm4 := (hgetC_some hk).2
        rw [(hgetC_some hk).1] at hb
        refine opOK_still fun D ρ w a hv hw => ?_
        have h1 := hv x (by simp [ho, Op.operands])
        rw [hx] at h1
        obtain ⟨hD, h2⟩ := h1.ptr_inv
        obtain ⟨cs, fz, h3, h4, _⟩ := (hw.here b k hb).has hm4
        obtain ⟨u, hu, hvr⟩ := h4 off v hv0
        refine ⟨u, ?_, hvr⟩
        have hc : w.cell? ⟨(ρ b).blk, (ρ b).off + off, none⟩ = some u := by simp [World.cell?, h3, hu]
        simp [execOp, ho, h2, Instr.loadAt, Instr.sureAddr, loadVar, Sem.run_bind, run_of_peval ha w, load, Sem.run, hc]
      · cases hd
    · cases hd
  · cases hd

/-- A load from a slice that came in. -/
theorem loadQ_agg {t : TypeId} {x : Operand} (ho : o.op = .load t x) {b off n : Nat} (hx : ev x = .pointer (some ⟨b, off, some 2⟩)) (hn : peval P (sizeOf t) = some n) (ha : peval P (isAgg t) = some true) (hpos : 0 < (rg.cells b).length) (hl : off + n ≤ (rg.cells b).length) :
    OpOK P o ev h ⟨.agg (((rg.cells b).drop off).take n).toArray, [], [], []⟩ := by
  refine opOK_still fun D ρ w a hv hw => ?_
  have h1 := hv x (by simp [ho, Op.operands])
  rw [hx] at h1
  obtain ⟨q, hq, h2⟩ := h1.opp_inv
  obtain ⟨us, hul, hur, huv⟩ := hw.raw.row (D := D) hq hpos hl
  have hlc := run_loadCells_list (P := P) w ⟨q.block, q.off + off, none⟩ us (fun j v hv => by rw [addr_add]; exact hur j v hv)
  rw [hul] at hlc
  refine ⟨.agg us.toArray, ?_, .agg _ _ ?_ fun i => ?_⟩
  · simp [execOp, ho, h2, Instr.loadAt, Instr.sureAddr, loadVar, Sem.run_bind, run_of_peval ha w, run_of_peval hn w, hlc]
  · simp [hul]; omega
  · by_cases hi : i < n
    · have h3 : i < (((rg.cells b).drop off).take n).length := by simp; omega
      obtain ⟨u, hu, hvr⟩ := huv i _ (List.getElem?_eq_getElem h3)
      obtain ⟨hi', rfl⟩ := List.getElem?_eq_some_iff.1 hu
      simp only [Array.getD, List.size_toArray, h3, hi', dite_true, Array.getInternal_eq_getElem, List.getElem_toArray]
      exact hvr
    · have h3 : ¬ i < (((rg.cells b).drop off).take n).length := by simp; omega
      have h4 : ¬ i < us.length := by omega
      simp only [Array.getD, List.size_toArray, h3, h4, dite_false]
      exact .und
theorem loadQ_one {t : TypeId} {x : Operand} (ho : o.op = .load t x) {b off : Nat} {v : Value} (hx : ev x = .pointer (some ⟨b, off, some 2⟩)) (ha : peval P (isAgg t) = some false) (hv0 : (rg.cells b)[off]? = some v) : OpOK P o ev h ⟨v, [], [], []⟩ := by
  refine opOK_still fun D ρ w a hv hw => ?_
  have h1 := hv x (by simp [ho, Op.operands])
  rw [hx] at h1
  obtain ⟨q, hq, h2⟩ := h1.opp_inv
  obtain ⟨_, _, h0⟩ := hw.raw.at' b
  obtain ⟨q', e, hs, cs, el, fz, h3, h4⟩ := h0 (fun e => by rw [e] at hv0; cases hv0)
  rw [hq] at e
  cases e
  obtain ⟨u, hu, hvr⟩ := h4 off v hv0
  refine ⟨u, ?_, hvr.mono (fun _ hb => hb.elim) (fun _ hb => hb.elim)⟩
  have hc : w.cell? ⟨q.block, q.off + off, none⟩ = some u := by simp [World.cell?, h3, hu]
  simp [execOp, ho, h2, Instr.loadAt, Instr.sureAddr, loadVar, Sem.run_bind, run_of_peval ha w, load, Sem.run, hc]

/-! store -/
def aStore (P : Program) (ev : Operand → Value) (H : Heap) (t : TypeId) (x y : Operand) : Option Did :=
  match ev x with
  | .pointer (some ⟨b, o, none⟩) =>
    match hgetC H b, peval P (sizeOf t) with
    | some k, some n =>
      let vs := (ev y).cells.toList
      if k.mode ≠ 2 ∧ vs.length = n ∧ o + vs.length ≤ k.cells.length ∧ vs.all (·.oneCell') = true ∧ (k.mode ≠ 3 ∨ vs.all clo0 = true) then some ⟨undef, [b], [(b, some { k with cells := splice k.cells o vs })], []⟩ else none
    | _, _ => none
  | _ => none
theorem aStore_ok {t : TypeId} {x y : Operand} (ho : o.op = .store t x y) (hd : aStore P ev H t x y = some d) (hr : ∀ b ∈ d.rd, h b = hget H b) : OpOK P o ev h d := by
  unfold aStore at hd
  split at hd
  · rename_i b off hx
    split at hd
    · rename_i k n hk hn
      dsimp only at hd
      split at hd
      · rename_i hc
        obtain ⟨hm, hln, hl, h1c, hfl⟩ := hc
        cases hd
        have hb := hr b (by simp)
        have hm4 := (hgetC_some hk).2
        rw [(hgetC_some hk).1] at hb
        intro D ρ w a hv hw _
        have h1 := hv x (by simp [ho, Op.operands])
        rw [hx] at h1
        obtain ⟨hD, h2⟩ := h1.ptr_inv
        have h3 := hv y (by simp [ho, Op.operands])
        obtain ⟨hs, hg⟩ := h3.cells
        have hT := hw.store (o := off) hb hm hm4 (xs := (ev y).cells.toList) (us := (a.eval y).cells.toList) (fun hm3 v hv => List.all_eq_true.1 (hfl.resolve_left (fun hn => hn hm3)) v hv) (by simpa using hs) hl (fun i v hv => by
          simp only [Array.getElem?_toList] at hv ⊢
          exact VR.get? hs hg hv)
        obtain ⟨us0, hu0, hu1, _⟩ := hw.cells (o := off) (n := (ev y).cells.toList.length) hb hm4 hl
        have hst := run_storeCells_cells (P := P) (ρ b).blk ((ρ b).off + off) (a.eval y).cells.toList 0 w
          (fun j hj => by
            have hj' : j < us0.length := by rw [hu0]; simp at hj ⊢; omega
            rw [Nat.add_zero, hu1 j us0[j] (by simp [hj'])]; rfl)
          (fun j hj => by
            have hj' : j < us0.length := by rw [hu0]; simp at hj ⊢; omega
            rw [Nat.add_zero]; exact hw.frozen hb hm hm4 (hu1 j us0[j] (by simp [hj'])))
          (fun v hv => by
            obtain ⟨i, hi⟩ := List.mem_iff_getElem?.1 hv
            simp only [Array.getElem?_toList] at hi
            have hi1 : i < (ev y).cells.size := by have := (Array.getElem?_eq_some_iff.1 hi).1; omega
            obtain ⟨u, hu, hvr⟩ := VR.get? hs hg (Array.getElem?_eq_getElem hi1)
            rw [hi] at hu
            cases hu
            exact hvr.one (List.all_eq_true.1 h1c _ (Array.mem_toList_iff.2 (Array.getElem_mem hi1))))
        rw [Nat.add_zero] at hst
        unfold Gives
        have : (execOp a.eval o).run P w = .ok .skip (w.setCells (ρ b).blk ((ρ b).off + off) (a.eval y).cells.toList) := by
          have hne : (a.eval y).cells.size = n := by rw [← hs, ← Array.length_toList]; exact hln
          simp [execOp, ho, h2, Instr.storeAt, Instr.sureAddr, storeVar, Sem.run_bind, run_of_peval hn w, hne, hst]
        rw [this]
        exact ⟨D, ρ, hT, .und, fun b hb => .inl hb⟩
      · cases hd
    · cases hd
  · cases hd

/-! new variables -/
theorem opOK_new {t : TypeId} {v : Value} {n : Nat} (H : ∀ (D : Nat → Prop) (ρ : Nat → Pl) (w : World) (a : Act), (∀ x ∈ o.op.operands, VR D ρ (ev x) (a.eval x)) → ∃ u, VR D ρ v u ∧ (execOp a.eval o).run P w = .ok (.value (.pointer (some ⟨w.heap.size, 0, none⟩))) (w.alloc (.cells u.cells t))) :
    OpOK P o ev h ⟨.pointer (some ⟨n, 0, none⟩), [], [(n, some ⟨t, v.cells.toList, 0⟩)], [n]⟩ := by
  intro D ρ w a hv hw hn
  obtain ⟨u, hu, hr⟩ := H D ρ w a hv
  obtain ⟨hs, hg⟩ := hu.cells
  have hT := hw.alloc (n := n) (hn n (by simp)) (xs := v.cells.toList) (cs := u.cells) (t := t) (by simpa using hs) (fun i v hv => by
    simp only [Array.getElem?_toList] at hv
    exact VR.get? hs hg hv)
  unfold Gives
  rw [hr]
  refine ⟨_, _, hT, ?_, fun b hb => hb.imp id (by rintro rfl; simp)⟩
  have := VR.ptr (D := fun b => D b ∨ b = n) (ρ := fun b => if b = n then (⟨w.heap.size, 0, none⟩ : Pl) else ρ b) n 0 (.inr rfl)
  simpa using this
def aAlloc (P : Program) (t : TypeId) (n : Nat) : Option Did :=
  match peval P (zeroValue t) with
  | some z => if flat1 z then some ⟨.pointer (some ⟨n, 0, none⟩), [], [(n, some ⟨t, z.cells.toList, 0⟩)], [n]⟩ else none
  | none => none
theorem aAlloc_ok {t : TypeId} {n : Nat} (ho : o.op = .alloc t) (hd : aAlloc P t n = some d) : OpOK P o ev h d := by
  unfold aAlloc at hd
  split at hd
  · rename_i z hz
    split at hd
    · rename_i hf
      cases hd
      refine opOK_new fun D ρ w a _ => ⟨z, .of_flat1 hf, ?_⟩
      simp [execOp, ho, Instr.alloc, Sem.run_bind, run_of_peval hz w, newVar, newRow, newObj, Sem.run]
    · cases hd
  · cases hd
def aBox (ev : Operand → Value) (t : TypeId) (x : Operand) (n : Nat) : Option Did := some ⟨.pointer (some ⟨n, 0, none⟩), [], [(n, some ⟨t, (ev x).cells.toList, 0⟩)], [n]⟩
theorem aBox_ok {t : TypeId} {x : Operand} {n : Nat} (ho : o.op = .box t x) (hd : aBox ev t x n = some d) : OpOK P o ev h d := by
  cases hd
  refine opOK_new fun D ρ w a hv => ⟨a.eval x, hv x (by simp [ho, Op.operands]), ?_⟩
  simp [execOp, ho, Instr.box, Sem.run_bind, newVar, newRow, newObj, Sem.run]

/-! values handed on -/
theorem aMove_ok {x : Operand} {rd : List Nat} (ho : o.op = .move x ∨ o.op = .assign x) : OpOK P o ev h ⟨ev x, rd, [], []⟩ := by
  refine opOK_still fun D ρ w a hv hw => ⟨a.eval x, ?_, hv x (by rcases ho with ho | ho <;> simp [ho, Op.operands])⟩
  rcases ho with ho | ho <;> simp [execOp, ho, pure, Sem.run]
def aPick (ev : Operand → Value) (c x y : Operand) : Option Did :=
  match ev c with
  | .bool b => some ⟨if b then ev x else ev y, [], [], []⟩
  | _ => none
theorem aPick_ok {c x y : Operand} (ho : o.op = .pick c x y) (hd : aPick ev c x y = some d) : OpOK P o ev h d := by
  unfold aPick at hd
  split at hd
  · rename_i b hc
    cases hd
    refine opOK_still fun D ρ w a hv hw => ?_
    have h1 := hv c (by simp [ho, Op.operands])
    rw [hc] at h1
    have h2 := h1.bool_inv
    refine ⟨if b then a.eval x else a.eval y, ?_, ?_⟩
    · simp [execOp, ho, h2, asBool, Sem.run_bind]
    · cases b
      · exact hv y (by simp [ho, Op.operands])
      · exact hv x (by simp [ho, Op.operands])
  · cases hd
def aNilCheck (ev : Operand → Value) (x : Operand) : Option Did :=
  match ev x with
  | .pointer (some a) => some ⟨.pointer (some a), [], [], []⟩
  | .func (.func g) f c => some ⟨.func (.func g) f c, [], [], []⟩
  | _ => none
theorem aNilCheck_ok {x : Operand} (ho : o.op = .nilCheck x) (hd : aNilCheck ev x = some d) : OpOK P o ev h d := by
  unfold aNilCheck at hd
  split at hd
  · rename_i b hc
    cases hd
    refine opOK_still fun D ρ w a hv hw => ?_
    have h1 := hv x (by simp [ho, Op.operands])
    rw [hc] at h1
    refine ⟨a.eval x, ?_, h1⟩
    generalize hu : a.eval x = u at h1
    cases h1 with
    | scal _ hs => simp [flat0] at hs
    | ptr => simp [execOp, ho, hu]
    | opp => simp [execOp, ho, hu]
  · rename_i g f c hc
    cases hd
    refine opOK_still fun D ρ w a hv hw => ?_
    have h1 := hv x (by simp [ho, Op.operands])
    rw [hc] at h1
    refine ⟨a.eval x, ?_, h1⟩
    obtain ⟨f', c', h2, _⟩ := h1.func_inv
    rw [h2]
    simp [execOp, ho, h2]
  · cases hd
end
end Go.Proofs.Ytkdalfdfepipiaa
