/-
  The engine, fifth part: slices of slices, append.
-/
import Derived.Test.YtkdalfdfepipiaaX4
namespace Go.Proofs.Ytkdalfdfepipiaa
set_option linter.unusedSectionVars false
open Go.RowKit
set_option linter.unusedVariables false
variable [Inhabited RawG]

section
variable {P : Program} {D : Nat → Prop} {ρ : Nat → Pl} {h : HF} {w : World} {o : Oper} {ev : Operand → Value} {H : Heap} {d : Did}

/-! slice expressions -/
def bnd (ev : Operand → Value) (x : Option Operand) (dflt top : Nat) : Option Nat :=
  match x with
  | none => some dflt
  | some x => match ev x with
    | .int _ i => if 0 ≤ i ∧ i ≤ top then some i.toNat else none
    | _ => none
def BoundV (v : Option Value) (dflt top r : Nat) : Prop := (v = none ∧ r = dflt) ∨ ∃ k i, v = some (.int k i) ∧ 0 ≤ i ∧ i ≤ (top : Int) ∧ r = i.toNat
theorem bnd_spec {x : Option Operand} {dflt top r : Nat} {a : Act} (hb : bnd ev x dflt top = some r) (hv : ∀ y, x = some y → VR D ρ (ev y) (a.eval y)) {dflt' top' : Nat} (h1 : x = none → dflt' = dflt) (h2 : top ≤ top') : BoundV (x.map a.eval) dflt' top' r := by
  unfold bnd at hb
  split at hb
  · cases hb; exact .inl ⟨rfl, (h1 rfl).symm⟩
  · rename_i y
    split at hb
    · rename_i k i hi
      split at hb
      · rename_i hc
        cases hb
        have h3 := hv y rfl
        rw [hi] at h3
        exact .inr ⟨k, i, by simp [h3.int_inv], hc.1, by omega, rfl⟩
      · cases hb
    · cases hb
theorem bnd_le {x : Option Operand} {dflt top r : Nat} (hb : bnd ev x dflt top = some r) (hd : x = none → dflt ≤ top) : r ≤ top := by
  unfold bnd at hb
  split at hb
  · cases hb; exact hd rfl
  · split at hb
    · split at hb
      · cases hb; omega
      · cases hb
    · cases hb
theorem run_sliceBound {k : IntKind} {i : Int} {y : Nat} {c : BoundsCode} (hi : 0 ≤ i ∧ i ≤ (y : Int)) (w : World) : (Instr.sliceBound (.int k i) y c).run P w = .ok i.toNat w := by
  simp [Instr.sliceBound, asIntOf, Sem.run_bind, hi]
theorem run_sliceBounds {isS : Bool} {len cap l hh m : Nat} {lo hi mx : Option Value} (hm : BoundV mx cap cap m) (hmh : mx.isSome = true → hi.isSome = true) (hh' : BoundV hi len m hh) (hl : BoundV lo 0 hh l) (w : World) :
    (Instr.sliceBounds isS len cap lo hi mx).run P w = .ok (l, hh, m) w := by
  rcases hm with ⟨rfl, rfl⟩ | ⟨k1, i1, rfl, a1, b1, rfl⟩ <;> rcases hh' with ⟨rfl, rfl⟩ | ⟨k2, i2, rfl, a2, b2, rfl⟩ <;> rcases hl with ⟨rfl, rfl⟩ | ⟨k3, i3, rfl, a3, b3, rfl⟩ <;>
    (try (simp at hmh; done)) <;>
    (try have r1 := fun c => run_sliceBound (P := P) (k := k1) (c := c) ⟨a1, b1⟩ w) <;> (try have r2 := fun c => run_sliceBound (P := P) (k := k2) (c := c) ⟨a2, b2⟩ w) <;> (try have r3 := fun c => run_sliceBound (P := P) (k := k3) (c := c) ⟨a3, b3⟩ w) <;>
    first
    | simp [Instr.sliceBounds, Sem.run_bind, r1, r2, r3]
    | simp [Instr.sliceBounds, Sem.run_bind, r1, r2]
    | simp [Instr.sliceBounds, Sem.run_bind, r2, r3]
    | simp [Instr.sliceBounds, Sem.run_bind, r2]
    | simp [Instr.sliceBounds, Sem.run_bind, r3]
    | simp [Instr.sliceBounds, Sem.run_bind]

def aSlice (P : Program) (ev : Operand → Value) (H : Heap) (t : TypeId) (x : Operand) (lo hi mx : Option Operand) : Option Did :=
  match P.underlying t, ev x with
  | some (.slice e), .slice (some ⟨b, off, none⟩) len cap =>
    match hgetC H b, peval P (sizeOf e) with
    | some k, some n =>
      if 0 < n ∧ len ≤ cap then
        if mx.isSome then
          if hi.isSome then
            (bnd ev mx 0 len).bind fun m => (bnd ev hi 0 m).bind fun hh => (bnd ev lo 0 hh).bind fun l =>
              if m = l then some ⟨.slice (some ⟨b, off, some 1⟩) 0 0, [b], [], []⟩
              else if k.mode % 2 = 0 then some ⟨.slice (some ⟨b, off + l * n, none⟩) (hh - l) (m - l), [b], [], []⟩ else none
          else none
        else if k.mode % 2 = 0 then
          (bnd ev hi len cap).bind fun hh => (bnd ev lo 0 hh).bind fun l => some ⟨.slice (some ⟨b, if cap = l then off else off + l * n, none⟩) (hh - l) (cap - l), [b], [], []⟩
        else
          (bnd ev hi len len).bind fun hh => (bnd ev lo 0 hh).bind fun l =>
            if l = 0 then some ⟨.slice (some ⟨b, off, none⟩) hh hh, [b], [], []⟩
            else if l < hh then some ⟨.slice (some ⟨b, off + l * n, none⟩) (hh - l) (hh - l), [b], [], []⟩
            else some ⟨.slice (some ⟨b, off, some 0⟩) 0 0, [b], [], []⟩
      else none
    | _, _ => none
  | some (.array cap e), .pointer (some ⟨b, off, none⟩) =>
    match hgetC H b, peval P (sizeOf e) with
    | some k, some n =>
      if mx.isSome = false ∧ k.mode % 2 = 0 then
        (bnd ev hi cap cap).bind fun hh => (bnd ev lo 0 hh).bind fun l => some ⟨.slice (some ⟨b, if cap = l then off else off + l * n, none⟩) (hh - l) (cap - l), [b], [], []⟩
      else none
    | _, _ => none
  | _, _ => none

theorem WR.cap_none (hw : WR (szP P) D ρ h w) {b : Nat} {k : ABlk} (hb : h b = some k) (hm4 : k.mode ≠ 4) (hm : k.mode % 2 = 0) : (ρ b).cap = none := by
  obtain ⟨cs, fz, h1, h2, h3, h4, h5, h6⟩ := (hw.here b k hb).has hm4
  have h61 := h6.1
  have h7 : k.mode = 0 ∨ k.mode = 2 := by clear h1 h2 h3 h4 h5 h6; omega
  rcases h7 with hm0 | hm0
  · exact (h3 hm0).2.2.1
  · exact h5 hm0
theorem WR.cap_some (hw : WR (szP P) D ρ h w) {b : Nat} {k : ABlk} (hb : h b = some k) (hm : k.mode % 2 = 1) : (ρ b).off = 0 ∧ ∃ c cs fz, (ρ b).cap = some c ∧ w.heap[(ρ b).blk]? = some (.cells cs k.elem fz) ∧ cs.size = c * szP P k.elem ∧ k.cells.length ≤ cs.size := by
  obtain ⟨cs, fz, h1, h2, h3, h4, h5, h6⟩ := (hw.here b k hb).has (by omega)
  obtain ⟨a, _, c, hc, hs, hl⟩ := h4 hm
  exact ⟨a, c, cs, fz, hc, h1, hs, hl⟩

theorem aSlice_ok {t : TypeId} {x : Operand} {lo hi mx : Option Operand} (ho : o.op = .slice t x lo hi mx) (hd : aSlice P ev H t x lo hi mx = some d) (hr : ∀ b ∈ d.rd, h b = hget H b) : OpOK P o ev h d := by
  have ops : ∀ (D : Nat → Prop) (ρ : Nat → Pl) (a : Act), (∀ x ∈ o.op.operands, VR D ρ (ev x) (a.eval x)) → VR D ρ (ev x) (a.eval x) ∧ (∀ y, lo = some y → VR D ρ (ev y) (a.eval y)) ∧ (∀ y, hi = some y → VR D ρ (ev y) (a.eval y)) ∧ (∀ y, mx = some y → VR D ρ (ev y) (a.eval y)) :=
    fun D ρ a hv => ⟨hv x (by simp [ho, Op.operands]), fun y hy => hv y (by simp [ho, Op.operands, hy]), fun y hy => hv y (by simp [ho, Op.operands, hy]), fun y hy => hv y (by simp [ho, Op.operands, hy])⟩
  unfold aSlice at hd
  split at hd
  · rename_i e b off len cap hu hx
    split at hd
    · rename_i k n hk hn
      split at hd
      · rename_i hnl
        obtain ⟨hn0, hlc⟩ := hnl
        have run : ∀ (a : Act) (w : World) (ρ : Nat → Pl) (cap' l hh m : Nat), a.eval x = .slice (some ⟨(ρ b).blk, (ρ b).off + off, none⟩) len cap' → BoundV (mx.map a.eval) cap' cap' m → (mx.isSome = true → hi.isSome = true) → BoundV (hi.map a.eval) len m hh → BoundV (lo.map a.eval) 0 hh l →
            (execOp a.eval o).run P w = .ok (.value (.slice (some (if m = l then ⟨(ρ b).blk, (ρ b).off + off, none⟩ else ⟨(ρ b).blk, (ρ b).off + off + l * n, none⟩)) (hh - l) (m - l))) w := by
          intro a w ρ cap' l hh m he h1 h2 h3 h4
          have hb := run_sliceBounds (P := P) (isS := true) (len := len) (cap := cap') h1 (by simpa using h2) h3 h4 w
          simp [execOp, ho, he, Instr.sliceAt, Instr.slice, Sem.run_bind, run_underlying hu w, hb, run_of_peval hn w, addr_add]
          split <;> rfl
        split at hd
        · rename_i hmx
          split at hd
          · rename_i hhi
            obtain ⟨m, hm, hd⟩ := Option.bind_eq_some_iff.1 hd
            obtain ⟨hh, hhh, hd⟩ := Option.bind_eq_some_iff.1 hd
            obtain ⟨l, hl, hd⟩ := Option.bind_eq_some_iff.1 hd
            have lm := bnd_le hm (fun e => by rw [e] at hmx; cases hmx)
            have lh := bnd_le hhh (fun e => by rw [e] at hhi; cases hhi)
            have ll := bnd_le hl (fun _ => Nat.zero_le _)
            split at hd
            · rename_i hml
              cases hd
              have hb := hr b (by simp)
              have hm4 := (hgetC_some hk).2
              rw [(hgetC_some hk).1] at hb
              refine opOK_still fun D ρ w a hv hw => ?_
              obtain ⟨v1, v2, v3, v4⟩ := ops D ρ a hv
              rw [hx] at v1
              obtain ⟨hD, cap', h2, h3, h4, h5⟩ := v1.slice_inv
              refine ⟨_, run a w ρ cap' l hh m h2 (bnd_spec hm v4 (fun e => by rw [e] at hmx; cases hmx) h3) (fun _ => hhi) (bnd_spec hhh v3 (fun e => by rw [e] at hhi; cases hhi) (Nat.le_refl _)) (bnd_spec hl v2 (fun _ => rfl) (Nat.le_refl _)), ?_⟩
              rw [show hh - l = 0 by omega, show m - l = 0 by omega]
              exact .none0 _ _ _
            · rename_i hml
              split at hd
              · rename_i hmd
                cases hd
                have hb := hr b (by simp)
                have hm4 := (hgetC_some hk).2
                rw [(hgetC_some hk).1] at hb
                refine opOK_still fun D ρ w a hv hw => ?_
                obtain ⟨v1, v2, v3, v4⟩ := ops D ρ a hv
                rw [hx] at v1
                obtain ⟨hD, cap', h2, h3, h4, h5⟩ := v1.slice_inv
                refine ⟨_, run a w ρ cap' l hh m h2 (bnd_spec hm v4 (fun e => by rw [e] at hmx; cases hmx) h3) (fun _ => hhi) (bnd_spec hhh v3 (fun e => by rw [e] at hhi; cases hhi) (Nat.le_refl _)) (bnd_spec hl v2 (fun _ => rfl) (Nat.le_refl _)), ?_⟩
                rw [if_neg hml, Nat.add_assoc]
                exact .slice b _ _ _ _ hD (by omega) (fun _ => rfl) (fun c hc => by rw [hw.cap_none hb hm4 hmd] at hc; cases hc)
              · cases hd
          · cases hd
        · rename_i hmx
          have hmx' : mx = none := by cases mx <;> simp_all
          subst hmx'
          split at hd
          · rename_i hmd
            obtain ⟨hh, hhh, hd⟩ := Option.bind_eq_some_iff.1 hd
            obtain ⟨l, hl, hd⟩ := Option.bind_eq_some_iff.1 hd
            have lh := bnd_le hhh (fun _ => hlc)
            have ll := bnd_le hl (fun _ => Nat.zero_le _)
            cases hd
            have hb := hr b (by simp)
            have hm4 := (hgetC_some hk).2
            rw [(hgetC_some hk).1] at hb
            refine opOK_still fun D ρ w a hv hw => ?_
            obtain ⟨v1, v2, v3, v4⟩ := ops D ρ a hv
            rw [hx] at v1
            obtain ⟨hD, cap', h2, h3, h4, h5⟩ := v1.slice_inv
            have hcc := h4 (hw.cap_none hb hm4 hmd)
            subst hcc
            refine ⟨_, run a w ρ cap' l hh cap' h2 (.inl ⟨rfl, rfl⟩) (fun e => by cases e) (bnd_spec hhh v3 (fun _ => rfl) (Nat.le_refl _)) (bnd_spec hl v2 (fun _ => rfl) (Nat.le_refl _)), ?_⟩
            have := VR.slice (D := D) (ρ := ρ) b (if cap' = l then off else off + l * n) (hh - l) (cap' - l) (cap' - l) hD (by omega) (fun _ => rfl) (fun c hc => by rw [hw.cap_none hb hm4 hmd] at hc; cases hc)
            split at this
            · rename_i e; rw [if_pos e]; rw [if_pos e]; exact this
            · rename_i e; rw [if_neg e]; rw [if_neg e, Nat.add_assoc]; exact this
          · rename_i hmd
            have hmd' : k.mode % 2 = 1 := by omega
            obtain ⟨hh, hhh, hd⟩ := Option.bind_eq_some_iff.1 hd
            obtain ⟨l, hl, hd⟩ := Option.bind_eq_some_iff.1 hd
            have lh := bnd_le hhh (fun _ => Nat.le_refl _)
            have ll := bnd_le hl (fun _ => Nat.zero_le _)
            have fin : ∀ (v : Value), d = ⟨v, [b], [], []⟩ → (∀ (D : Nat → Prop) (ρ : Nat → Pl) (cap' : Nat), D b → len ≤ cap' → (∀ c, (ρ b).cap = some c → off = 0 → cap' = c) → (ρ b).cap ≠ none → VR D ρ v (.slice (some (if cap' = l then ⟨(ρ b).blk, (ρ b).off + off, none⟩ else ⟨(ρ b).blk, (ρ b).off + off + l * n, none⟩)) (hh - l) (cap' - l))) → OpOK P o ev h d := by
              rintro v rfl hV
              have hb := hr b (by simp)
              have hm4 := (hgetC_some hk).2
              rw [(hgetC_some hk).1] at hb
              refine opOK_still fun D ρ w a hv hw => ?_
              obtain ⟨v1, v2, v3, v4⟩ := ops D ρ a hv
              rw [hx] at v1
              obtain ⟨hD, cap', h2, h3, h4, h5⟩ := v1.slice_inv
              refine ⟨_, run a w ρ cap' l hh cap' h2 (.inl ⟨rfl, rfl⟩) (fun e => by cases e) (bnd_spec hhh v3 (fun _ => rfl) h3) (bnd_spec hl v2 (fun _ => rfl) (Nat.le_refl _)), hV D ρ cap' hD h3 h5 ?_⟩
              obtain ⟨_, c, cs, _, hc, _⟩ := hw.cap_some hb hmd'
              rw [hc]; simp
            split at hd
            · rename_i hl0
              subst hl0
              cases hd
              refine fin _ rfl fun D ρ cap' hD h3 h5 hne => ?_
              rw [show (if cap' = 0 then (⟨(ρ b).blk, (ρ b).off + off, none⟩ : Addr) else ⟨(ρ b).blk, (ρ b).off + off + 0 * n, none⟩) = ⟨(ρ b).blk, (ρ b).off + off, none⟩ by split <;> simp]
              exact .slice b off hh hh cap' hD (by omega) (fun e => absurd e hne) h5
            · rename_i hl0
              split at hd
              · rename_i hlh
                cases hd
                refine fin _ rfl fun D ρ cap' hD h3 h5 hne => ?_
                rw [if_neg (by omega), Nat.add_assoc]
                refine .slice b (off + l * n) _ _ _ hD (by omega) (fun e => absurd e hne) fun c hc h0 => ?_
                have : 0 < l * n := Nat.mul_pos (by omega) hn0
                omega
              · cases hd
                refine fin _ rfl fun D ρ cap' hD h3 h5 hne => ?_
                rw [show hh - l = 0 by omega]
                exact .hollow _ _ _ _ _
      · cases hd
    · cases hd
  · rename_i cap e b off hu hx
    split at hd
    · rename_i k n hk hn
      split at hd
      · rename_i hc
        obtain ⟨hmx, hmd⟩ := hc
        have hmx' : mx = none := by cases mx <;> simp_all
        subst hmx'
        obtain ⟨hh, hhh, hd⟩ := Option.bind_eq_some_iff.1 hd
        obtain ⟨l, hl, hd⟩ := Option.bind_eq_some_iff.1 hd
        have lh := bnd_le hhh (fun _ => Nat.le_refl _)
        have ll := bnd_le hl (fun _ => Nat.zero_le _)
        cases hd
        have hb := hr b (by simp)
        have hm4 := (hgetC_some hk).2
        rw [(hgetC_some hk).1] at hb
        refine opOK_still fun D ρ w a hv hw => ?_
        obtain ⟨v1, v2, v3, v4⟩ := ops D ρ a hv
        rw [hx] at v1
        obtain ⟨hD, h2⟩ := v1.ptr_inv
        have hbd := run_sliceBounds (P := P) (isS := false) (len := cap) (cap := cap) (mx := none) (.inl ⟨rfl, rfl⟩) (fun e => by cases e) (bnd_spec hhh v3 (fun _ => rfl) (Nat.le_refl _)) (bnd_spec hl v2 (fun _ => rfl) (Nat.le_refl _)) w
        refine ⟨.slice (some (if cap = l then ⟨(ρ b).blk, (ρ b).off + off, none⟩ else ⟨(ρ b).blk, (ρ b).off + off + l * n, none⟩)) (hh - l) (cap - l), ?_, ?_⟩
        · simp [execOp, ho, h2, Instr.sliceAt, Instr.sureAddr, Sem.run_bind, run_underlying hu w, hbd, run_of_peval hn w, addr_add]
        · have := VR.slice (D := D) (ρ := ρ) b (if cap = l then off else off + l * n) (hh - l) (cap - l) (cap - l) hD (by omega) (fun _ => rfl) (fun c hc => by rw [hw.cap_none hb hm4 hmd] at hc; cases hc)
          split at this
          · rename_i e; rw [if_pos e]; rw [if_pos e]; exact this
          · rename_i e; rw [if_neg e]; rw [if_neg e, Nat.add_assoc]; exact this
      · cases hd
    · cases hd
  · cases hd
end
end Go.Proofs.Ytkdalfdfepipiaa
