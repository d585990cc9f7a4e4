/-
  The engine, tenth part: a region, in whatever order.
-/
import Derived.Test.YtkdalfdfepipiaaX9
import Derived.LoopN
namespace Go.Proofs.Ytkdalfdfepipiaa
set_option linter.unusedSectionVars false
open Go.RowKit
set_option linter.unusedVariables false
variable [Inhabited RawG]

def evF (fr : List Value) : Operand → Value
  | .tmp t => fr.getD t undef
  | .const v => v
  | .global g => undef
  | .func f => .func (.func f) #[] #[]
def okX : Operand → Bool
  | .const v => flat v
  | .global _ => false
  | _ => true
def setF (fr : List Value) (dst : Option Tmp) (v : Value) : List Value :=
  match dst with
  | some d => fr.set d v
  | none => fr
def yieldedA (ops : Array Oper) (fr : List Value) (j : Nat) : Option Bool :=
  match ((ops[j]?).bind (·.dst)).bind (fr[·]?) with
  | some (.bool b) => some b
  | _ => none

/-- A slot of which nothing is known. -/
def topV : Value := .chan (some 0)
def isTop : Value → Bool
  | .chan (some _) => true
  | _ => false
/-- Is nothing known of the slot that the guard looks at? -/
def topAt (ops : Array Oper) (fr : List Value) (j : Nat) : Bool :=
  match ((ops[j]?).bind (·.dst)).bind (fr[·]?) with
  | some v => isTop v
  | none => false
def guardTop (ops : Array Oper) (fr : List Value) (o : Oper) : Bool :=
  match o.guard with
  | some (g, _) => topAt ops fr g
  | none => false
structure FR (ds : List Deferred) (D : Nat → Prop) (ρ : Nat → Pl) (fr : List Value) (a : Act) : Prop where
  size : a.tmps.size = fr.length
  all : ∀ t, isTop (fr.getD t undef) = false → VR D ρ (fr.getD t undef) (a.tmps.getD t undef)
  defers : a.defers = ds

structure Rec where
  i : Nat
  o : Oper
  want : Bool
  d : Did
  ev : Operand → Value
  h : HF

def noDid : Did := ⟨undef, [], [], []⟩

section
variable {ds : List Deferred} {P : Program} {D D' : Nat → Prop} {ρ ρ' : Nat → Pl} {fr : List Value} {a : Act} {h : HF} {w w' : World} {ops : Array Oper} {lo : Nat}

theorem FR.eval (hf : FR ds D ρ fr a) {x : Operand} (hx : okX x = true) (ht : isTop (evF fr x) = false) : VR D ρ (evF fr x) (a.eval x) := by
  cases x with
  | tmp t => exact hf.all t ht
  | const v => exact .of_flat hx
  | global g => cases hx
  | func f => exact .scal _ rfl
theorem FR.mono (hf : FR ds D ρ fr a) (hD : ∀ b, D b → D' b) (hρ : ∀ b, D b → ρ' b = ρ b) : FR ds D' ρ' fr a := ⟨hf.size, fun t ht => (hf.all t ht).mono hD hρ, hf.defers⟩
theorem FR.put (hf : FR ds D ρ fr a) {dst : Option Tmp} {v u : Value} (hv : VR D ρ v u) : FR ds D ρ (setF fr dst v) (a.put dst u) := by
  cases dst with
  | none => exact hf
  | some d =>
    refine ⟨by simp [setF, Act.put, hf.size], fun t hnt => ?_, hf.defers⟩
    have h1 := hf.all t
    simp only [setF, Act.put, List.getD_eq_getElem?_getD, Array.getD_eq_getD_getElem?] at h1 hnt ⊢
    by_cases ht : d = t
    · subst ht
      by_cases hd : d < fr.length
      · have hd' : d < a.tmps.size := by rw [hf.size]; exact hd
        simpa [hd, hd'] using hv
      · have hd' : ¬ d < a.tmps.size := by rw [hf.size]; exact hd
        simp [hd, hd']
        exact .und
    · rw [List.getElem?_set_ne ht] at hnt
      rw [List.getElem?_set_ne ht, Array.getElem?_setIfInBounds_ne ht]
      exact h1 hnt
theorem VR.bool_iff {v u : Value} (hv : VR D ρ v u) (b : Bool) : v = .bool b ↔ u = .bool b := by
  constructor
  · rintro rfl; exact hv.bool_inv
  · rintro rfl; cases hv; rfl
theorem FR.yielded (hf : FR ds D ρ fr a) (j : Nat) (hnt : topAt ops fr j = false) : Go.yielded ops a.tmps j = yieldedA ops fr j := by
  unfold topAt at hnt
  unfold Go.yielded yieldedA
  cases hd : (ops[j]?).bind (·.dst) with
  | none => rfl
  | some t =>
    simp only [hd, Option.bind_some] at hnt ⊢
    have h1 := hf.all t
    by_cases ht : t < fr.length
    · have ht' : t < a.tmps.size := by rw [hf.size]; exact ht
      simp only [List.getElem?_eq_getElem ht] at hnt
      have h1 := h1 (by simpa [List.getD_eq_getElem?_getD, List.getElem?_eq_getElem ht] using hnt)
      clear hnt
      simp only [List.getD_eq_getElem?_getD, Array.getD_eq_getD_getElem?, List.getElem?_eq_getElem ht, Array.getElem?_eq_getElem ht', Option.getD_some] at h1 ⊢
      generalize fr[t] = v at h1
      generalize a.tmps[t] = u at h1
      cases u <;> cases v <;> first
        | rfl
        | (rename_i b _; have := (h1.bool_iff b).2 rfl; cases this; done)
        | (rename_i b; have := (h1.bool_iff b).1 rfl; cases this; done)
        | (rename_i b c; have := (h1.bool_iff c).1 rfl; cases this; rfl)
        | (rename_i b c; have := (h1.bool_iff b).2 rfl; cases this; done)
        | (have := (h1.bool_iff _).2 rfl; cases this; done)
        | (have := (h1.bool_iff _).1 rfl; cases this; done)
    · have ht' : ¬ t < a.tmps.size := by rw [hf.size]; exact ht
      simp [List.getElem?_eq_none (Nat.le_of_not_lt ht), Array.getElem?_eq_none (Nat.le_of_not_lt ht')]

def Rec.good (P : Program) (lo : Nat) (r : Rec) : Prop :=
  (r.want = true → (∀ x ∈ r.o.op.operands, isTop (r.ev x) = false) ∧ ∀ h : HF, (∀ b ∈ r.d.rd, h b = r.h b) → OpOKL P lo r.o r.ev h r.d) ∧ (r.want = false → r.d = noDid) ∧ ∀ x ∈ r.o.op.operands, okX x = true
def Rec.pre (ops : Array Oper) (r : Rec) (fr : List Value) (h : HF) : Prop :=
  (Region.wanted r.o (yieldedA ops fr) = r.want ∧ guardTop ops fr r.o = false) ∧ (r.want = true → (∀ x ∈ r.o.op.operands, evF fr x = r.ev x) ∧ ∀ b ∈ r.d.rd, h b = r.h b)
def Rec.frOut (r : Rec) (fr : List Value) : List Value := setF fr r.o.dst r.d.v
def Rec.hOut (r : Rec) (h : HF) : HF := updf h r.d.wr

/-- One operation of a region. -/
theorem Rec.wp {r : Rec} (hg : r.good P lo) (hp : r.pre ops fr h) (ho : ops[r.i]? = some r.o) {Q : Exit → Act → World → Prop} {K : Act → World → Prop}
    (hlo : ∀ b, D b → b < lo) (hf : FR ds D ρ fr a) (hw : WR (szP P) D ρ h w) (hn : ∀ b ∈ r.d.nw, ¬ D b)
    (hK : ∀ D' ρ' a' w', T (szP P) D ρ h w D' ρ' (r.hOut h) w' → FR ds D' ρ' (r.frOut fr) a' → (∀ b, D' b → D b ∨ b ∈ r.d.nw) → K a' w') : wpOp P ops Q r.i K a w := by
  unfold wpOp
  simp only [ho]
  have hy : Region.wanted r.o (yielded ops a.tmps) = r.want := by
    rw [← hp.1.1]
    have hg := hp.1.2
    unfold guardTop at hg
    unfold Region.wanted
    cases hgd : r.o.guard with
    | none => rfl
    | some q =>
      obtain ⟨g, b⟩ := q
      simp only [hgd] at hg ⊢
      rw [hf.yielded g hg]
  by_cases hwant : r.want = true
  · rw [if_pos (by rw [hy]; exact hwant)]
    refine .inl ?_
    obtain ⟨h1, h2⟩ := hp.2 hwant
    obtain ⟨hnt, hgd⟩ := hg.1 hwant
    have hG := hgd h h2 D ρ w a hlo (fun x hx => by rw [← h1 x hx]; exact hf.eval (hg.2.2 x hx) (by rw [h1 x hx]; exact hnt x hx)) hw hn
    refine wp_of_gives hG fun u w' ⟨D', ρ', hT, hV, hD'⟩ => ?_
    exact hK D' ρ' _ _ hT ((hf.mono hT.sub hT.same).put hV) hD'
  · rw [if_neg (by rw [hy]; exact hwant)]
    have hd := hg.2.1 (by simpa using hwant)
    refine hK D ρ _ _ ?_ ?_ (fun b hb => .inl hb)
    · unfold Rec.hOut
      rw [hd]
      exact T.refl hw
    · unfold Rec.frOut
      rw [hd]
      exact hf.put .und

/-! ### The chain in the order of the text -/
inductive Chain (ops : Array Oper) : List Rec → List Value → HF → List Value → HF → Prop
  | nil (fr : List Value) (h : HF) : Chain ops [] fr h fr h
  | cons (r : Rec) (L : List Rec) (fr : List Value) (h : HF) (fr' : List Value) (h' : HF) (hp : r.pre ops fr h) (hc : Chain ops L (r.frOut fr) (r.hOut h) fr' h') : Chain ops (r :: L) fr h fr' h'

def wrIds (d : Did) : List Nat := d.wr.map (·.1)
def Rec.apart (ops : Array Oper) (r s : Rec) : Prop :=
  r.o.apart ops s.o = true ∧ (∀ b ∈ wrIds r.d, b ∉ s.d.rd ∧ b ∉ wrIds s.d) ∧ (∀ b ∈ wrIds s.d, b ∉ r.d.rd)

theorem updf_far {l : List (Nat × Option ABlk)} {h : HF} {b : Nat} (hb : b ∉ l.map (·.1)) : updf h l b = h b := by
  induction l with
  | nil => rfl
  | cons p t ih =>
    obtain ⟨c, k⟩ := p
    simp only [List.map_cons, List.mem_cons, not_or] at hb
    simp only [updf, upd, if_neg hb.1]
    exact ih hb.2
theorem updf_in {l : List (Nat × Option ABlk)} {h g : HF} {b : Nat} (hb : b ∈ l.map (·.1)) : updf h l b = updf g l b := by
  induction l with
  | nil => cases hb
  | cons p t ih =>
    obtain ⟨c, k⟩ := p
    simp only [updf, upd]
    by_cases hbc : b = c
    · rw [if_pos hbc, if_pos hbc]
    · rw [if_neg hbc, if_neg hbc]
      refine ih ?_
      simpa [hbc] using hb
theorem updf_comm {l m : List (Nat × Option ABlk)} {h : HF} (hd : ∀ b ∈ l.map (·.1), b ∉ m.map (·.1)) : updf (updf h l) m = updf (updf h m) l := by
  funext b
  by_cases hl : b ∈ l.map (·.1)
  · rw [updf_far (hd b hl)]
    exact updf_in hl
  · rw [updf_far (l := l) hl]
    by_cases hm : b ∈ m.map (·.1)
    · rw [updf_in (g := h) hm]
    · rw [updf_far hm, updf_far hm, updf_far hl]
theorem setF_comm {fr : List Value} {x y : Option Tmp} {v u : Value} (hd : ∀ d, x = some d → y ≠ some d) : setF (setF fr x v) y u = setF (setF fr y u) x v := by
  cases x with
  | none => rfl
  | some d =>
    cases y with
    | none => rfl
    | some e =>
      have : d ≠ e := fun he => hd d rfl (he ▸ rfl)
      simp only [setF]
      exact List.set_comm _ _ this
theorem evF_setF {fr : List Value} {dst : Option Tmp} {v : Value} {x : Operand} (hx : ∀ d, dst = some d → x ≠ .tmp d) : evF (setF fr dst v) x = evF fr x := by
  cases dst with
  | none => rfl
  | some d =>
    cases x with
    | tmp t =>
      have : d ≠ t := fun e => hx d rfl (e ▸ rfl)
      simp [evF, setF, List.getD_eq_getElem?_getD, List.getElem?_set_ne this]
    | _ => rfl
theorem wanted_setF {o : Oper} {fr : List Value} {dst : Option Tmp} {v : Value} (hx : ∀ d, dst = some d → d ∉ o.looksAt ops) : Region.wanted o (yieldedA ops (setF fr dst v)) = Region.wanted o (yieldedA ops fr) := by
  cases dst with
  | none => rfl
  | some d =>
    have h1 := hx d rfl
    unfold Oper.looksAt at h1
    unfold Region.wanted
    cases hg : o.guard with
    | none => rfl
    | some q =>
      obtain ⟨g, b⟩ := q
      simp only [hg, List.mem_append, not_or] at h1
      have : yieldedA ops (setF fr (some d) v) g = yieldedA ops fr g := by
        unfold yieldedA
        cases hd : (ops[g]?).bind (·.dst) with
        | none => rfl
        | some t =>
          have hne : d ≠ t := by
            rintro rfl
            exact h1.2 (by rw [hd]; simp)
          simp only [Option.bind_some, setF, List.getElem?_set_ne hne]
      simp only [this]
theorem guardTop_setF {o : Oper} {fr : List Value} {dst : Option Tmp} {v : Value} (hx : ∀ d, dst = some d → d ∉ o.looksAt ops) : guardTop ops (setF fr dst v) o = guardTop ops fr o := by
  cases dst with
  | none => rfl
  | some d =>
    have h1 := hx d rfl
    unfold Oper.looksAt at h1
    unfold guardTop
    cases hg : o.guard with
    | none => rfl
    | some q =>
      obtain ⟨g, b⟩ := q
      simp only [hg, List.mem_append, not_or] at h1
      unfold topAt
      cases hd : (ops[g]?).bind (·.dst) with
      | none => simp only [hd, Option.bind_none]
      | some t =>
        have hne : d ≠ t := by
          rintro rfl
          exact h1.2 (by rw [hd]; simp)
        simp only [hd, Option.bind_some, setF, List.getElem?_set_ne hne]
theorem pre_out {r s : Rec} (hap : r.o.apart ops s.o = true) (hw : ∀ b ∈ wrIds r.d, b ∉ s.d.rd) {fr : List Value} {h : HF} : s.pre ops (r.frOut fr) (r.hOut h) ↔ s.pre ops fr h := by
  obtain ⟨p1, p2, p3⟩ := Oper.apart_spec hap
  have e1 : Region.wanted s.o (yieldedA ops (r.frOut fr)) = Region.wanted s.o (yieldedA ops fr) := wanted_setF p1
  have e2 : ∀ x ∈ s.o.op.operands, evF (r.frOut fr) x = evF fr x := fun x hx => evF_setF fun d hd hxd => p1 d hd (by
    unfold Oper.looksAt
    refine List.mem_append.2 (.inl (List.mem_filterMap.2 ⟨x, by simpa using hx, by rw [hxd]⟩)))
  have e3 : ∀ b ∈ s.d.rd, r.hOut h b = h b := fun b hb => updf_far fun hbw => hw b hbw hb
  have e4 : guardTop ops (r.frOut fr) s.o = guardTop ops fr s.o := guardTop_setF p1
  unfold Rec.pre
  rw [e1, e4]
  constructor
  · rintro ⟨a1, a2⟩
    exact ⟨a1, fun hwt => ⟨fun x hx => by rw [← e2 x hx]; exact (a2 hwt).1 x hx, fun b hb => by rw [← e3 b hb]; exact (a2 hwt).2 b hb⟩⟩
  · rintro ⟨a1, a2⟩
    exact ⟨a1, fun hwt => ⟨fun x hx => by rw [e2 x hx]; exact (a2 hwt).1 x hx, fun b hb => by rw [e3 b hb]; exact (a2 hwt).2 b hb⟩⟩
theorem apart_symm {x y : Oper} (h : x.apart ops y = true) : y.apart ops x = true := by
  obtain ⟨p1, p2, p3⟩ := Oper.apart_spec h
  unfold Oper.apart
  cases hx : x.dst <;> cases hy : y.dst <;> simp
  · rename_i d; exact p3 d hy
  · rename_i d; exact p1 d hx
  · rename_i d e
    exact ⟨⟨p3 e hy, fun he => p2 d hx (by rw [hy, he])⟩, p1 d hx⟩
theorem Chain.swap {r s : Rec} {L : List Rec} {fr fr' : List Value} {h h' : HF} (hc : Chain ops (r :: s :: L) fr h fr' h') (hap : r.apart ops s) : Chain ops (s :: r :: L) fr h fr' h' := by
  obtain ⟨p1, p2, p3⟩ := hap
  cases hc with
  | cons _ _ _ _ _ _ hp hc =>
    cases hc with
    | cons _ _ _ _ _ _ hp2 hc =>
      have q := apart_symm p1
      refine .cons s _ fr h fr' h' ((pre_out p1 fun b hb => (p2 b hb).1).1 hp2) (.cons r _ _ _ _ _ ((pre_out q p3).2 hp) ?_)
      have e1 : r.frOut (s.frOut fr) = s.frOut (r.frOut fr) := setF_comm (Oper.apart_spec q).2.1
      have e2 : r.hOut (s.hOut h) = s.hOut (r.hOut h) := updf_comm fun b hb hb2 => (p2 b hb2).2 hb
      rw [e1, e2]
      exact hc
theorem Chain.first {s : Rec} : ∀ {L1 L2 : List Rec} {fr fr' : List Value} {h h' : HF}, Chain ops (L1 ++ s :: L2) fr h fr' h' → (∀ r ∈ L1, r.apart ops s) → Chain ops (s :: (L1 ++ L2)) fr h fr' h'
  | [], L2, fr, fr', h, h', hc, _ => hc
  | r :: L1, L2, fr, fr', h, h', hc, hap => by
    cases hc with
    | cons _ _ _ _ _ _ hp hc =>
      have := Chain.first hc (fun x hx => hap x (by simp [hx]))
      exact Chain.swap (.cons r _ _ _ _ _ hp this) (hap r (by simp))

/-! ### In whatever order -/
/-- What is known of the numbers in use while the operations of L are still to come. -/
def InUse (lo base : Nat) (L : List Rec) (D : Nat → Prop) : Prop := ∀ b, D b → b < base ∨ ∃ k, base + 64 * k ≤ b ∧ b < base + 64 * (k + 1) ∧ b < lo ∧ ∀ r ∈ L, r.i ≠ k

/-- What holds of the operations of L, whatever has been done. -/
structure Recs (P : Program) (ops : Array Oper) (lo base : Nat) (L : List Rec) : Prop where
  good : ∀ r ∈ L, r.good P lo
  op : ∀ r ∈ L, ops[r.i]? = some r.o
  num : ∀ r ∈ L, ∀ b ∈ r.d.nw, base + 64 * r.i ≤ b ∧ b < base + 64 * (r.i + 1)
  sorted : L.Pairwise (fun r s => r.i < s.i)

theorem InUse.step {base : Nat} {L1 L2 : List Rec} {s : Rec} (hu : InUse lo base (L1 ++ s :: L2) D) (hR : Recs P ops lo base (L1 ++ s :: L2)) (hlo : lo = base + 64 * ops.size) (hD : ∀ b, D' b → D b ∨ b ∈ s.d.nw) : InUse lo base (L1 ++ L2) D' := by
  intro b hb
  rcases hD b hb with h1 | h1
  · rcases hu b h1 with h2 | ⟨k, k1, k2, k3, k4⟩
    · exact .inl h2
    · exact .inr ⟨k, k1, k2, k3, fun r hr => k4 r (by simp only [List.mem_append, List.mem_cons] at hr ⊢; rcases hr with hr | hr <;> simp [hr])⟩
  · have hs := hR.num s (by simp) b h1
    have hi : s.i < ops.size := (Array.getElem?_eq_some_iff.1 (hR.op s (by simp))).1
    refine .inr ⟨s.i, hs.1, hs.2, by omega, fun r hr => ?_⟩
    have hp := List.pairwise_append.1 hR.sorted
    have hp2 := List.pairwise_cons.1 hp.2.1
    rcases List.mem_append.1 hr with hr | hr
    · have := hp.2.2 r hr s (by simp); omega
    · have := hp2.1 r hr; omega
theorem InUse.fresh {base : Nat} {L : List Rec} (hu : InUse lo base L D) (hR : Recs P ops lo base L) {s : Rec} (hs : s ∈ L) : ∀ b ∈ s.d.nw, ¬ D b := by
  intro b hb hD
  have h1 := hR.num s hs b hb
  rcases hu b hD with h2 | ⟨k, k1, k2, k3, k4⟩
  · omega
  · exact k4 s hs (by omega)
theorem InUse.below {base : Nat} {L : List Rec} (hu : InUse lo base L D) (hb : base ≤ lo) : ∀ b, D b → b < lo := by
  intro b hD
  rcases hu b hD with h2 | ⟨k, k1, k2, k3, k4⟩
  · omega
  · exact k3
theorem InUse.above {base : Nat} {L : List Rec} (hu : InUse lo base L D) {D0 : Nat → Prop} (h0 : ∀ b, D b → D0 b ∨ base ≤ b) : ∀ b, D b → D0 b ∨ base ≤ b := h0
theorem Recs.less {base : Nat} {L1 L2 : List Rec} {s : Rec} (hR : Recs P ops lo base (L1 ++ s :: L2)) : Recs P ops lo base (L1 ++ L2) := by
  have hmem : ∀ r ∈ L1 ++ L2, r ∈ L1 ++ s :: L2 := fun r hr => by simp only [List.mem_append, List.mem_cons] at hr ⊢; rcases hr with hr | hr <;> simp [hr]
  refine ⟨fun r hr => hR.good r (hmem r hr), fun r hr => hR.op r (hmem r hr), fun r hr => hR.num r (hmem r hr), ?_⟩
  have hp := List.pairwise_append.1 hR.sorted
  have hp2 := List.pairwise_cons.1 hp.2.1
  exact List.pairwise_append.2 ⟨hp.1, hp2.2, fun r hr t ht => hp.2.2 r hr t (by simp [ht])⟩

theorem any_order {base : Nat} {fr' : List Value} {h' : HF} {Q : Exit → Act → World → Prop} {D0 : Nat → Prop} {ρ0 : Nat → Pl} {h0 : HF} {w0 : World} {tp : Nat → Nat → Prop}
    (hlo : lo = base + 64 * ops.size) (htp : ∀ i o y, ops[i]? = some o → tp i y → ∃ e ∈ o.after, Region.binds .any e = true ∧ (y = e.on ∨ tp e.on y)) (hdown : ∀ i o, ops[i]? = some o → ∀ e ∈ o.after, Region.binds .any e = true → e.on < i)
    (hQ : ∀ D' ρ' a' w', T (szP P) D0 ρ0 h0 w0 D' ρ' h' w' → FR ds D' ρ' fr' a' → (∀ b, D' b → b < lo) → (∀ b, D' b → D0 b ∨ base ≤ b) → Q .normal a' w') :
    ∀ (f : Nat) (L : List Rec) (listed : Array Bool) (D : Nat → Prop) (ρ : Nat → Pl) (fr : List Value) (h : HF) (a : Act) (w : World),
      L.length = f → listed.size = ops.size → (∀ i, i < ops.size → (listed.getD i true = false ↔ ∃ r ∈ L, r.i = i)) → (∀ i y, i < ops.size → listed.getD i false = true → tp i y → listed.getD y false = true) →
      Recs P ops lo base L → L.Pairwise (fun r s => tp s.i r.i ∨ r.apart ops s) → Chain ops L fr h fr' h' → InUse lo base L D → FR ds D ρ fr a → T (szP P) D0 ρ0 h0 w0 D ρ h w → (∀ b, D b → D0 b ∨ base ≤ b) →
      wpAny P .any ops Q f listed a w := by
  intro f
  induction f with
  | zero =>
    intro L listed D ρ fr h a w hlen hsz hun hcl hR hap hch hu hf hT hab
    have : L = [] := List.eq_nil_of_length_eq_zero hlen
    subst this
    cases hch
    refine ⟨?_, hQ D ρ a w hT hf (hu.below (by omega)) hab⟩
    rw [List.eq_nil_iff_forall_not_mem]
    intro i hi
    obtain ⟨h1, o, ho, _⟩ := mem_ready.1 hi
    obtain ⟨r, hr, _⟩ := (hun i (Array.getElem?_eq_some_iff.1 ho).1).1 h1
    cases hr
  | succ f ih =>
    intro L listed D ρ fr h a w hlen hsz hun hcl hR hap hch hu hf hT hab
    refine ⟨fun hnil => ?_, fun i hi => ?_⟩
    · exfalso
      cases L with
      | nil => simp at hlen
      | cons r L =>
        have ho := hR.op r (by simp)
        have hri : r.i < ops.size := (Array.getElem?_eq_some_iff.1 ho).1
        have : r.i ∈ Region.ready .any ops listed := by
          refine mem_ready.2 ⟨(hun r.i hri).2 ⟨r, by simp, rfl⟩, r.o, ho, fun e he hb => ?_⟩
          have hlt := hdown r.i r.o ho e he hb
          have h1 : ¬ (listed.getD e.on true = false) := by
            intro hfl
            obtain ⟨t, ht, hti⟩ := (hun e.on (by omega)).1 hfl
            have hp := List.pairwise_cons.1 hR.sorted
            simp only [List.mem_cons] at ht
            rcases ht with rfl | ht
            · omega
            · have := hp.1 t ht; omega
          have hb2 : e.on < listed.size := by omega
          simp only [Array.getD, hb2, dite_true] at h1 ⊢
          simpa using h1
        rw [hnil] at this
        cases this
    · obtain ⟨h1, o, ho, hall⟩ := mem_ready.1 hi
      have hin : i < ops.size := (Array.getElem?_eq_some_iff.1 ho).1
      obtain ⟨s, hs, rfl⟩ := (hun i hin).1 h1
      obtain ⟨L1, L2, rfl⟩ := List.append_of_mem hs
      have ho2 := hR.op s hs
      have hpre : ∀ y, tp s.i y → listed.getD y false = true := by
        intro y hy
        obtain ⟨e, he, hb, hc⟩ := htp s.i o y ho hy
        rcases hc with rfl | hc
        · exact hall e he hb
        · exact hcl e.on y (by have := hdown s.i o ho e he hb; omega) (hall e he hb) hc
      have hapL : ∀ r ∈ L1, r.apart ops s := by
        intro r hr
        rcases (List.pairwise_append.1 hap).2.2 r hr s (by simp) with h2 | h2
        · exfalso
          have h3 := hpre r.i h2
          have hri : r.i < ops.size := (Array.getElem?_eq_some_iff.1 (hR.op r (by simp [hr]))).1
          have h4 := (hun r.i hri).2 ⟨r, by simp [hr], rfl⟩
          simp only [Array.getD, show r.i < listed.size by omega, dite_true] at h3 h4
          rw [h3] at h4
          cases h4
        · exact h2
      have hc2 := Chain.first hch hapL
      cases hc2 with
      | cons _ _ _ _ _ _ hp hc =>
        refine Rec.wp (hR.good s hs) hp ho2 (hu.below (by omega)) hf hT.wr (hu.fresh hR hs) fun D' ρ' a' w' hT' hf' hD' => ?_
        refine ih (L1 ++ L2) _ D' ρ' _ _ a' w' ?_ (by simpa using hsz) (fun j hj => ?_) (fun j y hj hl hy => ?_) hR.less ?_ hc (hu.step hR hlo hD') hf' (hT.trans hT') (fun b hb => ?_)
        · simp only [List.length_append, List.length_cons] at hlen ⊢; omega
        · by_cases hjs : s.i = j
          · subst hjs
            simp only [Array.getD, Array.size_setIfInBounds, show s.i < listed.size by omega, dite_true, Array.getInternal_eq_getElem, Array.getElem_setIfInBounds_self]
            suffices hno : ¬ ∃ r ∈ L1 ++ L2, r.i = s.i by simpa using hno
            rintro ⟨r, hr, hri⟩
            have hp := List.pairwise_append.1 hR.sorted
            have hp2 := List.pairwise_cons.1 hp.2.1
            rcases List.mem_append.1 hr with hr | hr
            · have := hp.2.2 r hr s (by simp); omega
            · have := hp2.1 r hr; omega
          · rw [getD_set_ne true hjs, hun j hj]
            constructor
            · rintro ⟨r, hr, rfl⟩
              refine ⟨r, ?_, rfl⟩
              simp only [List.mem_append, List.mem_cons] at hr ⊢
              rcases hr with hr | rfl | hr
              · exact .inl hr
              · exact absurd rfl hjs
              · exact .inr hr
            · rintro ⟨r, hr, rfl⟩
              refine ⟨r, ?_, rfl⟩
              simp only [List.mem_append, List.mem_cons] at hr ⊢
              rcases hr with hr | hr
              · exact .inl hr
              · exact .inr (.inr hr)
        · by_cases hjs : s.i = j
          · subst hjs
            exact getD_set_true (hpre y hy)
          · rw [getD_set_ne false hjs] at hl
            exact getD_set_true (hcl j y hj hl hy)
        · have hp := List.pairwise_append.1 hap
          have hp2 := List.pairwise_cons.1 hp.2.1
          exact List.pairwise_append.2 ⟨hp.1, hp2.2, fun r hr t ht => hp.2.2 r hr t (by simp [ht])⟩
        · rcases hD' b hb with h2 | h2
          · exact hab b h2
          · have := hR.num s hs b h2
            exact .inr (by omega)

/-- In the order of the text. -/
theorem in_order {base : Nat} {fr' : List Value} {h' : HF} {Q : Exit → Act → World → Prop} {D0 : Nat → Prop} {ρ0 : Nat → Pl} {h0 : HF} {w0 : World}
    (hlo : lo = base + 64 * ops.size)
    (hQ : ∀ D' ρ' a' w', T (szP P) D0 ρ0 h0 w0 D' ρ' h' w' → FR ds D' ρ' fr' a' → (∀ b, D' b → b < lo) → (∀ b, D' b → D0 b ∨ base ≤ b) → Q .normal a' w') :
    ∀ (L : List Rec) (D : Nat → Prop) (ρ : Nat → Pl) (fr : List Value) (h : HF) (a : Act) (w : World),
      Recs P ops lo base L → Chain ops L fr h fr' h' → InUse lo base L D → FR ds D ρ fr a → T (szP P) D0 ρ0 h0 w0 D ρ h w → (∀ b, D b → D0 b ∨ base ≤ b) →
      wpOps P ops Q (L.map (·.i)) a w
  | [], D, ρ, fr, h, a, w, hR, hch, hu, hf, hT, hab => by
    cases hch
    exact hQ D ρ a w hT hf (hu.below (by omega)) hab
  | s :: L, D, ρ, fr, h, a, w, hR, hch, hu, hf, hT, hab => by
    simp only [List.map_cons]
    rw [wpOps_cons]
    cases hch with
    | cons _ _ _ _ _ _ hp hc =>
      refine Rec.wp (hR.good s (by simp)) hp (hR.op s (by simp)) (hu.below (by omega)) hf hT.wr (hu.fresh hR (by simp)) fun D' ρ' a' w' hT' hf' hD' => ?_
      refine in_order hlo hQ L D' ρ' _ _ a' w' (Recs.less (L1 := []) hR) hc (InUse.step (L1 := []) hu hR hlo hD') hf' (hT.trans hT') (fun b hb => ?_)
      rcases hD' b hb with h2 | h2
      · exact hab b h2
      · have := hR.num s (by simp) b h2
        exact .inr (by omega)
end
end Go.Proofs.Ytkdalfdfepipiaa
