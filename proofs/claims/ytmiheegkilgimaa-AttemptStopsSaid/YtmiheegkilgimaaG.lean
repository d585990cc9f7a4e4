/-
  A region that draws its order, walked once: every operation that yields one value in all later worlds is taken first; the others are carried out where they are the only ones that may come up.
-/
import Derived.Deep.Quiet
import Derived.Tactics
import Derived.Tactics2
import Derived.WalkKit
import Derived.KernelRfl
import Derived.Below
namespace Go.Proofs.Ytmiheegkilgimaa
open Go.RowKit

/-- What an operation hands back and leaves, when it was carried out with this result. -/
def givesUpon (P : Program) (G : Value → World → Prop) : Result Next → Prop
  | .ok (.value u) w' => G u w'
  | .ok .skip w' => G undef w'
  | .ok (.enter f args) w' => Calls P f args w' (fun e w'' => ∃ u, e = .returned u ∧ G u w'')
  | _ => False
def Gives (P : Program) (o : Oper) (a : Act) (w : World) (G : Value → World → Prop) : Prop := givesUpon P G ((execOp a.eval o).run P w)

section
variable {P : Program} {ops : Array Oper} {R : World → World → Prop} {Q : Exit → Act → World → Prop}

theorem wp_of_gives {o : Oper} {a : Act} {w : World} {G : Value → World → Prop} {K : Act → World → Prop} (h : Gives P o a w G) (hK : ∀ u w', G u w' → K (a.put o.dst u) w') : o.wp P a w K Q := by
  unfold Gives at h
  unfold Oper.wp
  generalize (execOp a.eval o).run P w = r at *
  cases r with
  | ok n w' =>
    cases n <;> simp only [givesUpon] at h <;> simp only [Oper.upon]
    case value u => exact hK _ _ h
    case skip => exact hK _ _ h
    case enter f args =>
      refine h.mono fun e w'' he => ?_
      obtain ⟨u, rfl, hu⟩ := he
      exact hK _ _ hu
  | halt x w' => simp only [givesUpon] at h

/-- In the frame 'a', in every world that 'w' may have become, the operation yields 'v'. -/
def YieldsUp (P : Program) (ops : Array Oper) (R : World → World → Prop) (o : Oper) (v : Value) (a : Act) (w : World) : Prop :=
  (Region.wanted o (yielded ops a.tmps) = true ∧ ∀ w1, R w w1 → Gives P o a w1 (fun u w' => u = v ∧ R w1 w')) ∨
  (Region.wanted o (yielded ops a.tmps) = false ∧ v = undef)

theorem YieldsUp.of_same {o : Oper} {v : Value} {a a' : Act} {w : World} (hy : YieldsUp P ops R o v a w) (he : execOp a'.eval o = execOp a.eval o)
    (hw : Region.wanted o (yielded ops a'.tmps) = Region.wanted o (yielded ops a.tmps)) : YieldsUp P ops R o v a' w := by
  unfold YieldsUp Gives at *
  rw [he, hw]
  exact hy

/-- One operation 'oj' apart from 'oi': it makes no difference to it whether the value of 'oi' lies there already. -/
theorem wpOp_putUp {j : Nat} {oi oj : Oper} {v : Value} {w0 : World} (hj : ops[j]? = some oj) (hap : oi.apart ops oj = true)
    (hsi : ∀ cs b, oi.op ≠ .select cs b) (hsj : ∀ cs b, oj.op ≠ .select cs b)
    (hQ : ∀ c a w, Q (.panic c) (a.put oi.dst v) w → Q (.panic c) a w) {K : Act → World → Prop} {a : Act} {w : World}
    (hy : YieldsUp P ops R oi v a w0) (h : wpOp P ops Q j K (a.put oi.dst v) w) :
    wpOp P ops Q j (fun a' w' => YieldsUp P ops R oi v a' w0 ∧ K (a'.put oi.dst v) w') a w := by
  obtain ⟨p1, p2, p3⟩ := Oper.apart_spec hap
  have stay : ∀ (b : Act) (u : Value), YieldsUp P ops R oi v b w0 → YieldsUp P ops R oi v (b.put oj.dst u) w0 := fun b u hb =>
    hb.of_same (execOp_put oi hsi b oj.dst u p3) (wanted_put oi b oj.dst u p3)
  have swap : ∀ (b : Act) (u : Value), (b.put oj.dst u).put oi.dst v = (b.put oi.dst v).put oj.dst u := fun b u => (Act.put_comm b v u p2).symm
  unfold wpOp at h ⊢
  simp only [hj] at h ⊢
  rw [wanted_put oj a oi.dst v p1] at h
  by_cases hw : Region.wanted oj (yielded ops a.tmps) = true
  · rw [if_pos hw] at h ⊢
    rcases h with h | ⟨hasks, hlets⟩
    · refine .inl ?_
      unfold Oper.wp at h ⊢
      rw [execOp_put oj hsj a oi.dst v p1] at h
      generalize (execOp a.eval oj).run P w = r at h ⊢
      rcases r with ⟨n, w'⟩ | ⟨x, w'⟩
      · cases n with
        | value u => exact ⟨stay a u hy, by rw [swap]; exact h⟩
        | skip => exact ⟨stay a undef hy, by rw [swap]; exact h⟩
        | defer d =>
          have hyd : YieldsUp P ops R oi v { a with defers := d :: a.defers } w0 := hy.of_same rfl rfl
          refine ⟨stay _ undef hyd, ?_⟩
          show K _ w'
          rw [swap, ← Act.put_defers]
          exact h
        | enter f args =>
          refine Calls.mono h fun e w'' he => ?_
          cases e with
          | returned u => exact ⟨stay a u hy, by rw [swap]; exact he⟩
          | panicked c => exact hQ _ _ _ he
          | outgrown => exact he
        | row row args => exact Rows.mono h fun u w'' he => ⟨stay a u hy, by rw [swap]; exact he⟩
        | _ => exact h
      · cases x with
        | panic u => exact hQ _ _ _ h
        | _ => exact h
    · exact .inr ⟨by unfold Oper.asks at *; rw [execOp_put oj hsj a oi.dst v p1] at hasks; exact hasks, hlets⟩
  · rw [if_neg hw] at h ⊢
    exact ⟨stay a undef hy, by rw [swap]; exact h⟩

/-- Whatever order is picked, from every world that 'w' may have become. -/
def wpG (P : Program) (ops : Array Oper) (R : World → World → Prop) (Q : Exit → Act → World → Prop) : Nat → Array Bool → Act → World → Prop
  | 0, listed, a, w => Region.ready .any ops listed = [] ∧ ∀ w1, R w w1 → Q .normal a w1
  | f + 1, listed, a, w => ∀ w1, R w w1 → Region.ready .any ops listed ≠ [] ∧ ∀ i ∈ Region.ready .any ops listed, wpOp P ops Q i (fun a' w' => R w1 w' ∧ wpG P ops R Q f (listed.setIfInBounds i true) a' w') a w1

theorem wpG_mono (ht : ∀ a b c, R a b → R b c → R a c) {w w' : World} (hw : R w w') : ∀ (f : Nat) (listed : Array Bool) (a : Act), wpG P ops R Q f listed a w → wpG P ops R Q f listed a w'
  | 0, _, _, h => ⟨h.1, fun w1 h1 => h.2 w1 (ht _ _ _ hw h1)⟩
  | _ + 1, _, _, h => fun w1 h1 => h w1 (ht _ _ _ hw h1)

theorem wpAny_of_wpG (hr : ∀ a, R a a) : ∀ (f : Nat) (listed : Array Bool) (a : Act) (w : World), wpG P ops R Q f listed a w → wpAny P .any ops Q f listed a w
  | 0, _, _, w, h => ⟨h.1, h.2 w (hr w)⟩
  | f + 1, _, _, w, h => by
    obtain ⟨h1, h2⟩ := h w (hr w)
    exact ⟨fun h0 => absurd h0 h1, fun i hi => wpOp_mono (fun a' w' h' => wpAny_of_wpG hr f _ a' w' h'.2) (h2 i hi)⟩

theorem YieldsUp.mono (ht : ∀ a b c, R a b → R b c → R a c) {o : Oper} {v : Value} {a : Act} {w w' : World} (hy : YieldsUp P ops R o v a w) (hw : R w w') : YieldsUp P ops R o v a w' :=
  hy.imp (fun ⟨h1, h2⟩ => ⟨h1, fun w1 h => h2 w1 (ht _ _ _ hw h)⟩) id

theorem wpG_first (hr : ∀ a, R a a) (ht : ∀ a b c, R a b → R b c → R a c) {i : Nat} {oi : Oper} {v : Value} (hi : ops[i]? = some oi) (hsel : ∀ (j : Nat) (o : Oper) cs b, ops[j]? = some o → o.op ≠ .select cs b)
    (hQ : ∀ c a w, Q (.panic c) (a.put oi.dst v) w → Q (.panic c) a w) :
    ∀ (f : Nat) (listed : Array Bool) (a : Act) (w : World),
      (∀ j oj, ops[j]? = some oj → j ≠ i → listed.getD j true = false → (∀ e ∈ oj.after, Region.binds .any e = true → e.on ≠ i) → oi.apart ops oj = true) →
      i ∈ Region.ready .any ops listed → YieldsUp P ops R oi v a w →
      wpG P ops R Q f (listed.setIfInBounds i true) (a.put oi.dst v) w → wpG P ops R Q (f + 1) listed a w := by
  have self : ∀ (f : Nat) (listed : Array Bool) (a : Act) (w w1 : World), R w w1 → YieldsUp P ops R oi v a w → wpG P ops R Q f listed (a.put oi.dst v) w →
      wpOp P ops Q i (fun a' w' => R w1 w' ∧ wpG P ops R Q f listed a' w') a w1 := by
    intro f listed a w w1 hw1 hy H
    unfold wpOp
    simp only [hi]
    rcases hy with ⟨hw, hv⟩ | ⟨hw, rfl⟩
    · rw [if_pos hw]
      exact .inl (wp_of_gives (hv w1 hw1) fun u w' ⟨hu, hR⟩ => ⟨hR, by subst hu; exact wpG_mono ht (ht _ _ _ hw1 hR) _ _ _ H⟩)
    · rw [if_neg (by simp [hw])]
      exact ⟨hr _, wpG_mono ht hw1 _ _ _ H⟩
  intro f
  induction f with
  | zero =>
    intro listed a w _ hir hy H w1 hw1
    refine ⟨fun h => (by rw [h] at hir; cases hir), fun j hj => ?_⟩
    by_cases hji : j = i
    · subst hji; exact self _ _ _ _ _ hw1 hy H
    · have := ready_mono hj hji
      rw [H.1] at this
      cases this
  | succ f ih =>
    intro listed a w hfree hir hy H w1 hw1
    refine ⟨fun h => (by rw [h] at hir; cases hir), fun j hj => ?_⟩
    by_cases hji : j = i
    · subst hji; exact self _ _ _ _ _ hw1 hy H
    · have h1 := (H w1 hw1).2 j (ready_mono hj hji)
      obtain ⟨hjun, oj, hoj, hall⟩ := mem_ready.1 hj
      have hiun := (mem_ready.1 hir).1
      have hnot : ∀ e ∈ oj.after, Region.binds .any e = true → e.on ≠ i := by
        intro e he hb heq
        have h0 := hall e he hb
        rw [heq] at h0
        by_cases hlt : i < listed.size
        · simp [hlt] at hiun h0
          rw [hiun] at h0
          cases h0
        · simp [hlt] at h0
      have h2 := wpOp_putUp hoj (hfree j oj hoj hji hjun hnot) (fun cs b => hsel i oi cs b hi) (fun cs b => hsel j oj cs b hoj) hQ hy h1
      have hfree' : ∀ k ok, ops[k]? = some ok → k ≠ i → (listed.setIfInBounds j true).getD k true = false → (∀ e ∈ ok.after, Region.binds .any e = true → e.on ≠ i) → oi.apart ops ok = true := by
        intro k ok hk hki hun hno
        refine hfree k ok hk hki ?_ hno
        by_cases hjk : j = k
        · subst hjk; exact hjun
        · rw [getD_set_ne true hjk] at hun; exact hun
      refine wpOp_mono (fun a' w' h3 => ⟨h3.2.1, ih _ a' w' hfree' (ready_mono hir (Ne.symm hji)) (h3.1.mono ht (ht _ _ _ hw1 h3.2.1)) ?_⟩) h2
      rw [Array.setIfInBounds_comm _ _ hji]
      exact h3.2.2

/-- A plan: the operations by their numbers, in an order; 'true': taken first; 'false': the only one that may come up. -/
def planB (ops : Array Oper) : List (Nat × Bool) → Array Bool → Bool
  | [], listed => (Region.ready .any ops listed).isEmpty
  | (i, true) :: r, listed => (Region.ready .any ops listed).contains i && Region.free .any ops listed i && planB ops r (listed.setIfInBounds i true)
  | (i, false) :: r, listed => decide (Region.ready .any ops listed = [i]) && planB ops r (listed.setIfInBounds i true)

/-- The walk of a plan. -/
def wpP (P : Program) (ops : Array Oper) (R : World → World → Prop) (Q : Exit → Act → World → Prop) : List (Nat × Bool) → Act → World → Prop
  | [], a, w => ∀ w1, R w w1 → Q .normal a w1
  | (i, true) :: r, a, w => match ops[i]? with
    | some o => ∃ v, YieldsUp P ops R o v a w ∧ wpP P ops R Q r (a.put o.dst v) w
    | none => False
  | (i, false) :: r, a, w => ∀ w1, R w w1 → match ops[i]? with
    | some o => if Region.wanted o (yielded ops a.tmps) then Gives P o a w1 (fun u w' => R w1 w' ∧ wpP P ops R Q r (a.put o.dst u) w') else wpP P ops R Q r (a.put o.dst undef) w1
    | none => False

theorem wpG_of_wpP (hr : ∀ a, R a a) (ht : ∀ a b c, R a b → R b c → R a c) (hs : Region.noSelect ops = true) (hQ : ∀ c d v a w, Q (.panic c) (a.put d v) w → Q (.panic c) a w) :
    ∀ (l : List (Nat × Bool)) (listed : Array Bool) (a : Act) (w : World), planB ops l listed = true → wpP P ops R Q l a w → wpG P ops R Q l.length listed a w
  | [], _, _, _, hB, h => ⟨by simpa [planB] using hB, h⟩
  | (i, true) :: r, listed, a, w, hB, h => by
    simp only [planB, Bool.and_eq_true] at hB
    obtain ⟨⟨b1, b2⟩, b3⟩ := hB
    simp only [wpP] at h
    cases ho : ops[i]? with
    | none => simp [ho] at h
    | some o =>
      simp only [ho] at h
      obtain ⟨v, hy, h⟩ := h
      exact wpG_first hr ht ho (Region.noSelect_spec hs) (fun c a w => hQ c o.dst v a w) r.length listed a w (Region.free_spec ho b2) (by simpa using b1) hy (wpG_of_wpP hr ht hs hQ r _ _ _ b3 h)
  | (i, false) :: r, listed, a, w, hB, h => by
    simp only [planB, Bool.and_eq_true, decide_eq_true_eq] at hB
    obtain ⟨b1, b3⟩ := hB
    intro w1 hw1
    have h := h w1 hw1
    refine ⟨by rw [b1]; simp, fun j hj => ?_⟩
    rw [b1] at hj
    obtain rfl : j = i := by simpa using hj
    cases ho : ops[j]? with
    | none => simp [ho] at h
    | some o =>
      simp only [ho] at h
      unfold wpOp
      simp only [ho]
      by_cases hw : Region.wanted o (yielded ops a.tmps) = true
      · rw [if_pos hw] at h ⊢
        exact .inl (wp_of_gives h fun u w' ⟨h1, h2⟩ => ⟨h1, wpG_of_wpP hr ht hs hQ r _ _ _ b3 h2⟩)
      · rw [if_neg hw] at h ⊢
        exact ⟨hr _, wpG_of_wpP hr ht hs hQ r _ _ _ b3 h⟩

/-- THE REGION, BY A PLAN. -/
theorem wp_region_plan {l : List Oper} {id : Nat} {a : Act} {w : World} (p : List (Nat × Bool)) (R : World → World → Prop) (hr : ∀ a, R a a) (ht : ∀ a b c, R a b → R b c → R a c)
    (hm : P.follows .mixedOrders = true) (hB : (Region.noSelect l.toArray && p.length == l.toArray.size && planB l.toArray p (Array.replicate l.toArray.size false)) = true)
    (hQ : ∀ c d v a w, Q (.panic c) (a.put d v) w → Q (.panic c) a w)
    (h : wpP P l.toArray R Q p a w.drew) : (Code.region id l.toArray true).wp P Q a w := by
  simp only [Bool.and_eq_true, beq_iff_eq] at hB
  obtain ⟨⟨b1, b2⟩, b3⟩ := hB
  refine wp_region_any hm (wpAny_of_wpG hr _ _ _ _ ?_)
  rw [← b2]
  exact wpG_of_wpP hr ht b1 hQ p _ a _ (by rw [b2]; exact b3) h

/-! The steps -/
theorem wpP_pass {l : List Oper} {o : Oper} {a : Act} {w : World} {i : Nat} {r : List (Nat × Bool)} (ho : l[i]? = some o) (hw : Region.wanted o (yielded l.toArray a.tmps) = false)
    (h : wpP P l.toArray R Q r (a.put o.dst undef) w) : wpP P l.toArray R Q ((i, true) :: r) a w := by
  have ho' : l.toArray[i]? = some o := by simpa using ho
  simp only [wpP, ho']
  exact ⟨undef, .inr ⟨hw, rfl⟩, h⟩
theorem wpP_take {l : List Oper} {o : Oper} {a : Act} {w : World} {i : Nat} {r : List (Nat × Bool)} (ho : l[i]? = some o) (hw : Region.wanted o (yielded l.toArray a.tmps) = true)
    (h : ∃ v, (∀ w1, R w w1 → Gives P o a w1 (fun u w' => u = v ∧ R w1 w')) ∧ wpP P l.toArray R Q r (a.put o.dst v) w) : wpP P l.toArray R Q ((i, true) :: r) a w := by
  have ho' : l.toArray[i]? = some o := by simpa using ho
  obtain ⟨v, hy, h⟩ := h
  simp only [wpP, ho']
  exact ⟨v, .inl ⟨hw, hy⟩, h⟩
theorem wpP_only {l : List Oper} {o : Oper} {a : Act} {w : World} {i : Nat} {r : List (Nat × Bool)} (ho : l[i]? = some o) (hw : Region.wanted o (yielded l.toArray a.tmps) = true)
    (h : ∀ w1, R w w1 → Gives P o a w1 (fun u w' => R w1 w' ∧ wpP P l.toArray R Q r (a.put o.dst u) w')) : wpP P l.toArray R Q ((i, false) :: r) a w := by
  have ho' : l.toArray[i]? = some o := by simpa using ho
  simp only [wpP, ho', if_pos hw]
  exact h
theorem wpP_done {a : Act} {w : World} (h : ∀ w1, R w w1 → Q .normal a w1) : wpP P ops R Q [] a w := h
end
end Go.Proofs.Ytmiheegkilgimaa
