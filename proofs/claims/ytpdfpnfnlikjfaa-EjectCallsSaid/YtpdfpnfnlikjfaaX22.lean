/- The engine in a round of a range over a function: undrawn code. -/
import Derived.Test.YtpdfpnfnlikjfaaX21
import Derived.RangeFuncCalls
import Derived.LoopNIn
import Derived.OrdersIn
namespace Go.Proofs.Ytpdfpnfnlikjfaa
open Go.RowKit
set_option linter.unusedSectionVars false
set_option linter.unusedVariables false
variable [Inhabited RawG]
theorem not_defer {P : Program} {o : Oper} {a : Act} {w : World} {G : Value → World → Prop} (h : Gives P o a w G) : ∀ c, o.op ≠ .defer c := by
  intro c hc
  unfold Gives at h
  have e : execOp a.eval o = (do return .defer (← resolve a.eval c o.type) : Sem Next) := by simp only [execOp, hc]
  rw [e, Sem.run_bind] at h
  generalize (resolve a.eval c o.type).run P w = r at h
  cases r with
  | ok x w' => simp [Sem.run_pure, Result.andThen, givesUpon] at h
  | halt x w' => simp [Result.andThen, givesUpon] at h
section
variable {l n : Nat} {P : Program} {Q : Exit → Act → World → Prop}
theorem wp_of_givesR {o : Oper} {a : Act} {w : World} {G : Value → World → Prop} {K : Act → World → Prop} (h : Gives P o a w G) (hK : ∀ u w', G u w' → K (a.put o.dst u) w') : o.wpIn (Fence.wide.inRound l) n P a w K Q := by
  refine ⟨fun _ _ => trivial, ?_⟩
  rw [Oper.semAt_eq _ _ _ (not_defer h)]
  unfold Gives at h
  generalize (execOp a.eval o).run P w = r at *
  cases r with
  | ok x w' =>
    cases x <;> simp only [givesUpon] at h <;> simp only [Oper.uponIn]
    case value u => exact hK _ _ h
    case skip => exact hK _ _ h
    case enter f args =>
      refine ⟨fun h => (by cases h), ((callsIn_wide.2 h).inRound l).mono ?_⟩
      intro e w'' he
      obtain ⟨u, rfl, hu⟩ := he
      exact hK _ _ hu
  | halt x w' => simp only [givesUpon] at h
end
section
variable {l n : Nat} {ds : List Deferred} {P : Program} {D D' : Nat → Prop} {ρ ρ' : Nat → Pl} {fr : List Value} {a : Act} {h : HF} {w w' : World} {ops : Array Oper} {lo : Nat}
theorem Rec.wpR {r : Rec} (hg : r.good P lo) (hp : r.pre ops fr h) (ho : ops[r.i]? = some r.o) {Q : Exit → Act → World → Prop} {K : Act → World → Prop}
    (hlo : ∀ b, D b → b < lo) (hf : FR ds D ρ fr a) (hw : WR (szP P) D ρ h w) (hn : ∀ b ∈ r.d.nw, ¬ D b)
    (hK : ∀ D' ρ' a' w', T (szP P) D ρ h w D' ρ' (r.hOut h) w' → FR ds D' ρ' (r.frOut fr) a' → (∀ b, D' b → D b ∨ b ∈ r.d.nw) → K a' w') : wpOpIn (Fence.wide.inRound l) n P ops Q r.i K a w := by
  unfold wpOpIn
  simp only [ho]
  have hy : Region.wanted r.o (yielded ops a.tmps) = r.want := by
    rw [← hp.1.1]
    have hg := hp.1.2
    unfold guardTop at hg
    unfold Region.wanted
    cases hgd : r.o.guard with
    | none => rfl
    | some q =>
      obtain ⟨g, b⟩ := q
      simp only [hgd] at hg ⊢
      rw [hf.yielded g hg]
  by_cases hwant : r.want = true
  · rw [if_pos (by rw [hy]; exact hwant)]
    obtain ⟨h1, h2⟩ := hp.2 hwant
    obtain ⟨hnt, hgd⟩ := hg.1 hwant
    have hG := hgd h h2 D ρ w a hlo (fun x hx => by rw [← h1 x hx]; exact hf.eval (hg.2.2 x hx) (by rw [h1 x hx]; exact hnt x hx)) hw hn
    refine wp_of_givesR hG fun u w' ⟨D', ρ', hT, hV, hD'⟩ => ?_
    exact hK D' ρ' _ _ hT ((hf.mono hT.sub hT.same).put hV) hD'
  · rw [if_neg (by rw [hy]; exact hwant)]
    have hd := hg.2.1 (by simpa using hwant)
    refine ⟨fun _ _ => trivial, hK D ρ _ _ ?_ ?_ (fun b hb => .inl hb)⟩
    · unfold Rec.hOut
      rw [hd]
      exact T.refl hw
    · unfold Rec.frOut
      rw [hd]
      exact hf.put .und
/-- In the order of the text. -/
theorem in_orderR {base : Nat} {fr' : List Value} {h' : HF} {Q : Exit → Act → World → Prop} {D0 : Nat → Prop} {ρ0 : Nat → Pl} {h0 : HF} {w0 : World}
    (hlo : lo = base + 64 * ops.size)
    (hQ : ∀ D' ρ' a' w', T (szP P) D0 ρ0 h0 w0 D' ρ' h' w' → FR ds D' ρ' fr' a' → (∀ b, D' b → b < lo) → (∀ b, D' b → D0 b ∨ base ≤ b) → Q .normal a' w') :
    ∀ (L : List Rec) (D : Nat → Prop) (ρ : Nat → Pl) (fr : List Value) (h : HF) (a : Act) (w : World),
      Recs P ops lo base L → Chain ops L fr h fr' h' → InUse lo base L D → FR ds D ρ fr a → T (szP P) D0 ρ0 h0 w0 D ρ h w → (∀ b, D b → D0 b ∨ base ≤ b) →
      wpOpsIn (Fence.wide.inRound l) n P ops Q (L.map (·.i)) a w
  | [], D, ρ, fr, h, a, w, hR, hch, hu, hf, hT, hab => by
    cases hch
    exact hQ D ρ a w hT hf (hu.below (by omega)) hab
  | s :: L, D, ρ, fr, h, a, w, hR, hch, hu, hf, hT, hab => by
    simp only [List.map_cons]
    rw [wpOpsIn_cons]
    cases hch with
    | cons _ _ _ _ _ _ hp hc =>
      refine Rec.wpR (hR.good s (by simp)) hp (hR.op s (by simp)) (hu.below (by omega)) hf hT.wr (hu.fresh hR (by simp)) fun D' ρ' a' w' hT' hf' hD' => ?_
      refine in_orderR hlo hQ L D' ρ' _ _ a' w' (Recs.less (L1 := []) hR) hc (InUse.step (L1 := []) hu hR hlo hD') hf' (hT.trans hT') (fun b hb => ?_)
      rcases hD' b hb with h2 | h2
      · exact hab b h2
      · have := hR.num s (by simp) b h2
        exact .inr (by omega)
end
section
variable {l n : Nat} {ds : List Deferred} {P : Program} {call : CallF} {ω : Orc} {ops : Array Oper} {base lo : Nat}
theorem region_wpR (hc : CallSpec P call) {id : Nat} {draw : Bool} {D : Nat → Prop} {ρ : Nat → Pl} {fr fr' : List Value} {H H' : Heap} {a : Act} {w : World} {g : Log} {ps : List Prop} {Q : Exit → Act → World → Prop}
    (hs : seqOps P call ω ops base (base + 64 * ops.size) ops.toList 0 fr H = some (g, fr', H', ps)) (hps : Ob ps) (hd : draw = false)
    (hb : ∀ b, D b → b < base) (hf : FR ds D ρ fr a) (hw : WR (szP P) D ρ (hget H) w)
    (hQ : ∀ D' ρ' a' w', T (szP P) D ρ (hget H) w D' ρ' (hget H') w' → FR ds D' ρ' fr' a' → (∀ b, D' b → b < base + 64 * ops.size) → (∀ b, D' b → D b ∨ base ≤ b) → Q .normal a' w') : (Code.region id ops draw).wpIn (Fence.wide.inRound l) n P Q a w := by
  obtain ⟨L, e1, e2, e3, e4⟩ := seqOps_spec hc ops.toList 0 fr H g fr' H' ps (fun i => by simp) hs hps
  subst hd
  refine wpIn_region ?_
  rw [List.range_eq_range', ← Array.length_toList, ← e2]
  exact in_orderR rfl hQ L D ρ fr _ a w e4 e3 (fun b hb' => .inl (hb b hb')) hf (T.refl hw) (fun b hb' => .inl hb')
end
/-- From this state the code, in a round of the record l, ends in that one. -/
def CodeOKR (l n : Nat) (P : Program) (c : Code) (fr : List Value) (H : Heap) (nx : Nat) (o : Out) : Prop :=
  ∀ ⦃ds : List Deferred⦄ (D : Nat → Prop) (ρ : Nat → Pl) (a : Act) (w : World), (∀ b, D b → b < nx) → FR ds D ρ fr a → WR (szP P) D ρ (hget H) w → c.wpIn (Fence.wide.inRound l) n P (fun e a' w' => e = o.ax.to ∧ CP ds P D ρ H w nx o a' w') a w
def aCodeSR (l n : Nat) (P : Program) (call : CallF) (ω : Orc) (LF : Nat) (rec : CodeF) : CodeF := fun c fr H nx =>
  match c with
  | .skip => some ⟨.normal, fr, H, nx, []⟩
  | .label _ => some ⟨.normal, fr, H, nx, []⟩
  | .region _ ops draw => match seqOps P call ω ops nx (nx + 64 * ops.size) ops.toList 0 fr H with
    | some (g, fr', H', ps) => if !draw then some ⟨.normal, fr', H', nx + 64 * ops.size, ps⟩ else none
    | none => none
  | .seq x y => match rec x fr H nx with
    | some ⟨.normal, fr', H', nx', ps⟩ => match lk ω (nx' + 2) with
      | some (.loop keys ax fr2 H2 nx2) => some ⟨ax, fr2, H2, nx2, CodeOKR l n P y (forgetF keys fr' 0) (gcH (forgetF keys fr' 0) H') nx' ⟨ax, fr2, H2, nx2, []⟩ :: ps⟩
      | _ => (rec y fr' H' nx').map fun o => o.owe ps
    | r => r
  | .cond c x y => if okX c then match evF fr c with
    | .bool true => rec x fr H nx
    | .bool false => rec y fr H nx
    | _ => none
    else none
  | .block id x => match rec x fr H nx with
    | some ⟨.exit i, fr', H', nx', ps⟩ => if i = id then some ⟨.normal, fr', H', nx', ps⟩ else some ⟨.exit i, fr', H', nx', ps⟩
    | r => r
  | .loop x => match lk ω (nx + 1) with
    | some (.loop keys ax fr' H' nx') => some ⟨ax, fr', H', nx', [CodeOKR l n P (.loop x) (forgetF keys fr 0) (gcH (forgetF keys fr 0) H) nx ⟨ax, fr', H', nx', []⟩]⟩
    | _ => aLoop (rec x) LF fr H nx
  | .exit id => some ⟨.exit id, fr, H, nx, []⟩
  | .ret => some ⟨.ret, fr, H, nx, []⟩
  | _ => none
def aCodeR (l n : Nat) (P : Program) (call : CallF) (ω : Orc) (LF : Nat) : Nat → CodeF
  | 0 => fun _ _ _ _ => none
  | k + 1 => aCodeSR l n P call ω LF (aCodeR l n P call ω LF k)


def BodyR (l n : Nat) (P : Program) (c : Code) (f : List Value → Heap → Nat → Option Out) : Prop :=
  ∀ fr H nx o, f fr H nx = some o → Ob o.ob → ∀ ⦃ds : List Deferred⦄ (D : Nat → Prop) (ρ : Nat → Pl) (a : Act) (w : World), (∀ b, D b → b < nx) → FR ds D ρ fr a → WR (szP P) D ρ (hget H) w →
    c.wpIn (Fence.wide.inRound l) n P (fun e a' w' => e = o.ax.to ∧ CP ds P D ρ H w nx o a' w') a w
def CodeSpecR (l n : Nat) (P : Program) (f : CodeF) : Prop := ∀ c, BodyR l n P c (f c)
section
variable {l n : Nat} {ds : List Deferred} {P : Program} {call : CallF} {D D' : Nat → Prop} {ρ ρ' : Nat → Pl} {H H' : Heap} {w w' : World} {h h' : HF}
theorem loop_specR {c : Code} {body : List Value → Heap → Nat → Option Out} (hb : BodyR l n P c body) : ∀ (m : Nat) (fr : List Value) (H : Heap) (nx : Nat) (o : Out), aLoop body m fr H nx = some o → Ob o.ob →
    ∀ (D : Nat → Prop) (ρ : Nat → Pl) (a : Act) (w : World), (∀ b, D b → b < nx) → FR ds D ρ fr a → WR (szP P) D ρ (hget H) w → Code.roundsIn (Fence.wide.inRound l) n P c (fun e a' w' => e = o.ax.to ∧ CP ds P D ρ H w nx o a' w') m a w
  | 0, _, _, _, _, h, _, _, _, _, _, _, _, _ => by cases h
  | m + 1, fr, H, nx, o, h, hob, D, ρ, a, w, hlt, hf, hw => by
    simp only [aLoop] at h
    split at h
    · rename_i fr' H' nx' ps hbo
      obtain ⟨o2, h2, rfl⟩ := Option.map_eq_some_iff.1 h
      clear h
      have h := h2
      refine wpIn_mono (hb _ _ _ _ hbo hob.left D ρ a w hlt hf hw) ?_
      rintro e a1 w1 ⟨rfl, hcp⟩
      show Code.roundsIn (Fence.wide.inRound l) n P c _ m a1 w1
      obtain ⟨l1, D1, ρ1, t1, f1, b1, c1⟩ := hcp
      have hH : ∀ b k, hget (gcH fr' H') b = some k → hget H' b = some k := fun b k => hget_restrict
      have := loop_specR hb m fr' (gcH fr' H') nx' o2 h hob.right D1 ρ1 a1 w1 b1 f1 (t1.wr.less hH)
      have mono : ∀ (m : Nat) (a : Act) (w' : World) (Q Q' : Exit → Act → World → Prop), (∀ e a w, Q e a w → Q' e a w) → Code.roundsIn (Fence.wide.inRound l) n P c Q m a w' → Code.roundsIn (Fence.wide.inRound l) n P c Q' m a w' := by
        intro m
        induction m with
        | zero => intro a w' Q Q' _ h; exact h
        | succ m ih =>
          intro a w' Q Q' hq h
          refine wpIn_mono h ?_
          intro e a2 w2 h2
          cases e <;> first | exact ih _ _ _ _ hq h2 | exact hq _ _ _ h2
      refine mono m a1 w1 _ _ ?_ this
      rintro e a2 w2 ⟨rfl, hcp2⟩
      refine ⟨rfl, ?_⟩
      obtain ⟨l2, D2, ρ2, t2, f2, b2, c2⟩ := hcp2
      refine ⟨Nat.le_trans l1 l2, D2, ρ2, (t1.trans (T.less t1.wr hH)).trans t2, f2, b2, fun b hb => ?_⟩
      rcases c2 b hb with h | h
      · exact c1 b h
      · exact .inr (Nat.le_trans l1 h)
    · rename_i r hne
      refine wpIn_mono (hb _ _ _ _ h hob D ρ a w hlt hf hw) ?_
      rintro e a1 w1 ⟨rfl, hcp⟩
      cases hax : o.ax with
      | normal =>
        obtain ⟨ax, f1, H1, n1, p1⟩ := o
        simp only at hax
        subst hax
        exact absurd h (hne _ _ _ _)
      | ret => simp only [hax, AX.to] at hcp ⊢; exact ⟨by trivial, hcp⟩
      | exit id => simp only [hax, AX.to] at hcp ⊢; exact ⟨by trivial, hcp⟩

theorem codeS_specR (hc : CallSpec P call) {ω : Orc} {LF : Nat} {rec : CodeF} (hr : CodeSpecR l n P rec) : CodeSpecR l n P (aCodeSR l n P call ω LF rec) := by
  intro c fr H nx o h hob ds D ρ a w hlt hf hw
  have here : CP ds P D ρ H w nx ⟨.normal, fr, H, nx, []⟩ a w := ⟨Nat.le_refl _, D, ρ, T.refl hw, hf, hlt, fun b hb => .inl hb⟩
  unfold aCodeSR at h
  split at h
  · cases h; exact wpIn_skip ⟨rfl, here⟩
  · cases h; exact wpIn_label ⟨rfl, here⟩
  · rename_i id ops draw
    split at h
    case h_2 => cases h
    rename_i g fr' H' ps hs
    split at h
    case isFalse => cases h
    rename_i hd
    cases h
    refine region_wpR hc (draw := draw) hs hob (by cases draw <;> simp_all) hlt hf hw fun D' ρ' a' w' hT hf' hb hab => ⟨rfl, ⟨Nat.le_add_right _ _, D', ρ', hT, hf', hb, hab⟩⟩
  · rename_i x y
    refine wpIn_seq ?_
    split at h
    · rename_i fr' H' nx' ps hx
      split at h
      · rename_i keys ax2 fr2 H2 nx2 _
        cases h
        have hL := hob _ (List.mem_cons_self ..)
        have hob' : Ob ps := fun p hp => hob p (List.mem_cons_of_mem _ hp)
        have hsub : ∀ b k, hget (gcH (forgetF keys fr' 0) H') b = some k → hget H' b = some k := fun b k => hget_restrict
        refine wpIn_mono (hr x _ _ _ _ hx hob' D ρ a w hlt hf hw) ?_
        rintro e a1 w1 ⟨rfl, hcp⟩
        show y.wpIn (Fence.wide.inRound l) n P _ a1 w1
        obtain ⟨l1, D1, ρ1, t1, f1, b1, c1⟩ := hcp
        refine wpIn_mono (hL D1 ρ1 a1 w1 b1 f1.forget (t1.wr.less hsub)) ?_
        rintro e a2 w2 ⟨rfl, l2, D2, ρ2, t2, f2, b2, c2⟩
        refine ⟨rfl, Nat.le_trans l1 l2, D2, ρ2, (t1.trans (T.less t1.wr hsub)).trans t2, f2, b2, fun b hb => ?_⟩
        rcases c2 b hb with h | h
        · exact c1 b h
        · exact .inr (Nat.le_trans l1 h)
      · obtain ⟨o2, h2, rfl⟩ := Option.map_eq_some_iff.1 h
        clear h
        have h := h2
        refine wpIn_mono (hr x _ _ _ _ hx hob.left D ρ a w hlt hf hw) ?_
        rintro e a1 w1 ⟨rfl, hcp⟩
        show y.wpIn (Fence.wide.inRound l) n P _ a1 w1
        obtain ⟨l1, D1, ρ1, t1, f1, b1, c1⟩ := hcp
        refine wpIn_mono (hr y _ _ _ _ h hob.right D1 ρ1 a1 w1 b1 f1 t1.wr) ?_
        rintro e a2 w2 ⟨rfl, l2, D2, ρ2, t2, f2, b2, c2⟩
        refine ⟨rfl, Nat.le_trans l1 l2, D2, ρ2, t1.trans t2, f2, b2, fun b hb => ?_⟩
        rcases c2 b hb with h | h
        · exact c1 b h
        · exact .inr (Nat.le_trans l1 h)
    · rename_i r hne
      refine wpIn_mono (hr x _ _ _ _ h hob D ρ a w hlt hf hw) ?_
      rintro e a1 w1 ⟨rfl, hcp⟩
      cases hax : o.ax with
      | normal =>
        obtain ⟨ax, f1, H1, n1, p1⟩ := o
        simp only at hax
        subst hax
        exact absurd h (hne _ _ _ _)
      | ret => simp only [hax, AX.to] at hcp ⊢; exact ⟨by trivial, hcp⟩
      | exit id => simp only [hax, AX.to] at hcp ⊢; exact ⟨by trivial, hcp⟩
  · rename_i c x y
    split at h
    case isFalse => cases h
    rename_i hok
    have hv := hf.eval hok
    split at h
    · rename_i hb
      have hv := hv (by rw [hb]; rfl)
      rw [hb] at hv
      exact wpIn_cond_true hv.bool_inv (hr x _ _ _ _ h hob D ρ a w hlt hf hw)
    · rename_i hb
      have hv := hv (by rw [hb]; rfl)
      rw [hb] at hv
      exact wpIn_cond_false hv.bool_inv (hr y _ _ _ _ h hob D ρ a w hlt hf hw)
    · cases h
  · rename_i id x
    refine wpIn_block ?_
    split at h
    · rename_i i fr' H' nx' ps hx
      have hob' : Ob ps := by
        split at h <;> cases h <;> exact hob
      refine wpIn_mono (hr x _ _ _ _ hx hob' D ρ a w hlt hf hw) ?_
      rintro e a1 w1 ⟨rfl, hcp⟩
      simp only [AX.to, Exit.inBlock]
      split at h
      · rename_i hi
        cases h
        rw [if_pos hi]
        exact ⟨rfl, hcp.le, hcp.ex⟩
      · rename_i hi
        cases h
        rw [if_neg hi]
        exact ⟨rfl, hcp⟩
    · rename_i r hne
      refine wpIn_mono (hr x _ _ _ _ h hob D ρ a w hlt hf hw) ?_
      rintro e a1 w1 ⟨rfl, hcp⟩
      cases hax : o.ax with
      | normal => simp only [hax, AX.to, Exit.inBlock] at hcp ⊢; exact ⟨by trivial, hcp⟩
      | ret => simp only [hax, AX.to, Exit.inBlock] at hcp ⊢; exact ⟨by trivial, hcp⟩
      | exit id =>
        obtain ⟨ax, f1, H1, n1, p1⟩ := o
        simp only at hax
        subst hax
        exact absurd h (hne _ _ _ _ _)
  · rename_i x
    split at h
    · rename_i keys ax2 fr2 H2 nx2 _
      cases h
      have hL := hob _ (List.mem_singleton.2 rfl)
      have hsub : ∀ b k, hget (gcH (forgetF keys fr 0) H) b = some k → hget H b = some k := fun b k => hget_restrict
      refine wpIn_mono (hL D ρ a w hlt hf.forget (hw.less hsub)) ?_
      rintro e a1 w1 ⟨rfl, l1, D1, ρ1, t1, f1, b1, c1⟩
      exact ⟨rfl, l1, D1, ρ1, (T.less hw hsub).trans t1, f1, b1, c1⟩
    · exact wpIn_loop_rounds LF (loop_specR (hr x) LF fr H nx o h hob D ρ a w hlt hf hw)
  · cases h; exact wpIn_exit ⟨rfl, here.le, here.ex⟩
  · cases h; exact wpIn_ret ⟨rfl, here.le, here.ex⟩
  · cases h
theorem code_specR (hc : CallSpec P call) {ω : Orc} {LF : Nat} : ∀ k, CodeSpecR l n P (aCodeR l n P call ω LF k)
  | 0 => fun c fr H nx o h => by cases h
  | k + 1 => codeS_specR hc (code_specR hc k)

end
section
variable {l n : Nat} {ds : List Deferred} {P : Program} {call : CallF} {D D0 D1 D2 : Nat → Prop} {ρ ρ0 ρ1 ρ2 : Nat → Pl} {H H0 H1 H2 : Heap} {w w1 : World} {r : Nat → Option Nat}
/-- As RoundTo, all blocks that are kept given anew numbers from nx0 on. -/
def RoundToR (l n : Nat) (P : Program) (call : CallF) (LF F : Nat) (x : Code) (nx0 nxb : Nat) (keys : List Nat) (ax : AX) (fr : List Value) (H : Heap) (fr2 : List Value) (H2 : Heap) (nx2 : Nat) : Prop :=
  ∃ ω S o1, aCodeR l n P call ω LF F x fr H nxb = some o1 ∧ Ob o1.ob ∧ o1.ax = ax ∧ normK (idxAt S nx0) keys o1.fr 0 = some fr2 ∧ renHeap (idxAt S nx0) (pickH o1.hp S) = some H2 ∧ no2 H2 = true ∧ nx0 + S.length ≤ nx2
def roundVR (S : List Nat) (nx0 : Nat) (keys : List Nat) (r : Option Out) : Option (AX × List Value × Heap × Bool × List Prop) :=
  match r with
  | some o => match normK (idxAt S nx0) keys o.fr 0, renHeap (idxAt S nx0) (pickH o.hp S) with
    | some f, some h => some (o.ax, f, h, no2 h, o.ob)
    | _, _ => none
  | none => none
theorem roundToR_of {LF F : Nat} {x : Code} {nx0 nxb : Nat} {keys : List Nat} {ax : AX} {fr : List Value} {H : Heap} {fr2 : List Value} {H2 : Heap} {nx2 : Nat} (ω : Orc) (S : List Nat) {ps : List Prop}
    (h : roundVR S nx0 keys (aCodeR l n P call ω LF F x fr H nxb) = some (ax, fr2, H2, true, ps)) (hp : Ob ps) (hS : nx0 + S.length ≤ nx2) : RoundToR l n P call LF F x nx0 nxb keys ax fr H fr2 H2 nx2 := by
  unfold roundVR at h
  split at h
  · rename_i o ho
    split at h
    · rename_i f hh h1 h2
      simp only [Option.some.injEq, Prod.mk.injEq] at h
      obtain ⟨e1, e2, e3, e4, e5⟩ := h
      subst e1 e2 e3 e5
      exact ⟨ω, S, o, ho, hp, rfl, h1, h2, e4, hS⟩
    · cases h
  · cases h
/-- A loop whose first state is given the numbers from nx0 on. -/
theorem loop_indR (hc : CallSpec P call) {LF F : Nat} {x : Code} (N : Nat) (st : Nat → List Value) (hp : Nat → Heap) {nx0 nxb : Nat} {keys keysE : List Nat} {fr0 : List Value} {o : Out} (hnx : nx0 ≤ nxb) (hnxo : nx0 ≤ o.nx) (hob : o.ob = [])
    {S0 : List Nat} (hs0 : normK (idxAt S0 nx0) keys fr0 0 = some (st 0)) (hh0 : renHeap (idxAt S0 nx0) (pickH H0 S0) = some (hp 0)) (hn0 : no2 (hp 0) = true) (hl0 : nx0 + S0.length ≤ nxb)
    (hround : ∀ k, k < N → RoundToR l n P call LF F x nx0 nxb keys .normal (st k) (hp k) (st (k + 1)) (hp (k + 1)) nxb)
    (hlast : RoundToR l n P call LF F x nx0 nxb keysE o.ax (st N) (hp N) o.fr o.hp o.nx) (hax : o.ax ≠ .normal) : CodeOKR l n P (.loop x) fr0 H0 nx0 o := by
  intro ds D ρ a w hlt hf hw
  have key : ∀ m k ak wk, k + m = N → (∃ Dk ρk, T (szP P) D ρ (hget H0) w Dk ρk (hget (hp k)) wk ∧ FR ds Dk ρk (st k) ak ∧ (∀ b, Dk b → b < nxb) ∧ ∀ b, Dk b → D b ∨ nx0 ≤ b) →
      Code.roundsIn (Fence.wide.inRound l) n P x (fun e a' w' => e = o.ax.to ∧ CP ds P D ρ H0 w nx0 o a' w') (m + 1) ak wk := by
    intro m
    induction m with
    | zero =>
      rintro k ak wk hk ⟨Dk, ρk, t1, f1, b1, c1⟩
      obtain rfl : k = N := by omega
      obtain ⟨ω, S, o1, e1, e2, e3, e4, e5, e7, e6⟩ := hlast
      refine wpIn_mono (code_specR hc F x _ _ _ _ e1 e2 Dk ρk ak wk b1 f1 t1.wr) ?_
      rintro e a2 w2 ⟨rfl, l2, D2, ρ2, t2, f2, b2, c2⟩
      obtain ⟨D3, ρ3, t3, f3, b3, c3⟩ := norm_state2 hw hlt (t1.trans t2) f2 e4 e5 e7
      rw [e3]
      have fin : CP ds P D ρ H0 w nx0 o a2 w2 := ⟨hnxo, D3, ρ3, t3, f3, fun b hb => by have := b3 b hb; omega, c3⟩
      cases hx : o.ax with
      | normal => exact absurd hx hax
      | ret => exact ⟨rfl, fin⟩
      | exit id => exact ⟨rfl, fin⟩
    | succ m ih =>
      rintro k ak wk hk ⟨Dk, ρk, t1, f1, b1, c1⟩
      obtain ⟨ω, S, o1, e1, e2, e3, e4, e5, e7, e6⟩ := hround k (by omega)
      refine wpIn_mono (code_specR hc F x _ _ _ _ e1 e2 Dk ρk ak wk b1 f1 t1.wr) ?_
      rintro e a2 w2 ⟨rfl, l2, D2, ρ2, t2, f2, b2, c2⟩
      rw [e3]
      show Code.roundsIn (Fence.wide.inRound l) n P x _ (m + 1) a2 w2
      obtain ⟨D3, ρ3, t3, f3, b3, c3⟩ := norm_state2 hw hlt (t1.trans t2) f2 e4 e5 e7
      exact ih (k + 1) a2 w2 (by omega) ⟨D3, ρ3, t3, f3, fun b hb => by have := b3 b hb; omega, c3⟩
  obtain ⟨D3, ρ3, t3, f3, b3, c3⟩ := norm_state2 hw hlt (T.refl hw) hf hs0 hh0 hn0
  exact wpIn_loop_rounds (N + 1) (key N 0 a w (by omega) ⟨D3, ρ3, t3, f3, fun b hb => by have := b3 b hb; omega, c3⟩)
theorem loop_invR (hc : CallSpec P call) {LF F : Nat} {x : Code} {S : Type} (N : Nat) (Inv : Nat → S → Prop) (st : Nat → S → List Value) (hp : Nat → S → Heap) (stE : S → List Value) (hpE : S → Heap)
    {nx0 nxb nx2 : Nat} {keys keysE : List Nat} {ax : AX} {fr0 : List Value} (S0 : List Nat) (s0 : S) (h0 : Inv 0 s0) (hs0 : normK (idxAt S0 nx0) keys fr0 0 = some (st 0 s0)) (hh0 : renHeap (idxAt S0 nx0) (pickH H0 S0) = some (hp 0 s0)) (hn0 : no2 (hp 0 s0) = true) (hl0 : nx0 + S0.length ≤ nxb)
    (hnx : nx0 ≤ nxb) (hnxo : nx0 ≤ nx2) (hax : ax ≠ .normal)
    (hround : ∀ k s, k < N → Inv k s → ∃ s', Inv (k + 1) s' ∧ RoundToR l n P call LF F x nx0 nxb keys .normal (st k s) (hp k s) (st (k + 1) s') (hp (k + 1) s') nxb)
    (hlast : ∀ s, Inv N s → RoundToR l n P call LF F x nx0 nxb keysE ax (st N s) (hp N s) (stE s) (hpE s) nx2) :
    ∃ s, Inv N s ∧ CodeOKR l n P (.loop x) fr0 H0 nx0 ⟨ax, stE s, hpE s, nx2, []⟩ := by
  obtain ⟨f, e0, e1, e2⟩ := seq_inv N Inv _ s0 h0 hround
  refine ⟨f N, e1 N (Nat.le_refl _), ?_⟩
  exact loop_indR hc (LF := LF) (F := F) (x := x) (nx0 := nx0) (nxb := nxb) (keys := keys) (keysE := keysE) (o := ⟨ax, stE (f N), hpE (f N), nx2, []⟩) N (fun k => st k (f k)) (fun k => hp k (f k)) hnx hnxo rfl
    (by rw [e0]; exact hs0) (by rw [e0]; exact hh0) (by rw [e0]; exact hn0) hl0 e2 (hlast _ (e1 N (Nat.le_refl _))) hax
/-- A round from this state leads to that one. -/
def RoundToO (l n : Nat) (P : Program) (call : CallF) (LF F : Nat) (x : Code) (nx0 nxb : Nat) (keys : List Nat) (ax : AX) (fr : List Value) (H : Heap) (fr2 : List Value) (H2 : Heap) (nx2 : Nat) : Prop :=
  ∃ ω S o1, aCodeR l n P call ω LF F x fr H nxb = some o1 ∧ Ob o1.ob ∧ o1.ax = ax ∧ normK (renOf S nx0 nx0) keys o1.fr 0 = some fr2 ∧ renHeap (renOf S nx0 nx0) (gcH (forgetF keys o1.fr 0) o1.hp) = some H2 ∧ nx0 + S.length ≤ nx2

theorem loop_indO (hc : CallSpec P call) {LF F : Nat} {x : Code} (N : Nat) (st : Nat → List Value) (hp : Nat → Heap) {nx0 nxb : Nat} {keys keysE : List Nat} {o : Out} (hnx : nx0 ≤ nxb) (hnxo : nx0 ≤ o.nx) (hob : o.ob = [])
    (hround : ∀ k, k < N → RoundToO l n P call LF F x nx0 nxb keys .normal (st k) (hp k) (st (k + 1)) (hp (k + 1)) nxb)
    (hlast : RoundToO l n P call LF F x nx0 nxb keysE o.ax (st N) (hp N) o.fr o.hp o.nx) (hax : o.ax ≠ .normal) : CodeOKR l n P (.loop x) (st 0) (hp 0) nx0 o := by
  intro ds D ρ a w hlt hf hw
  have key : ∀ m k ak wk, k + m = N → (∃ Dk ρk, T (szP P) D ρ (hget (hp 0)) w Dk ρk (hget (hp k)) wk ∧ FR ds Dk ρk (st k) ak ∧ (∀ b, Dk b → b < nxb) ∧ ∀ b, Dk b → D b ∨ nx0 ≤ b) →
      Code.roundsIn (Fence.wide.inRound l) n P x (fun e a' w' => e = o.ax.to ∧ CP ds P D ρ (hp 0) w nx0 o a' w') (m + 1) ak wk := by
    intro m
    induction m with
    | zero =>
      rintro k ak wk hk ⟨Dk, ρk, t1, f1, b1, c1⟩
      obtain rfl : k = N := by omega
      obtain ⟨ω, S, o1, e1, e2, e3, e4, e5, e6⟩ := hlast
      refine wpIn_mono (code_specR hc F x _ _ _ _ e1 e2 Dk ρk ak wk b1 f1 t1.wr) ?_
      rintro e a2 w2 ⟨rfl, l2, D2, ρ2, t2, f2, b2, c2⟩
      obtain ⟨D3, ρ3, t3, f3, b3, c3⟩ := norm_state hw hlt ((t1.trans t2).trans (T.less (t1.trans t2).wr fun b k => hget_restrict)) f2 (fun b hb => by
        rcases c2 b hb with h | h
        · exact c1 b h
        · exact .inr (by omega)) e4 e5
      rw [e3]
      have fin : CP ds P D ρ (hp 0) w nx0 o a2 w2 := ⟨hnxo, D3, ρ3, t3, f3, fun b hb => by have := b3 b hb; omega, c3⟩
      cases hx : o.ax with
      | normal => exact absurd hx hax
      | ret => exact ⟨rfl, fin⟩
      | exit id => exact ⟨rfl, fin⟩
    | succ m ih =>
      rintro k ak wk hk ⟨Dk, ρk, t1, f1, b1, c1⟩
      obtain ⟨ω, S, o1, e1, e2, e3, e4, e5, e6⟩ := hround k (by omega)
      refine wpIn_mono (code_specR hc F x _ _ _ _ e1 e2 Dk ρk ak wk b1 f1 t1.wr) ?_
      rintro e a2 w2 ⟨rfl, l2, D2, ρ2, t2, f2, b2, c2⟩
      rw [e3]
      show Code.roundsIn (Fence.wide.inRound l) n P x _ (m + 1) a2 w2
      obtain ⟨D3, ρ3, t3, f3, b3, c3⟩ := norm_state hw hlt ((t1.trans t2).trans (T.less (t1.trans t2).wr fun b k => hget_restrict)) f2 (fun b hb => by
        rcases c2 b hb with h | h
        · exact c1 b h
        · exact .inr (by omega)) e4 e5
      exact ih (k + 1) a2 w2 (by omega) ⟨D3, ρ3, t3, f3, fun b hb => by have := b3 b hb; omega, c3⟩
  refine wpIn_loop_rounds (N + 1) (key N 0 a w (by omega) ?_)
  exact ⟨D, ρ, T.refl hw, hf, fun b hb => by have := hlt b hb; omega, fun b hb => .inl hb⟩

def roundVO (S : List Nat) (nx0 : Nat) (keys : List Nat) (r : Option Out) : Option (AX × List Value × Heap × List Prop) :=
  match r with
  | some o => match normK (renOf S nx0 nx0) keys o.fr 0, renHeap (renOf S nx0 nx0) (gcH (forgetF keys o.fr 0) o.hp) with
    | some f, some h => some (o.ax, f, h, o.ob)
    | _, _ => none
  | none => none
theorem roundToO_of {LF F : Nat} {x : Code} {nx0 nxb : Nat} {keys : List Nat} {ax : AX} {fr : List Value} {H : Heap} {fr2 : List Value} {H2 : Heap} {nx2 : Nat} (ω : Orc) (S : List Nat) {ps : List Prop}
    (h : roundVO S nx0 keys (aCodeR l n P call ω LF F x fr H nxb) = some (ax, fr2, H2, ps)) (hp : Ob ps) (hS : nx0 + S.length ≤ nx2) : RoundToO l n P call LF F x nx0 nxb keys ax fr H fr2 H2 nx2 := by
  unfold roundVO at h
  split at h
  · rename_i o ho
    split at h
    · rename_i f hh h1 h2
      cases h
      exact ⟨ω, S, o, ho, hp, rfl, h1, h2, hS⟩
    · cases h
  · cases h
end
end Go.Proofs.Ytpdfpnfnlikjfaa
