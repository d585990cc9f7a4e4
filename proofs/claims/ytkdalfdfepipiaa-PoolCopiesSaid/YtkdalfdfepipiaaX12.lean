/-
  The engine, twelfth part: code, functions; what it says of a call.
-/
import Derived.Test.YtkdalfdfepipiaaX11
namespace Go.Proofs.Ytkdalfdfepipiaa
set_option linter.unusedSectionVars false
open Go.RowKit
set_option linter.unusedVariables false
section
variable [Inhabited RawG]

def AX.to : AX → Exit
  | .normal => .normal
  | .ret => .ret
  | .exit id => .exit id
structure Out where
  ax : AX
  fr : List Value
  hp : Heap
  nx : Nat
  ob : List Prop
abbrev CodeF := Code → List Value → Heap → Nat → Option Out
structure CP (ds : List Deferred) (P : Program) (D : Nat → Prop) (ρ : Nat → Pl) (H : Heap) (w : World) (nx : Nat) (o : Out) (a' : Act) (w' : World) : Prop where
  le : nx ≤ o.nx
  ex : ∃ D' ρ', T (szP P) D ρ (hget H) w D' ρ' (hget o.hp) w' ∧ FR ds D' ρ' o.fr a' ∧ (∀ b, D' b → b < o.nx) ∧ ∀ b, D' b → D b ∨ nx ≤ b
/-- From this state the loop ends in that one. -/
def LoopOK (P : Program) (x : Code) (fr : List Value) (H : Heap) (nx : Nat) (o : Out) : Prop :=
  ∀ ⦃ds : List Deferred⦄ (D : Nat → Prop) (ρ : Nat → Pl) (a : Act) (w : World), (∀ b, D b → b < nx) → FR ds D ρ fr a → WR (szP P) D ρ (hget H) w → (Code.loop x).wp P (fun e a' w' => e = o.ax.to ∧ CP ds P D ρ H w nx o a' w') a w
/-- From this state the code ends in that one. -/
def CodeOK (P : Program) (c : Code) (fr : List Value) (H : Heap) (nx : Nat) (o : Out) : Prop :=
  ∀ ⦃ds : List Deferred⦄ (D : Nat → Prop) (ρ : Nat → Pl) (a : Act) (w : World), (∀ b, D b → b < nx) → FR ds D ρ fr a → WR (szP P) D ρ (hget H) w → c.wp P (fun e a' w' => e = o.ax.to ∧ CP ds P D ρ H w nx o a' w') a w
/-- All slots but some are forgotten. -/
def forgetF (keys : List Nat) : List Value → Nat → List Value
  | [], _ => []
  | v :: t, i => (if memN i keys then v else topV) :: forgetF keys t (i + 1)
theorem forgetF_spec {keys : List Nat} : ∀ {fr : List Value} {i : Nat}, (forgetF keys fr i).length = fr.length ∧ ∀ j, (forgetF keys fr i).getD j undef = topV ∨ (forgetF keys fr i).getD j undef = fr.getD j undef
  | [], i => ⟨rfl, fun j => .inr rfl⟩
  | v :: t, i => by
    obtain ⟨h1, h2⟩ := forgetF_spec (keys := keys) (fr := t) (i := i + 1)
    refine ⟨by simp [forgetF, h1], fun j => ?_⟩
    cases j with
    | zero =>
      simp only [forgetF, List.getD_cons_zero]
      split
      · exact .inr rfl
      · exact .inl rfl
    | succ j => simpa [forgetF] using h2 j
theorem FR.forget {ds : List Deferred} {D : Nat → Prop} {ρ : Nat → Pl} {fr : List Value} {a : Act} {keys : List Nat} (hf : FR ds D ρ fr a) : FR ds D ρ (forgetF keys fr 0) a := by
  obtain ⟨h1, h2⟩ := forgetF_spec (keys := keys) (fr := fr) (i := 0)
  refine ⟨by rw [h1]; exact hf.size, fun t ht => ?_, hf.defers⟩
  rcases h2 t with h3 | h3
  · rw [h3] at ht; cases ht
  · rw [h3] at ht ⊢; exact hf.all t ht
def Out.owe (o : Out) (ps : List Prop) : Out := { o with ob := ps ++ o.ob }
def gcH (fr : List Value) (H : Heap) : Heap := restrict H (reach H fuelR (vidsL (vids 4) fr) [])
def aLoop (body : List Value → Heap → Nat → Option Out) : Nat → List Value → Heap → Nat → Option Out
  | 0, _, _, _ => none
  | n + 1, fr, H, nx => match body fr H nx with
    | some ⟨.normal, fr', H', nx', ps⟩ => (aLoop body n fr' (gcH fr' H') nx').map fun o => o.owe ps
    | r => r
def aCodeS (P : Program) (call : CallF) (ω : Orc) (LF : Nat) (rec : CodeF) : CodeF := fun c fr H nx =>
  match c with
  | .skip => some ⟨.normal, fr, H, nx, []⟩
  | .label _ => some ⟨.normal, fr, H, nx, []⟩
  | .region _ ops draw => match seqOps P call ω ops nx (nx + 64 * ops.size) ops.toList 0 fr H with
    | some (g, fr', H', ps) => if !draw || okDraw ops g then some ⟨.normal, fr', H', nx + 64 * ops.size, ps⟩ else none
    | none => none
  | .seq x y => match rec x fr H nx with
    | some ⟨.normal, fr', H', nx', ps⟩ => match lk ω (nx' + 2) with
      | some (.loop keys ax fr2 H2 nx2) => some ⟨ax, fr2, H2, nx2, CodeOK P y (forgetF keys fr' 0) (gcH (forgetF keys fr' 0) H') nx' ⟨ax, fr2, H2, nx2, []⟩ :: ps⟩
      | _ => (rec y fr' H' nx').map fun o => o.owe ps
    | r => r
  | .cond c x y => if okX c then match evF fr c with
    | .bool true => rec x fr H nx
    | .bool false => rec y fr H nx
    | _ => none
    else none
  | .block id x => match rec x fr H nx with
    | some ⟨.exit i, fr', H', nx', ps⟩ => if i = id then some ⟨.normal, fr', H', nx', ps⟩ else some ⟨.exit i, fr', H', nx', ps⟩
    | r => r
  | .loop x => match lk ω (nx + 1) with
    | some (.loop keys ax fr' H' nx') => some ⟨ax, fr', H', nx', [LoopOK P x (forgetF keys fr 0) (gcH (forgetF keys fr 0) H) nx ⟨ax, fr', H', nx', []⟩]⟩
    | _ => aLoop (rec x) LF fr H nx
  | .scope x => rec x fr H nx
  | .exit id => some ⟨.exit id, fr, H, nx, []⟩
  | .ret => some ⟨.ret, fr, H, nx, []⟩
  | _ => none
def aCode (P : Program) (call : CallF) (ω : Orc) (LF : Nat) : Nat → CodeF
  | 0 => fun _ _ _ _ => none
  | n + 1 => aCodeS P call ω LF (aCode P call ω LF n)

def resV (P : Program) (fr : List Value) (H : Heap) : ResultVar → Option Value
  | .tmp t => if isTop (fr.getD t undef) then none else some (fr.getD t undef)
  | .cell a t => if isTop (fr.getD a undef) then none else match aLoad P (evF fr) H t (.tmp a) with
    | some d => some d.v
    | none => none
def resL (P : Program) (fr : List Value) (H : Heap) : List ResultVar → Option (List Value)
  | [] => some []
  | r :: l => match resV P fr H r, resL P fr H l with
    | some v, some vs => some (v :: vs)
    | _, _ => none
def resO : List Value → Value
  | [v] => v
  | vs => .tuple vs.toArray
def aFuncO (P : Program) (call : CallF) (ω : Orc) (LF F : Nat) (f : FuncId) (args : List Value) (H : Heap) (nx : Nat) : Option (Value × Heap × List Prop) :=
  match P.funcs[f]? with
  | some fn => match fn.body with
    | some c => match aCode P call ω LF F c (args ++ List.replicate (fn.ntmps - args.length) undef) H nx with
      | some ⟨.normal, fr', H', _, ps⟩ => (resL P fr' H' fn.results.toList).map fun vs => (resO vs, H', ps)
      | some ⟨.ret, fr', H', _, ps⟩ => (resL P fr' H' fn.results.toList).map fun vs => (resO vs, H', ps)
      | _ => none
    | none => none
  | none => none
def aFunc (P : Program) (call : CallF) (LF F : Nat) : CallF := fun f args H nx =>
  match aFuncO P call [] LF F f args H nx with
  | some (v, H', []) => some (v, H')
  | _ => none
def aCall (P : Program) (Ψ : CallF) (LF F : Nat) : Nat → CallF
  | 0 => Ψ
  | n + 1 => fun f args H nx => match Ψ f args H nx with
    | some r => some r
    | none => aFunc P (aCall P Ψ LF F n) LF F f args H nx

def resRun (tmps : Array Value) : ResultVar → Sem Value
  | .tmp t => pure (tmps.getD t undef)
  | .cell x t => do loadVar t (← asAddr (tmps.getD x undef))

def Body (P : Program) (c : Code) (f : List Value → Heap → Nat → Option Out) : Prop :=
  ∀ fr H nx o, f fr H nx = some o → Ob o.ob → ∀ ⦃ds : List Deferred⦄ (D : Nat → Prop) (ρ : Nat → Pl) (a : Act) (w : World), (∀ b, D b → b < nx) → FR ds D ρ fr a → WR (szP P) D ρ (hget H) w →
    c.wp P (fun e a' w' => e = o.ax.to ∧ CP ds P D ρ H w nx o a' w') a w
def CodeSpec (P : Program) (f : CodeF) : Prop := ∀ c, Body P c (f c)

section
variable {ds : List Deferred} {P : Program} {call : CallF} {D D' : Nat → Prop} {ρ ρ' : Nat → Pl} {H H' : Heap} {w w' : World} {h h' : HF}

theorem T.less (hw : WR (szP P) D ρ h w) (hl : ∀ b k, h' b = some k → h b = some k) : T (szP P) D ρ h w D ρ h' w :=
  ⟨fun _ h => h, fun _ _ => rfl, hw.less hl, rfl, rfl, rfl, Nat.le_refl _, fun _ _ _ => rfl, fun k ⟨c, l, hc, hm, he⟩ => .inl ⟨c, l, hl c l hc, hm, he⟩, fun c l hc _ => hl c l hc⟩
theorem CP.trans {nx : Nat} {o1 o2 : Out} {a1 a2 : Act} {w1 w2 : World} (h1 : CP ds P D ρ H w nx o1 a1 w1) {H1 : Heap} (hH : ∀ b k, hget H1 b = some k → hget o1.hp b = some k)
    (h2 : ∀ D1 ρ1, (∀ b, D1 b → b < o1.nx) → FR ds D1 ρ1 o1.fr a1 → WR (szP P) D1 ρ1 (hget H1) w1 → CP ds P D1 ρ1 H1 w1 o1.nx o2 a2 w2) : CP ds P D ρ H w nx o2 a2 w2 := by
  obtain ⟨l1, D1, ρ1, t1, f1, b1, c1⟩ := h1
  obtain ⟨l2, D2, ρ2, t2, f2, b2, c2⟩ := h2 D1 ρ1 b1 f1 (t1.wr.less hH)
  refine ⟨Nat.le_trans l1 l2, D2, ρ2, (t1.trans (T.less t1.wr hH)).trans t2, f2, b2, fun b hb => ?_⟩
  rcases c2 b hb with h | h
  · exact c1 b h
  · exact .inr (by omega)

theorem loop_spec {c : Code} {body : List Value → Heap → Nat → Option Out} (hb : Body P c body) : ∀ (n : Nat) (fr : List Value) (H : Heap) (nx : Nat) (o : Out), aLoop body n fr H nx = some o → Ob o.ob →
    ∀ (D : Nat → Prop) (ρ : Nat → Pl) (a : Act) (w : World), (∀ b, D b → b < nx) → FR ds D ρ fr a → WR (szP P) D ρ (hget H) w → Code.rounds P c (fun e a' w' => e = o.ax.to ∧ CP ds P D ρ H w nx o a' w') n a w
  | 0, _, _, _, _, h, _, _, _, _, _, _, _, _ => by cases h
  | n + 1, fr, H, nx, o, h, hob, D, ρ, a, w, hlt, hf, hw => by
    simp only [aLoop] at h
    split at h
    · rename_i fr' H' nx' ps hbo
      obtain ⟨o2, h2, rfl⟩ := Option.map_eq_some_iff.1 h
      clear h
      have h := h2
      refine wp_mono (hb _ _ _ _ hbo hob.left D ρ a w hlt hf hw) ?_
      rintro e a1 w1 ⟨rfl, hcp⟩
      show Code.rounds P c _ n a1 w1
      obtain ⟨l1, D1, ρ1, t1, f1, b1, c1⟩ := hcp
      have hH : ∀ b k, hget (gcH fr' H') b = some k → hget H' b = some k := fun b k => hget_restrict
      have := loop_spec hb n fr' (gcH fr' H') nx' o2 h hob.right D1 ρ1 a1 w1 b1 f1 (t1.wr.less hH)
      have mono : ∀ (m : Nat) (a : Act) (w' : World) (Q Q' : Exit → Act → World → Prop), (∀ e a w, Q e a w → Q' e a w) → Code.rounds P c Q m a w' → Code.rounds P c Q' m a w' := by
        intro m
        induction m with
        | zero => intro a w' Q Q' _ h; exact h
        | succ m ih =>
          intro a w' Q Q' hq h
          refine wp_mono h ?_
          intro e a2 w2 h2
          cases e <;> first | exact ih _ _ _ _ hq h2 | exact hq _ _ _ h2
      refine mono n a1 w1 _ _ ?_ this
      rintro e a2 w2 ⟨rfl, hcp2⟩
      refine ⟨rfl, ?_⟩
      obtain ⟨l2, D2, ρ2, t2, f2, b2, c2⟩ := hcp2
      refine ⟨Nat.le_trans l1 l2, D2, ρ2, (t1.trans (T.less t1.wr hH)).trans t2, f2, b2, fun b hb => ?_⟩
      rcases c2 b hb with h | h
      · exact c1 b h
      · exact .inr (Nat.le_trans l1 h)
    · rename_i r hne
      refine wp_mono (hb _ _ _ _ h hob D ρ a w hlt hf hw) ?_
      rintro e a1 w1 ⟨rfl, hcp⟩
      cases hax : o.ax with
      | normal =>
        obtain ⟨ax, f1, H1, n1, p1⟩ := o
        simp only at hax
        subst hax
        exact absurd h (hne _ _ _ _)
      | ret => simp only [hax, AX.to] at hcp ⊢; exact ⟨by trivial, hcp⟩
      | exit id => simp only [hax, AX.to] at hcp ⊢; exact ⟨by trivial, hcp⟩

theorem codeS_spec (hc : CallSpec P call) (hm : P.follows .mixedOrders = true) {ω : Orc} {LF : Nat} {rec : CodeF} (hr : CodeSpec P rec) : CodeSpec P (aCodeS P call ω LF rec) := by
  intro c fr H nx o h hob ds D ρ a w hlt hf hw
  have here : CP ds P D ρ H w nx ⟨.normal, fr, H, nx, []⟩ a w := ⟨Nat.le_refl _, D, ρ, T.refl hw, hf, hlt, fun b hb => .inl hb⟩
  unfold aCodeS at h
  split at h
  · cases h; exact wp_skip ⟨rfl, here⟩
  · cases h; exact wp_label ⟨rfl, here⟩
  · rename_i id ops draw
    split at h
    case h_2 => cases h
    rename_i g fr' H' ps hs
    split at h
    case isFalse => cases h
    rename_i hd
    cases h
    refine region_wp hc hm hs hob (by cases draw <;> simp_all) hlt hf hw fun D' ρ' a' w' hT hf' hb hab => ⟨rfl, ⟨Nat.le_add_right _ _, D', ρ', hT, hf', hb, hab⟩⟩
  · rename_i x y
    refine wp_seq ?_
    split at h
    · rename_i fr' H' nx' ps hx
      split at h
      · rename_i keys ax2 fr2 H2 nx2 _
        cases h
        have hL := hob _ (List.mem_cons_self ..)
        have hob' : Ob ps := fun p hp => hob p (List.mem_cons_of_mem _ hp)
        have hsub : ∀ b k, hget (gcH (forgetF keys fr' 0) H') b = some k → hget H' b = some k := fun b k => hget_restrict
        refine wp_mono (hr x _ _ _ _ hx hob' D ρ a w hlt hf hw) ?_
        rintro e a1 w1 ⟨rfl, hcp⟩
        show y.wp P _ a1 w1
        obtain ⟨l1, D1, ρ1, t1, f1, b1, c1⟩ := hcp
        refine wp_mono (hL D1 ρ1 a1 w1 b1 f1.forget (t1.wr.less hsub)) ?_
        rintro e a2 w2 ⟨rfl, l2, D2, ρ2, t2, f2, b2, c2⟩
        refine ⟨rfl, Nat.le_trans l1 l2, D2, ρ2, (t1.trans (T.less t1.wr hsub)).trans t2, f2, b2, fun b hb => ?_⟩
        rcases c2 b hb with h | h
        · exact c1 b h
        · exact .inr (Nat.le_trans l1 h)
      · obtain ⟨o2, h2, rfl⟩ := Option.map_eq_some_iff.1 h
        clear h
        have h := h2
        refine wp_mono (hr x _ _ _ _ hx hob.left D ρ a w hlt hf hw) ?_
        rintro e a1 w1 ⟨rfl, hcp⟩
        show y.wp P _ a1 w1
        obtain ⟨l1, D1, ρ1, t1, f1, b1, c1⟩ := hcp
        refine wp_mono (hr y _ _ _ _ h hob.right D1 ρ1 a1 w1 b1 f1 t1.wr) ?_
        rintro e a2 w2 ⟨rfl, l2, D2, ρ2, t2, f2, b2, c2⟩
        refine ⟨rfl, Nat.le_trans l1 l2, D2, ρ2, t1.trans t2, f2, b2, fun b hb => ?_⟩
        rcases c2 b hb with h | h
        · exact c1 b h
        · exact .inr (Nat.le_trans l1 h)
    · rename_i r hne
      refine wp_mono (hr x _ _ _ _ h hob D ρ a w hlt hf hw) ?_
      rintro e a1 w1 ⟨rfl, hcp⟩
      cases hax : o.ax with
      | normal =>
        obtain ⟨ax, f1, H1, n1, p1⟩ := o
        simp only at hax
        subst hax
        exact absurd h (hne _ _ _ _)
      | ret => simp only [hax, AX.to] at hcp ⊢; exact ⟨by trivial, hcp⟩
      | exit id => simp only [hax, AX.to] at hcp ⊢; exact ⟨by trivial, hcp⟩
  · rename_i c x y
    split at h
    case isFalse => cases h
    rename_i hok
    have hv := hf.eval hok
    split at h
    · rename_i hb
      have hv := hv (by rw [hb]; rfl)
      rw [hb] at hv
      exact wp_cond_true hv.bool_inv (hr x _ _ _ _ h hob D ρ a w hlt hf hw)
    · rename_i hb
      have hv := hv (by rw [hb]; rfl)
      rw [hb] at hv
      exact wp_cond_false hv.bool_inv (hr y _ _ _ _ h hob D ρ a w hlt hf hw)
    · cases h
  · rename_i id x
    refine wp_block ?_
    split at h
    · rename_i i fr' H' nx' ps hx
      have hob' : Ob ps := by
        split at h <;> cases h <;> exact hob
      refine wp_mono (hr x _ _ _ _ hx hob' D ρ a w hlt hf hw) ?_
      rintro e a1 w1 ⟨rfl, hcp⟩
      simp only [AX.to, Exit.inBlock]
      split at h
      · rename_i hi
        cases h
        rw [if_pos hi]
        exact ⟨rfl, hcp.le, hcp.ex⟩
      · rename_i hi
        cases h
        rw [if_neg hi]
        exact ⟨rfl, hcp⟩
    · rename_i r hne
      refine wp_mono (hr x _ _ _ _ h hob D ρ a w hlt hf hw) ?_
      rintro e a1 w1 ⟨rfl, hcp⟩
      cases hax : o.ax with
      | normal => simp only [hax, AX.to, Exit.inBlock] at hcp ⊢; exact ⟨by trivial, hcp⟩
      | ret => simp only [hax, AX.to, Exit.inBlock] at hcp ⊢; exact ⟨by trivial, hcp⟩
      | exit id =>
        obtain ⟨ax, f1, H1, n1, p1⟩ := o
        simp only at hax
        subst hax
        exact absurd h (hne _ _ _ _ _)
  · rename_i x
    split at h
    · rename_i keys ax2 fr2 H2 nx2 _
      cases h
      have hL := hob _ (List.mem_singleton.2 rfl)
      have hsub : ∀ b k, hget (gcH (forgetF keys fr 0) H) b = some k → hget H b = some k := fun b k => hget_restrict
      refine wp_mono (hL D ρ a w hlt hf.forget (hw.less hsub)) ?_
      rintro e a1 w1 ⟨rfl, l1, D1, ρ1, t1, f1, b1, c1⟩
      exact ⟨rfl, l1, D1, ρ1, (T.less hw hsub).trans t1, f1, b1, c1⟩
    · exact wp_loop_rounds LF (loop_spec (hr x) LF fr H nx o h hob D ρ a w hlt hf hw)
  · rename_i x
    refine wp_scope_straight (wp_mono (hr x _ _ _ _ h hob D ρ a w hlt hf hw) ?_)
    rintro e a1 w1 ⟨rfl, hcp⟩
    cases hax : o.ax <;> simp only [hax, AX.to] at hcp ⊢ <;> exact ⟨by trivial, hcp⟩
  · cases h; exact wp_exit ⟨rfl, here.le, here.ex⟩
  · cases h; exact wp_ret ⟨rfl, here.le, here.ex⟩
  · cases h
theorem code_spec (hc : CallSpec P call) (hm : P.follows .mixedOrders = true) {ω : Orc} {LF : Nat} : ∀ n, CodeSpec P (aCode P call ω LF n)
  | 0 => fun c fr H nx o h => by cases h
  | n + 1 => codeS_spec hc hm (code_spec hc hm n)

theorem load_run {ev : Operand → Value} {t : TypeId} {x : Operand} {d : Did} (hd : aLoad P ev H t x = some d) {u0 : Value} (hv : VR D ρ (ev x) u0) (hw : WR (szP P) D ρ (hget H) w) : ∃ a0 u, u0 = .pointer (some a0) ∧ (loadVar t a0).run P w = .ok u w ∧ VR D ρ d.v u := by
  unfold aLoad at hd
  split at hd
  · rename_i b off hx
    rw [hx] at hv
    obtain ⟨hD, h2⟩ := hv.ptr_inv
    split at hd
    · rename_i k n hk hn ha
      split at hd
      · rename_i hl
        cases hd
        obtain ⟨us, hul, hur, huv⟩ := hw.cells (hgetC_some hk).1 (hgetC_some hk).2 hl
        have hlc := run_loadCells_list (P := P) w ⟨(ρ b).blk, (ρ b).off + off, none⟩ us (fun j v hv => by rw [addr_add]; exact hur j v hv)
        rw [hul] at hlc
        refine ⟨_, .agg us.toArray, h2, ?_, .agg _ _ ?_ fun i => ?_⟩
        · simp [loadVar, Sem.run_bind, run_of_peval ha w, run_of_peval hn w, hlc]
        · simp [hul]; omega
        · by_cases hi : i < n
          · have h3 : i < ((k.cells.drop off).take n).length := by simp; omega
            obtain ⟨u, hu, hvr⟩ := huv i _ (List.getElem?_eq_getElem h3)
            obtain ⟨hi', rfl⟩ := List.getElem?_eq_some_iff.1 hu
            simp only [Array.getD, List.size_toArray, h3, hi', dite_true, Array.getInternal_eq_getElem, List.getElem_toArray]
            exact hvr
          · have h3 : ¬ i < ((k.cells.drop off).take n).length := by simp; omega
            have h4 : ¬ i < us.length := by omega
            simp only [Array.getD, List.size_toArray, h3, h4, dite_false]
            exact .und
      · cases hd
    · rename_i k n hk hn ha
      split at hd
      · rename_i v hv0
        cases hd
        obtain ⟨cs, fz, h3, h4, _⟩ := (hw.here b k (hgetC_some hk).1).has (hgetC_some hk).2
        obtain ⟨u, hu, hvr⟩ := h4 off v hv0
        refine ⟨_, u, h2, ?_, hvr⟩
        have hc : w.cell? ⟨(ρ b).blk, (ρ b).off + off, none⟩ = some u := by simp [World.cell?, h3, hu]
        simp [loadVar, Sem.run_bind, run_of_peval ha w, load, Sem.run, hc]
      · cases hd
    · cases hd
  · cases hd

theorem results_spec {fr : List Value} {a : Act} (hf : FR ds D ρ fr a) (hw : WR (szP P) D ρ (hget H) w) : ∀ (l : List ResultVar) (vs : List Value), resL P fr H l = some vs →
    ∃ us : List Value, us.length = vs.length ∧ (∀ i, VR D ρ (vs.getD i undef) (us.getD i undef)) ∧ (l.mapM (resRun a.tmps) : Sem (List Value)).run P w = .ok us w
  | [], vs, h => by
    simp only [resL, Option.some.injEq] at h
    subst h
    exact ⟨[], rfl, fun i => .und, by simp [Sem.run]⟩
  | r :: l, vs, h => by
    simp only [resL] at h
    split at h
    · rename_i v vs' hv hvs
      cases h
      obtain ⟨us, h1, h2, h3⟩ := results_spec hf hw l vs' hvs
      have hd : ∃ u, VR D ρ v u ∧ (resRun a.tmps r).run P w = .ok u w := by
        cases r with
        | tmp t =>
          simp only [resV] at hv
          split at hv
          · cases hv
          rename_i hnt
          cases hv
          exact ⟨_, hf.all t (by simpa using hnt), rfl⟩
        | cell x t =>
          simp only [resV] at hv
          split at hv
          · cases hv
          rename_i hnt
          split at hv
          · rename_i d hd
            cases hv
            obtain ⟨a0, u, e1, e2, e3⟩ := load_run hd (hf.all x (by simpa using hnt)) hw
            refine ⟨u, e3, ?_⟩
            simp only [resRun, e1, asAddr, Sem.run_bind, Sem.run_pure, Result.andThen_ok, e2]
          · cases hv
      obtain ⟨u, hu, hrun⟩ := hd
      refine ⟨u :: us, by simp [h1], fun i => ?_, ?_⟩
      · cases i with
        | zero => simpa using hu
        | succ i => simpa using h2 i
      · rw [List.mapM_cons]
        simp only [Sem.run_bind]
        rw [hrun]
        simp only [Result.andThen_ok, h3, Sem.run_pure]
    · cases h

theorem funcO_spec (hc : CallSpec P call) (hm : P.follows .mixedOrders = true) {ω : Orc} {LF F : Nat} {g : FuncId} {av : List Value} {Hs : Heap} {lo : Nat} {v : Value} {H1 : Heap} {ps : List Prop} (h : aFuncO P call ω LF F g av Hs lo = some (v, H1, ps)) (hps : Ob ps)
    {D : Nat → Prop} {ρ : Nat → Pl} {w : World} {args : Array Value} (hlt : ∀ b, D b → b < lo) (hsz : args.size = av.length) (hav : ∀ i, VR D ρ (av.getD i undef) (args.getD i undef)) (hw : WR (szP P) D ρ (hget Hs) w) :
    Calls P g args w (fun e w1 => ∃ u, e = .returned u ∧ ∃ D1 ρ1, T (szP P) D ρ (hget Hs) w D1 ρ1 (hget H1) w1 ∧ VR D1 ρ1 v u ∧ ∀ b, D1 b → D b ∨ lo ≤ b) := by
  unfold aFuncO at h
  split at h
  case h_2 => cases h
  rename_i fn hfn
  split at h
  case h_2 => cases h
  rename_i c hcb
  have fin : ∀ (o : Out) (hax : o.ax = .normal ∨ o.ax = .ret), aCode P call ω LF F c (av ++ List.replicate (fn.ntmps - av.length) undef) Hs lo = some o → ((resL P o.fr o.hp fn.results.toList).map fun vs => (resO vs, o.hp, o.ob)) = some (v, H1, ps) →
      Calls P g args w (fun e w1 => ∃ u, e = .returned u ∧ ∃ D1 ρ1, T (szP P) D ρ (hget Hs) w D1 ρ1 (hget H1) w1 ∧ VR D1 ρ1 v u ∧ ∀ b, D1 b → D b ∨ lo ≤ b) := by
    intro o hax hco hres
    obtain ⟨vs, hvs, he⟩ := Option.map_eq_some_iff.1 hres
    cases he
    have hf0 : FR [] D ρ (av ++ List.replicate (fn.ntmps - av.length) undef) { tmps := args ++ Array.replicate (fn.ntmps - args.size) undef, defers := [] } := by
      refine ⟨by simp [hsz], fun t _ => ?_, rfl⟩
      have h1 := hav t
      rw [List.getD_eq_getElem?_getD, Array.getD_eq_getD_getElem?] at h1 ⊢
      by_cases ht : t < av.length
      · rw [List.getElem?_append_left ht, Array.getElem?_append_left (by omega)]
        exact h1
      · rw [List.getElem?_append_right (by omega), Array.getElem?_append_right (by omega), hsz]
        by_cases ht2 : t - av.length < fn.ntmps - av.length
        · simp [ht2, List.getElem?_replicate, Array.getElem?_replicate]; exact .und
        · simp [ht2, List.getElem?_replicate, Array.getElem?_replicate]; exact .und
    refine calls_of_wp hfn hcb (wp_mono (code_spec hc hm F c _ _ _ _ hco hps D ρ _ w hlt hf0 hw) ?_)
    rintro e a' w' ⟨rfl, l1, D1, ρ1, t1, f1, b1, c1⟩
    obtain ⟨us, u1, u2, u3⟩ := results_spec f1 t1.wr fn.results.toList vs hvs
    have hrun : (results fn a'.tmps).run P w' = .ok (if h : us.toArray.size = 1 then us.toArray[0] else .tuple us.toArray) w' := by
      have he : results fn a'.tmps = (do let vs ← fn.results.mapM (resRun a'.tmps); pure (if h : vs.size = 1 then vs[0] else .tuple vs)) := by
        unfold results
        congr 2
      rw [he, Array.mapM_eq_mapM_toList]
      simp only [Sem.run_bind, Sem.run_map, u3, Result.andThen_ok, Sem.run_pure]
    have hvr : VR D1 ρ1 (resO vs) (if h : us.toArray.size = 1 then us.toArray[0] else .tuple us.toArray) := by
      by_cases h1 : us.length = 1
      · rw [dif_pos (by simpa using h1)]
        obtain ⟨u, rfl⟩ := List.length_eq_one_iff.1 h1
        obtain ⟨v, rfl⟩ := List.length_eq_one_iff.1 (u1 ▸ h1 : vs.length = 1)
        exact u2 0
      · rw [dif_neg (by simpa using h1)]
        have : resO vs = .tuple vs.toArray := by
          match vs, u1 with
          | [], _ => rfl
          | [v], hh => simp at hh; exact absurd hh h1
          | _ :: _ :: _, _ => rfl
        rw [this]
        refine .tuple _ _ (by simp [u1]) fun i => ?_
        have := u2 i
        simpa [Array.getD_eq_getD_getElem?, List.getD_eq_getElem?_getD] using this
    rcases hax with hax | hax <;> simp only [hax, AX.to] <;> exact ⟨f1.defers, _, hrun, _, rfl, D1, ρ1, t1, hvr, c1⟩
  split at h
  · rename_i fr' H' n' ps' hco
    exact fin _ (.inl rfl) hco h
  · rename_i fr' H' n' ps' hco
    exact fin _ (.inr rfl) hco h
  · cases h
theorem func_spec (hc : CallSpec P call) (hm : P.follows .mixedOrders = true) {LF F : Nat} : CallSpec P (aFunc P call LF F) := by
  intro g av Hs lo v H1 h D ρ w args hlt hsz hav hw
  unfold aFunc at h
  split at h
  · rename_i v' H' hO
    cases h
    exact funcO_spec hc hm hO (fun p hp => (by cases hp)) hlt hsz hav hw
  · cases h
theorem call_spec {Ψ : CallF} (hΨ : CallSpec P Ψ) (hm : P.follows .mixedOrders = true) {LF F : Nat} : ∀ n, CallSpec P (aCall P Ψ LF F n)
  | 0 => hΨ
  | n + 1 => by
    intro g av Hs lo v H1 h
    simp only [aCall] at h
    split at h
    · rename_i r hr
      cases h
      exact hΨ g av Hs lo v H1 hr
    · exact func_spec (call_spec hΨ hm n) hm g av Hs lo v H1 h
def noΨ : CallF := fun _ _ _ _ => none
theorem noΨ_spec : CallSpec P noΨ := fun g av Hs lo v H1 h => by cases h

end
end
section
variable {ds : List Deferred} {P : Program} {call : CallF} {D D' : Nat → Prop} {ρ ρ' : Nat → Pl} {H H' : Heap} {w w' : World} {h h' : HF}
theorem raw_none {D : Nat → Prop} {ρ : Nat → Pl} {h : HF} {w : World} : RawOK ρ h w := ⟨fun i => ⟨Nat.le_refl _, fun h => absurd h (Nat.lt_irrefl _), fun h => absurd rfl h⟩, fun i a h => absurd rfl h⟩
/-- A call whose arguments are plain data, carried out from an empty heap. -/
theorem calls_of_eval {call : CallF} (hc : CallSpec P call) {g : FuncId} {av : List Value} {v : Value} {H1 : Heap} (h : call g av [] 0 = some (v, H1)) (hf : av.all flat = true) (hv : flat v = true) (w : World) :
    Calls P g av.toArray w (fun e w1 => e = .returned v ∧ Below w.heap.size w w1) := by
  refine (hc g av [] 0 v H1 h (fun _ => False) (fun _ => default) w av.toArray (fun b hb => hb.elim) (by simp) (fun i => ?_) ⟨fun b k hb => (by cases hb), fun b k hb => (by cases hb), fun b c k l hb => (by cases hb), raw_none (D := fun _ => False)⟩).mono ?_
  · rw [List.getD_eq_getElem?_getD, Array.getD_eq_getD_getElem?, List.getElem?_toArray]
    by_cases hi : i < av.length
    · rw [List.getElem?_eq_getElem hi]
      exact .of_flat (List.all_eq_true.1 hf _ (List.getElem_mem hi))
    · rw [List.getElem?_eq_none (by omega)]
      exact .und
  · rintro e w1 ⟨u, rfl, D1, ρ1, t1, hV, _⟩
    refine ⟨by rw [hV.flat_eq hv], ⟨t1.os, t1.tape, t1.output, t1.size, fun k hk => t1.keep k hk ?_⟩⟩
    rintro ⟨b, l, hb, _⟩
    cases hb

def isTrue (r : Option (Value × Heap)) : Bool :=
  match r with
  | some (.bool true, _) => true
  | _ => false
theorem isTrue_spec {r : Option (Value × Heap)} (h : isTrue r = true) : ∃ H1, r = some (.bool true, H1) := by
  unfold isTrue at h
  split at h
  · exact ⟨_, rfl⟩
  · cases h
/-- A call without arguments whose value the kernel has found to be true. -/
theorem calls_true {call : CallF} (hc : CallSpec P call) {g : FuncId} {av : List Value} (h : isTrue (call g av [] 0) = true) (hf : av.all flat = true) (w : World) :
    Calls P g av.toArray w (fun e w1 => e = .returned (.bool true) ∧ Below w.heap.size w w1) := by
  obtain ⟨H1, h1⟩ := isTrue_spec h
  exact calls_of_eval hc h1 hf rfl w

theorem ob_nil : Ob [] := fun p hp => by cases hp
theorem ob_cons {p : Prop} {l : List Prop} (h : p) (hl : Ob l) : Ob (p :: l) := fun q hq => by
  rcases List.mem_cons.1 hq with rfl | hq
  · exact h
  · exact hl q hq
def resVO (r : Option (Value × Heap × List Prop)) : Option (Value × List Prop) :=
  match r with
  | some (v, _, ps) => some (v, ps)
  | none => none
theorem resVO_spec {r : Option (Value × Heap × List Prop)} {v : Value} {ps : List Prop} (h : resVO r = some (v, ps)) : ∃ H1, r = some (v, H1, ps) := by
  unfold resVO at h
  split at h
  · cases h; exact ⟨_, rfl⟩
  · cases h
/-- A call whose arguments are plain data, carried out from an empty heap, where something is said of some values. -/
theorem calls_orc {call : CallF} (hc : CallSpec P call) (hm : P.follows .mixedOrders = true) {ω : Orc} {LF F : Nat} {g : FuncId} {av : List Value} {v : Value} {ps : List Prop} (h : resVO (aFuncO P call ω LF F g av [] 0) = some (v, ps)) (hps : Ob ps)
    (hf : av.all flat = true) (hv : flat v = true) (w : World) : Calls P g av.toArray w (fun e w1 => e = .returned v ∧ Below w.heap.size w w1) := by
  obtain ⟨H1, h1⟩ := resVO_spec h
  refine (funcO_spec (D := fun _ => False) (ρ := fun _ => default) (w := w) (args := av.toArray) hc hm h1 hps (fun b hb => hb.elim) (by simp) (fun i => ?_) ⟨fun b k hb => (by cases hb), fun b k hb => (by cases hb), fun b c k l hb => (by cases hb), raw_none (D := fun _ => False)⟩).mono ?_
  · rw [List.getD_eq_getElem?_getD, Array.getD_eq_getD_getElem?, List.getElem?_toArray]
    by_cases hi : i < av.length
    · rw [List.getElem?_eq_getElem hi]
      exact .of_flat (List.all_eq_true.1 hf _ (List.getElem_mem hi))
    · rw [List.getElem?_eq_none (by omega)]
      exact .und
  · rintro e w1 ⟨u, rfl, D1, ρ1, t1, hV, _⟩
    refine ⟨by rw [hV.flat_eq hv], ⟨t1.os, t1.tape, t1.output, t1.size, fun k hk => t1.keep k hk ?_⟩⟩
    rintro ⟨b, l, hb, _⟩
    cases hb
end
section
variable [Inhabited RawG]
variable {ds : List Deferred} {P : Program} {call : CallF} {D D' : Nat → Prop} {ρ ρ' : Nat → Pl} {H H' : Heap} {w w' : World} {h h' : HF}
/-- A contract on plain data, for the engine. -/
theorem spec_of_pure {g : FuncId} {av : List Value} {v : Value} {Hs : Heap} {lo : Nat} (hC : ∀ w, Calls P g av.toArray w (fun e w1 => e = .returned v ∧ Below w.heap.size w w1)) (hf : av.all flat = true) (hv : flat v = true)
    {D : Nat → Prop} {ρ : Nat → Pl} {w : World} {args : Array Value} (hsz : args.size = av.length) (hav : ∀ i, VR D ρ (av.getD i undef) (args.getD i undef)) (hw : WR (szP P) D ρ (hget Hs) w) :
    Calls P g args w (fun e w1 => ∃ u, e = .returned u ∧ ∃ D1 ρ1, T (szP P) D ρ (hget Hs) w D1 ρ1 (hget Hs) w1 ∧ VR D1 ρ1 v u ∧ ∀ b, D1 b → D b ∨ lo ≤ b) := by
  have he : args = av.toArray := by
    apply Array.ext (by simpa using hsz)
    intro i h1 h2
    have := hav i
    rw [List.getD_eq_getElem?_getD, Array.getD_eq_getD_getElem?, List.getElem?_eq_getElem (by omega), Array.getElem?_eq_getElem h1] at this
    simpa using this.flat_eq (List.all_eq_true.1 hf _ (List.getElem_mem (by omega)))
  rw [he]
  refine (hC w).mono ?_
  rintro e w1 ⟨rfl, hb⟩
  refine ⟨v, rfl, D, ρ, ⟨fun _ h => h, fun _ _ => rfl, ⟨hw.dom, fun b k hk => (hw.here b k hk).of_heap (hb.block _ (hw.lt hk)), hw.sep, hw.raw.keep (fun k hk _ => hb.block k hk) (fun k hk => .inl hk)⟩, hb.os, hb.tape, hb.output, hb.size, fun k hk _ => hb.block k hk, fun k hk => .inl hk, fun _ _ h _ => h⟩, .of_flat hv, fun b hb => .inl hb⟩
def orΨ (a b : CallF) : CallF := fun f args H nx =>
  match a f args H nx with
  | some r => some r
  | none => b f args H nx
theorem orΨ_spec {a b : CallF} (ha : CallSpec P a) (hb : CallSpec P b) : CallSpec P (orΨ a b) := by
  intro g av Hs lo v H1 h
  unfold orΨ at h
  split at h
  · rename_i r hr
    cases h
    exact ha g av Hs lo v H1 hr
  · exact hb g av Hs lo v H1 h
end
end Go.Proofs.Ytkdalfdfepipiaa
