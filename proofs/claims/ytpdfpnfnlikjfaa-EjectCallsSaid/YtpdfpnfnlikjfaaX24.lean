/- The engine: laws with a range over a function: the pieces of the code; the end. -/
import Derived.Test.YtpdfpnfnlikjfaaX23
namespace Go.Proofs.Ytpdfpnfnlikjfaa
open Go.RowKit
set_option linter.unusedSectionVars false
set_option linter.unusedVariables false
set_option maxRecDepth 100000
def heads : Nat → Code → List Code
  | n + 1, .seq x y => x :: heads n y
  | _, _ => []
def tl : Nat → Code → Code
  | n + 1, .seq x y => tl n y
  | _, c => c
theorem chain_heads [Inhabited RawG] : ∀ (n : Nat) (c : Code), chain (heads n c) (tl n c) = c
  | 0, c => by cases c <;> rfl
  | n + 1, c => by
    cases c with
    | seq x y => show Code.seq x (chain (heads n y) (tl n y)) = _; rw [chain_heads n y]
    | _ => rfl
structure RfP where
  r : Code
  id : Nat
  g : Operand
  ps : Array Tmp
  a : Code
  b : Code
  post : Code
def rfParts : Code → RfP
  | .seq (.seq r (.block id (.rangeFunc g ps a b))) post => ⟨r, id, g, ps, a, b, post⟩
  | _ => ⟨.skip, 0, .const undef, #[], .skip, .skip, .skip⟩
def rfIs : Code → Bool
  | .seq (.seq _ (.block _ (.rangeFunc _ _ _ _))) _ => true
  | _ => false
theorem rf_code {c : Code} (h : rfIs c = true) : c = .seq (.seq (rfParts c).r (.block (rfParts c).id (.rangeFunc (rfParts c).g (rfParts c).ps (rfParts c).a (rfParts c).b))) (rfParts c).post := by
  unfold rfIs at h
  split at h
  · rfl
  · cases h
def bodyC (P : Program) (f : Nat) : Code := match P.funcs[f]? with
  | some fn => match fn.body with | some c => c | none => .skip
  | none => .skip
section
variable [Inhabited RawG] {P : Program} {call : CallF}
/-- Codes one behind the other, and what holds then. -/
def wpChain (P : Program) : List Code → (Act → World → Prop) → Act → World → Prop
  | [], K => K
  | x :: r, K => fun a w => x.wp P (fun e a' w' => e = .normal ∧ wpChain P r K a' w') a w
theorem wpChain_app {K : Act → World → Prop} : ∀ (l1 l2 : List Code), wpChain P (l1 ++ l2) K = wpChain P l1 (wpChain P l2 K)
  | [], l2 => rfl
  | x :: r, l2 => by simp only [List.cons_append, wpChain, wpChain_app r l2]
theorem wp_of_chain {y : Code} {Q : Exit → Act → World → Prop} : ∀ (l : List Code) {a : Act} {w : World}, wpChain P l (fun a w => y.wp P Q a w) a w → (chain l y).wp P Q a w
  | [], a, w, h => h
  | x :: r, a, w, h => wp_seq (wp_mono h (by rintro e a' w' ⟨rfl, h'⟩; exact wp_of_chain r h'))
theorem chain_run (hc : CallSpec P call) (hm : P.follows .mixedOrders = true) {ω : Orc} {LF F : Nat} {ds : List Deferred} {K : Act → World → Prop} : ∀ (l : List Code) (fr : List Value) (H : Heap) (nx : Nat) (o : Out) (D : Nat → Prop) (ρ : Nat → Pl) (a : Act) (w : World),
    aChain P call ω LF F l fr H nx = some o → Ob o.ob → (∀ b, D b → b < nx) → FR ds D ρ fr a → WR (szP P) D ρ (hget H) w → (∀ a' w', CP ds P D ρ H w nx o a' w' → K a' w') → wpChain P l K a w
  | [], fr, H, nx, o, D, ρ, a, w, h, hob, hlt, hf, hw, hy => by
    cases h
    exact hy a w ⟨Nat.le_refl _, D, ρ, T.refl hw, hf, hlt, fun b hb => .inl hb⟩
  | x :: r, fr, H, nx, o, D, ρ, a, w, h, hob, hlt, hf, hw, hy => by
    simp only [aChain] at h
    split at h
    · rename_i fr' H' nx' ps hx
      obtain ⟨o2, h2, rfl⟩ := Option.map_eq_some_iff.1 h
      refine wp_mono (code_spec hc hm F x _ _ _ _ hx hob.left D ρ a w hlt hf hw) ?_
      rintro e a1 w1 ⟨rfl, l1, D1, ρ1, t1, f1, b1, c1⟩
      refine ⟨rfl, chain_run hc hm r fr' H' nx' o2 D1 ρ1 a1 w1 h2 hob.right b1 f1 t1.wr fun a2 w2 ⟨l2, D2, ρ2, t2, f2, b2, c2⟩ => hy a2 w2 ⟨Nat.le_trans l1 l2, D2, ρ2, t1.trans t2, f2, b2, fun b hb => ?_⟩⟩
      rcases c2 b hb with h | h
      · exact c1 b h
      · exact .inr (Nat.le_trans l1 h)
    · cases h
/-- What a piece of code leaves, some slots looked at. -/
def stopV (keys : List Nat) (r : Option Out) : Option (AX × List Value × Heap × Nat × List Prop) := match r with
  | some o => some (o.ax, forgetF keys o.fr 0, o.hp, o.nx, o.ob)
  | none => none
def retV (P : Program) (rs : List ResultVar) (r : Option Out) : Option (AX × Value × List Prop) := match r with
  | some o => match resL P o.fr o.hp rs with
    | some vs => some (o.ax, resO vs, o.ob)
    | none => none
  | none => none
/-- The end behind a range over a function: the mark is taken, the results are read. -/
theorem rf_end {F : Fence} {n : Nat} {D D3 : Nat → Prop} {ρ ρ3 : Nat → Pl} {H H3 : Heap} {w W3 : World} {fn : Func} {fr : List Value} {a : Act} {d : Nat} {R : Ending → World → Prop} {vs : List Value}
    (hf : FR [{ target := .collected d, args := #[] }] D3 ρ3 fr a) (ht : T (szP P) D ρ (hget H) w D3 ρ3 (hget H3) W3) (hd : w.heap.size ≤ d) (hk : W3.heap[d]? = some (.deferred (some [])))
    (hvs : resL P fr H3 fn.results.toList = some vs) (hR : ∀ (u : Value) (W4 : World), VR D3 ρ3 (resO vs) u → T (szP P) D ρ (hget H) w D3 ρ3 (hget H3) W4 → R (.returned u) W4) : LeavesInM F n P fn a.tmps R a.defers .returning W3 := by
  rw [hf.defers]
  refine ⟨by simp, .inl ⟨_, _, rfl, run_takeDeferred hk, ?_⟩⟩
  have ht4 := ht.grown (grownBy_putObj' W3 d (.deferred none)) (row := some d) (fun r e => by cases e; exact ⟨hd, _, hk, rfl⟩)
  obtain ⟨us, u1, u2, u3⟩ := results_spec hf ht4.wr fn.results.toList vs hvs
  have hrun : (results fn a.tmps).run P (W3.putObj d (.deferred none)) = .ok (if h : us.toArray.size = 1 then us.toArray[0] else .tuple us.toArray) (W3.putObj d (.deferred none)) := by
    have he : results fn a.tmps = (do let vs ← fn.results.mapM (resRun a.tmps); pure (if h : vs.size = 1 then vs[0] else .tuple vs)) := by
      unfold results
      congr 2
    rw [he, Array.mapM_eq_mapM_toList]
    simp only [Sem.run_bind, Sem.run_map, u3, Result.andThen_ok, Sem.run_pure]
  have hvr : VR D3 ρ3 (resO vs) (if h : us.toArray.size = 1 then us.toArray[0] else .tuple us.toArray) := by
    by_cases h1 : us.length = 1
    · rw [dif_pos (by simpa using h1)]
      obtain ⟨u, rfl⟩ := List.length_eq_one_iff.1 h1
      obtain ⟨v, rfl⟩ := List.length_eq_one_iff.1 (u1 ▸ h1 : vs.length = 1)
      exact u2 0
    · rw [dif_neg (by simpa using h1)]
      have : resO vs = .tuple vs.toArray := by
        match vs, u1 with
        | [], _ => rfl
        | [v], hh => simp at hh; exact absurd hh h1
        | _ :: _ :: _, _ => rfl
      rw [this]
      refine .tuple _ _ (by simp [u1]) fun i => ?_
      have := u2 i
      simpa [Array.getD_eq_getD_getElem?, List.getD_eq_getElem?_getD] using this
  exact ⟨_, hrun, hR _ _ hvr ht4⟩
end
end Go.Proofs.Ytpdfpnfnlikjfaa
