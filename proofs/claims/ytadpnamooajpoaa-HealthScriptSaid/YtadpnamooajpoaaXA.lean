/- The engine: a loop whose states are bound by an invariant, not said. The engine: loops whose blocks are all given anew the numbers from the loop's own on; a loop under numbers 0, 1, .. carried to any others. The engine: a code under numbers 0, 1, .. carried to any others (for the rest behind a cut). -/
import Derived.Test.YtadpnamooajpoaaX18
namespace Go.Proofs.Ytadpnamooajpoaa
section
open Go.RowKit
set_option linter.unusedSectionVars false
set_option linter.unusedVariables false
variable [Inhabited RawG]
theorem seq_inv {S : Type} (n : Nat) (Inv : Nat → S → Prop) (R : Nat → S → S → Prop) (s0 : S) (h0 : Inv 0 s0) (hr : ∀ k s, k < n → Inv k s → ∃ s', Inv (k + 1) s' ∧ R k s s') :
    ∃ f : Nat → S, f 0 = s0 ∧ (∀ k, k ≤ n → Inv k (f k)) ∧ ∀ k, k < n → R k (f k) (f (k + 1)) := by
  induction n with
  | zero => exact ⟨fun _ => s0, rfl, fun k hk => by obtain rfl : k = 0 := by omega
                                                    exact h0, fun k hk => absurd hk (Nat.not_lt_zero _)⟩
  | succ n ih =>
    obtain ⟨f, e0, e1, e2⟩ := ih (fun k s hk => hr k s (by omega))
    obtain ⟨s', i1, i2⟩ := hr n (f n) (by omega) (e1 n (Nat.le_refl _))
    refine ⟨fun k => if k ≤ n then f k else s', ?_, fun k hk => ?_, fun k hk => ?_⟩
    · simp [e0]
    · by_cases h : k ≤ n
      · simp only [if_pos h]; exact e1 k h
      · obtain rfl : k = n + 1 := by omega
        simp only [if_neg h]; exact i1
    · by_cases h : k < n
      · simp only [if_pos (show k ≤ n by omega), if_pos (show k + 1 ≤ n by omega)]; exact e2 k h
      · obtain rfl : k = n := by omega
        simp only [if_pos (Nat.le_refl k), if_neg (show ¬ k + 1 ≤ k by omega)]; exact i2
theorem loop_inv {P : Program} {call : CallF} (hc : CallSpec P call) (hm : P.follows .mixedOrders = true) {LF F : Nat} {x : Code} {S : Type} (n : Nat) (Inv : Nat → S → Prop) (st : Nat → S → List Value) (hp : Nat → S → Heap) (stE : S → List Value) (hpE : S → Heap)
    {nx0 nxb nx2 : Nat} {keys keysE : List Nat} {ax : AX} (hnx : nx0 ≤ nxb) (hnxo : nx0 ≤ nx2) (hax : ax ≠ .normal) {s0 : S} (h0 : Inv 0 s0)
    (hround : ∀ k s, k < n → Inv k s → ∃ s', Inv (k + 1) s' ∧ RoundTo P call LF F x nx0 nxb keys .normal (st k s) (hp k s) (st (k + 1) s') (hp (k + 1) s') nxb)
    (hlast : ∀ s, Inv n s → RoundTo P call LF F x nx0 nxb keysE ax (st n s) (hp n s) (stE s) (hpE s) nx2) :
    ∃ s, Inv n s ∧ LoopOK P x (st 0 s0) (hp 0 s0) nx0 ⟨ax, stE s, hpE s, nx2, []⟩ := by
  obtain ⟨f, e0, e1, e2⟩ := seq_inv n Inv _ s0 h0 hround
  refine ⟨f n, e1 n (Nat.le_refl _), ?_⟩
  have h := loop_ind hc hm (LF := LF) (F := F) (x := x) (nx0 := nx0) (nxb := nxb) (keys := keys) (keysE := keysE) (o := ⟨ax, stE (f n), hpE (f n), nx2, []⟩) n (fun k => st k (f k)) (fun k => hp k (f k)) hnx hnxo rfl e2 (hlast _ (e1 n (Nat.le_refl _))) hax
  rw [e0] at h
  exact h
end
section
open Go.RowKit
set_option linter.unusedSectionVars false
set_option linter.unusedVariables false
variable [Inhabited RawG]
/-- These blocks, in this order. -/
def pickH (H : Heap) : List Nat → Heap
  | [] => []
  | b :: r => match hget H b with
    | some k => (b, k) :: pickH H r
    | none => pickH H r
theorem hget_pick {H : Heap} : ∀ {l : List Nat} {b : Nat} {k : ABlk}, hget (pickH H l) b = some k → hget H b = some k
  | [], b, k, h => by cases h
  | c :: r, b, k, h => by
    simp only [pickH] at h
    split at h
    · rename_i k0 hk0
      simp only [hget] at h
      split at h
      · rename_i he
        cases h
        have : c = b := by simpa using he
        rw [← this]; exact hk0
      · exact hget_pick h
    · exact hget_pick h
/-- No block is read only. -/
def no2 : Heap → Bool
  | [] => true
  | (_, k) :: t => k.mode != 2 && no2 t
theorem no2_spec : ∀ {H : Heap}, no2 H = true → ∀ b k, hget H b = some k → k.mode ≠ 2
  | [], _, b, k, h => by cases h
  | (c, k0) :: t, hn, b, k, h => by
    simp only [no2, Bool.and_eq_true] at hn
    simp only [hget] at h
    split at h
    · cases h; simpa using hn.1
    · exact no2_spec hn.2 b k h
def idxAt (S : List Nat) (lo b : Nat) : Option Nat := (idxIn S b).map (· + lo)
section
variable {ds : List Deferred} {P : Program} {call : CallF} {D D0 D1 D2 : Nat → Prop} {ρ ρ0 ρ1 ρ2 : Nat → Pl} {H H0 H1 H2 : Heap} {w w1 : World} {r : Nat → Option Nat}
theorem T.rename3 (hw : WR (szP P) D0 ρ0 (hget H0) w) (ht : T (szP P) D0 ρ0 (hget H0) w D1 ρ1 (hget H1) w1) (hren : renHeap r H1 = some H2) (hD2 : ∀ b, D0 b → D2 b) (hρ2 : ∀ b, D0 b → ρ2 b = ρ0 b)
    (hr : ∀ b b', D1 b → r b = some b' → D2 b' ∧ ρ2 b' = ρ1 b) (hro : no2 H2 = true) : T (szP P) D0 ρ0 (hget H0) w D2 ρ2 (hget H2) w1 :=
  ⟨hD2, hρ2, ht.wr.ren hren hr, ht.os, ht.tape, ht.output, ht.size, ht.keep, fun n hi => ht.img n (img_ren ht.wr hren hr hi), fun b' k' hb hm => absurd hm (no2_spec hro b' k' hb)⟩
theorem T.rename4 {Dc : Nat → Prop} {ρc : Nat → Pl} {Hc : Heap} {r0 : Nat → Option Nat} (hw : WR (szP P) D0 ρ0 (hget H0) w) (hin : renHeap r0 H0 = some Hc) (hr0 : ∀ b b', D0 b → r0 b = some b' → Dc b' ∧ ρc b' = ρ0 b)
    (ht : T (szP P) Dc ρc (hget Hc) w D1 ρ1 (hget H1) w1) (hren : renHeap r H1 = some H2) (hD2 : ∀ b, D0 b → D2 b) (hρ2 : ∀ b, D0 b → ρ2 b = ρ0 b)
    (hr : ∀ b b', D1 b → r b = some b' → D2 b' ∧ ρ2 b' = ρ1 b) (hro : no2 H2 = true) : T (szP P) D0 ρ0 (hget H0) w D2 ρ2 (hget H2) w1 := by
  have hwc := hw.ren hin hr0
  refine ⟨hD2, hρ2, ht.wr.ren hren hr, ht.os, ht.tape, ht.output, ht.size, fun k hk hn => ht.keep k hk fun hi => hn (img_ren hw hin hr0 hi), fun n hi => ?_, fun b' k' hb hm => absurd hm (no2_spec hro b' k' hb)⟩
  rcases ht.img n (img_ren ht.wr hren hr hi) with h | h
  · exact .inl (img_ren hw hin hr0 h)
  · exact .inr h
theorem fr_norm {keys : List Nat} {fr1 fr2 : List Value} {a1 : Act} (hF : FR ds D1 ρ1 fr1 a1) (hn : normK r keys fr1 0 = some fr2) (hrr : ∀ b b', D1 b → r b = some b' → D2 b' ∧ ρ2 b' = ρ1 b) : FR ds D2 ρ2 fr2 a1 := by
  obtain ⟨n1, n2⟩ := normK_spec hn
  refine ⟨by rw [n1]; exact hF.size, fun t ht => ?_, hF.defers⟩
  rcases n2 t with h1 | ⟨h1, h2⟩ | h1
  · rw [h1] at ht; cases ht
  · rw [h2]
    have := hF.all t (by rw [h1]; rfl)
    rw [h1] at this
    rw [this.flat0_eq rfl]
    exact .und
  · refine ren_vr hrr 4 _ _ _ (hF.all t ?_) h1
    cases hx : isTop (fr1.getD t undef) with
    | false => rfl
    | true =>
      exfalso
      unfold isTop at hx
      split at hx
      · rename_i c hc
        rw [hc] at h1
        simp [ren, flat0] at h1
      · cases hx
/-- Numbers given anew from nx0 on, to all that is kept. -/
theorem norm_state2 {nx0 : Nat} {S : List Nat} {keys : List Nat} {fr1 fr2 : List Value} {a1 : Act} (hw : WR (szP P) D0 ρ0 (hget H0) w) (hD0 : ∀ b, D0 b → b < nx0) (hT : T (szP P) D0 ρ0 (hget H0) w D1 ρ1 (hget H1) w1) (hF : FR ds D1 ρ1 fr1 a1)
    (hn : normK (idxAt S nx0) keys fr1 0 = some fr2) (hh : renHeap (idxAt S nx0) (pickH H1 S) = some H2) (hro : no2 H2 = true) :
    ∃ D2 ρ2, T (szP P) D0 ρ0 (hget H0) w D2 ρ2 (hget H2) w1 ∧ FR ds D2 ρ2 fr2 a1 ∧ (∀ b, D2 b → b < nx0 + S.length) ∧ ∀ b, D2 b → D0 b ∨ nx0 ≤ b := by
  have hnS : ∀ c, nx0 ≤ c ∧ c - nx0 < S.length → ¬ D0 c := fun c hc hD => by have := hD0 c hD; omega
  have hrr : ∀ b b', D1 b → idxAt S nx0 b = some b' → (D0 b' ∨ b' ∈ List.range' nx0 S.length) ∧ (if hc : nx0 ≤ b' ∧ b' - nx0 < S.length then ρ1 (S[b' - nx0]'hc.2) else ρ0 b') = ρ1 b := by
    intro b b' hb hrb
    obtain ⟨i, hi, rfl⟩ := Option.map_eq_some_iff.1 hrb
    have hSi := idxIn_spec hi
    obtain ⟨hlt, hSb⟩ := List.getElem?_eq_some_iff.1 hSi
    refine ⟨.inr (by simp only [List.mem_range'_1]; omega), ?_⟩
    rw [dif_pos ⟨by omega, by omega⟩]
    congr 1
    rw [← hSb]
    congr 1
    omega
  have hT' := hT.trans (T.less hT.wr fun b k => hget_pick (H := H1) (l := S))
  have hR := T.rename3 (P := P) (D2 := fun b => D0 b ∨ b ∈ List.range' nx0 S.length) (ρ2 := fun c => if hc : nx0 ≤ c ∧ c - nx0 < S.length then ρ1 (S[c - nx0]'hc.2) else ρ0 c) hw hT' hh (fun b hb => .inl hb)
    (fun b hb => dif_neg fun hc' => hnS b hc' hb) hrr hro
  refine ⟨_, _, hR, fr_norm hF hn hrr, fun b hb => ?_, fun b hb => ?_⟩
  · rcases hb with hb | hb
    · have := hD0 b hb; omega
    · simp only [List.mem_range'_1] at hb; omega
  · rcases hb with hb | hb
    · exact .inl hb
    · simp only [List.mem_range'_1] at hb; exact .inr hb.1
/-- As RoundTo, all blocks that are kept given anew numbers from nx0 on. -/
def RoundTo2 (P : Program) (call : CallF) (LF F : Nat) (x : Code) (nx0 nxb : Nat) (keys : List Nat) (ax : AX) (fr : List Value) (H : Heap) (fr2 : List Value) (H2 : Heap) (nx2 : Nat) : Prop :=
  ∃ ω S o1, aCode P call ω LF F x fr H nxb = some o1 ∧ Ob o1.ob ∧ o1.ax = ax ∧ normK (idxAt S nx0) keys o1.fr 0 = some fr2 ∧ renHeap (idxAt S nx0) (pickH o1.hp S) = some H2 ∧ no2 H2 = true ∧ nx0 + S.length ≤ nx2
def roundV2 (S : List Nat) (nx0 : Nat) (keys : List Nat) (r : Option Out) : Option (AX × List Value × Heap × Bool × List Prop) :=
  match r with
  | some o => match normK (idxAt S nx0) keys o.fr 0, renHeap (idxAt S nx0) (pickH o.hp S) with
    | some f, some h => some (o.ax, f, h, no2 h, o.ob)
    | _, _ => none
  | none => none
theorem roundTo2_of {LF F : Nat} {x : Code} {nx0 nxb : Nat} {keys : List Nat} {ax : AX} {fr : List Value} {H : Heap} {fr2 : List Value} {H2 : Heap} {nx2 : Nat} (ω : Orc) (S : List Nat) {ps : List Prop}
    (h : roundV2 S nx0 keys (aCode P call ω LF F x fr H nxb) = some (ax, fr2, H2, true, ps)) (hp : Ob ps) (hS : nx0 + S.length ≤ nx2) : RoundTo2 P call LF F x nx0 nxb keys ax fr H fr2 H2 nx2 := by
  unfold roundV2 at h
  split at h
  · rename_i o ho
    split at h
    · rename_i f hh h1 h2
      simp only [Option.some.injEq, Prod.mk.injEq] at h
      obtain ⟨e1, e2, e3, e4, e5⟩ := h
      subst e1 e2 e3 e5
      exact ⟨ω, S, o, ho, hp, rfl, h1, h2, e4, hS⟩
    · cases h
  · cases h
/-- A loop whose first state is given the numbers from nx0 on. -/
theorem loop_ind2 (hc : CallSpec P call) (hm : P.follows .mixedOrders = true) {LF F : Nat} {x : Code} (n : Nat) (st : Nat → List Value) (hp : Nat → Heap) {nx0 nxb : Nat} {keys keysE : List Nat} {fr0 : List Value} {o : Out} (hnx : nx0 ≤ nxb) (hnxo : nx0 ≤ o.nx) (hob : o.ob = [])
    {S0 : List Nat} (hs0 : normK (idxAt S0 nx0) keys fr0 0 = some (st 0)) (hh0 : renHeap (idxAt S0 nx0) (pickH H0 S0) = some (hp 0)) (hn0 : no2 (hp 0) = true) (hl0 : nx0 + S0.length ≤ nxb)
    (hround : ∀ k, k < n → RoundTo2 P call LF F x nx0 nxb keys .normal (st k) (hp k) (st (k + 1)) (hp (k + 1)) nxb)
    (hlast : RoundTo2 P call LF F x nx0 nxb keysE o.ax (st n) (hp n) o.fr o.hp o.nx) (hax : o.ax ≠ .normal) : LoopOK P x fr0 H0 nx0 o := by
  intro ds D ρ a w hlt hf hw
  have key : ∀ m k ak wk, k + m = n → (∃ Dk ρk, T (szP P) D ρ (hget H0) w Dk ρk (hget (hp k)) wk ∧ FR ds Dk ρk (st k) ak ∧ (∀ b, Dk b → b < nxb) ∧ ∀ b, Dk b → D b ∨ nx0 ≤ b) →
      Code.rounds P x (fun e a' w' => e = o.ax.to ∧ CP ds P D ρ H0 w nx0 o a' w') (m + 1) ak wk := by
    intro m
    induction m with
    | zero =>
      rintro k ak wk hk ⟨Dk, ρk, t1, f1, b1, c1⟩
      obtain rfl : k = n := by omega
      obtain ⟨ω, S, o1, e1, e2, e3, e4, e5, e7, e6⟩ := hlast
      refine wp_mono (code_spec hc hm F x _ _ _ _ e1 e2 Dk ρk ak wk b1 f1 t1.wr) ?_
      rintro e a2 w2 ⟨rfl, l2, D2, ρ2, t2, f2, b2, c2⟩
      obtain ⟨D3, ρ3, t3, f3, b3, c3⟩ := norm_state2 hw hlt (t1.trans t2) f2 e4 e5 e7
      rw [e3]
      have fin : CP ds P D ρ H0 w nx0 o a2 w2 := ⟨hnxo, D3, ρ3, t3, f3, fun b hb => by have := b3 b hb; omega, c3⟩
      cases hx : o.ax with
      | normal => exact absurd hx hax
      | ret => exact ⟨rfl, fin⟩
      | exit id => exact ⟨rfl, fin⟩
    | succ m ih =>
      rintro k ak wk hk ⟨Dk, ρk, t1, f1, b1, c1⟩
      obtain ⟨ω, S, o1, e1, e2, e3, e4, e5, e7, e6⟩ := hround k (by omega)
      refine wp_mono (code_spec hc hm F x _ _ _ _ e1 e2 Dk ρk ak wk b1 f1 t1.wr) ?_
      rintro e a2 w2 ⟨rfl, l2, D2, ρ2, t2, f2, b2, c2⟩
      rw [e3]
      show Code.rounds P x _ (m + 1) a2 w2
      obtain ⟨D3, ρ3, t3, f3, b3, c3⟩ := norm_state2 hw hlt (t1.trans t2) f2 e4 e5 e7
      exact ih (k + 1) a2 w2 (by omega) ⟨D3, ρ3, t3, f3, fun b hb => by have := b3 b hb; omega, c3⟩
  obtain ⟨D3, ρ3, t3, f3, b3, c3⟩ := norm_state2 hw hlt (T.refl hw) hf hs0 hh0 hn0
  exact wp_loop_rounds (n + 1) (key n 0 a w (by omega) ⟨D3, ρ3, t3, f3, fun b hb => by have := b3 b hb; omega, c3⟩)
theorem loop_inv2 (hc : CallSpec P call) (hm : P.follows .mixedOrders = true) {LF F : Nat} {x : Code} {S : Type} (n : Nat) (Inv : Nat → S → Prop) (st : Nat → S → List Value) (hp : Nat → S → Heap) (stE : S → List Value) (hpE : S → Heap)
    {nx0 nxb nx2 : Nat} {keys keysE : List Nat} {ax : AX} {fr0 : List Value} (S0 : List Nat) (s0 : S) (h0 : Inv 0 s0) (hs0 : normK (idxAt S0 nx0) keys fr0 0 = some (st 0 s0)) (hh0 : renHeap (idxAt S0 nx0) (pickH H0 S0) = some (hp 0 s0)) (hn0 : no2 (hp 0 s0) = true) (hl0 : nx0 + S0.length ≤ nxb)
    (hnx : nx0 ≤ nxb) (hnxo : nx0 ≤ nx2) (hax : ax ≠ .normal)
    (hround : ∀ k s, k < n → Inv k s → ∃ s', Inv (k + 1) s' ∧ RoundTo2 P call LF F x nx0 nxb keys .normal (st k s) (hp k s) (st (k + 1) s') (hp (k + 1) s') nxb)
    (hlast : ∀ s, Inv n s → RoundTo2 P call LF F x nx0 nxb keysE ax (st n s) (hp n s) (stE s) (hpE s) nx2) :
    ∃ s, Inv n s ∧ LoopOK P x fr0 H0 nx0 ⟨ax, stE s, hpE s, nx2, []⟩ := by
  obtain ⟨f, e0, e1, e2⟩ := seq_inv n Inv _ s0 h0 hround
  refine ⟨f n, e1 n (Nat.le_refl _), ?_⟩
  exact loop_ind2 hc hm (LF := LF) (F := F) (x := x) (nx0 := nx0) (nxb := nxb) (keys := keys) (keysE := keysE) (o := ⟨ax, stE (f n), hpE (f n), nx2, []⟩) n (fun k => st k (f k)) (fun k => hp k (f k)) hnx hnxo rfl
    (by rw [e0]; exact hs0) (by rw [e0]; exact hh0) (by rw [e0]; exact hn0) hl0 e2 (hlast _ (e1 n (Nat.le_refl _))) hax
/-- A loop under numbers 0, 1, .. carried to others. -/
theorem loop_canon {x : Code} {fr frc fr2 : List Value} {Hc : Heap} {oc : Out} {nx0 nx2 : Nat} {keys keysE : List Nat} (M S : List Nat) (h : LoopOK P x frc Hc M.length oc)
    (h1 : normK (idxIn M) keys fr 0 = some frc) (h2 : renHeap (idxIn M) (pickH H M) = some Hc) (h3 : normK (backOf M S nx0) keysE oc.fr 0 = some fr2) (h4 : renHeap (backOf M S nx0) (pickH oc.hp (upTo 0 M ++ S)) = some H2) (hro : no2 H2 = true) (hl : nx0 + S.length ≤ nx2) :
    LoopOK P x fr H nx0 ⟨oc.ax, fr2, H2, nx2, []⟩ := by
  intro ds D ρ a w hlt hf hw
  have hws : WR (szP P) D ρ (hget (pickH H M)) w := hw.less fun b k => hget_pick
  have hr0 : ∀ b b', D b → idxIn M b = some b' → (b' < M.length ∧ D (M.getD b' 0)) ∧ ρ (M.getD b' 0) = ρ b := by
    intro b b' hb hi
    have h3 := idxIn_spec hi
    obtain ⟨h4, h5⟩ := List.getElem?_eq_some_iff.1 h3
    have h6 : M.getD b' 0 = b := by rw [List.getD_eq_getElem?_getD, h3]; rfl
    rw [h6]
    exact ⟨⟨h4, hb⟩, rfl⟩
  have hwc : WR (szP P) (fun b => b < M.length ∧ D (M.getD b 0)) (fun b => ρ (M.getD b 0)) (hget Hc) w := hws.ren h2 hr0
  have hfc := fr_norm (D2 := fun b => b < M.length ∧ D (M.getD b 0)) (ρ2 := fun b => ρ (M.getD b 0)) hf h1 hr0
  refine wp_mono (h (fun b => b < M.length ∧ D (M.getD b 0)) (fun b => ρ (M.getD b 0)) a w (fun b hb => hb.1) hfc hwc) ?_
  rintro e a2 w2 ⟨rfl, l2, D1, ρ1, hT, hF, hb1, hD1⟩
  refine ⟨rfl, ?_⟩
  have hnS : ∀ c, nx0 ≤ c ∧ c - nx0 < S.length → ¬ D c := fun c hc' hD => by have := hlt c hD; omega
  have hrr : ∀ b b', D1 b → backOf M S nx0 b = some b' → (D b' ∨ b' ∈ List.range' nx0 S.length) ∧ (if hc : nx0 ≤ b' ∧ b' - nx0 < S.length then ρ1 (S[b' - nx0]'hc.2) else ρ b') = ρ1 b := by
    intro b b' hb hrb
    unfold backOf at hrb
    split at hrb
    · rename_i hlt
      have hDb : b < M.length ∧ D (M.getD b 0) := (hD1 b hb).resolve_right (by omega)
      have h6 : M.getD b 0 = b' := by rw [List.getD_eq_getElem?_getD, hrb]; rfl
      rw [h6] at hDb
      refine ⟨.inl hDb.2, ?_⟩
      rw [dif_neg (fun hc' => hnS b' hc' hDb.2)]
      have := hT.same b ⟨hlt, by rw [h6]; exact hDb.2⟩
      rw [this]
      simp only [h6]
    · obtain ⟨i, hi, rfl⟩ := Option.map_eq_some_iff.1 hrb
      have hSi := idxIn_spec hi
      obtain ⟨hlt, hSb⟩ := List.getElem?_eq_some_iff.1 hSi
      refine ⟨.inr (by simp only [List.mem_range'_1]; omega), ?_⟩
      rw [dif_pos ⟨by omega, by omega⟩]
      congr 1
      rw [← hSb]
      congr 1
      omega
  have hT' := hT.trans (T.less hT.wr fun b k => hget_pick (H := oc.hp) (l := upTo 0 M ++ S))
  have hR := T.rename4 (P := P) (D2 := fun b => D b ∨ b ∈ List.range' nx0 S.length) (ρ2 := fun c => if hc : nx0 ≤ c ∧ c - nx0 < S.length then ρ1 (S[c - nx0]'hc.2) else ρ c) hws h2 hr0 hT' h4 (fun b hb => .inl hb)
    (fun b hb => dif_neg fun hc' => hnS b hc' hb) hrr hro
  have hR2 : T (szP P) D ρ (hget H) w (fun b => D b ∨ b ∈ List.range' nx0 S.length) (fun c => if hc : nx0 ≤ c ∧ c - nx0 < S.length then ρ1 (S[c - nx0]'hc.2) else ρ c) (hget H2) w2 :=
    (T.less hw fun b k => hget_pick (H := H) (l := M)).trans hR
  refine ⟨by show nx0 ≤ nx2; omega, _, _, hR2, fr_norm hF h3 hrr, fun b hb => ?_, fun b hb => ?_⟩
  · rcases hb with hb | hb
    · have := hlt b hb; show b < nx2; omega
    · simp only [List.mem_range'_1] at hb; show b < nx2; omega
  · rcases hb with hb | hb
    · exact .inl hb
    · simp only [List.mem_range'_1] at hb; exact .inr hb.1
end
end
section
open Go.RowKit
set_option linter.unusedSectionVars false
set_option linter.unusedVariables false
variable [Inhabited RawG]
section
variable {ds : List Deferred} {P : Program} {call : CallF} {D D0 D1 D2 : Nat → Prop} {ρ ρ0 ρ1 ρ2 : Nat → Pl} {H H0 H1 H2 : Heap} {w w1 : World} {r : Nat → Option Nat}
/-- A code under numbers 0, 1, .. carried to others. -/
theorem code_canon {x : Code} {fr frc fr2 : List Value} {Hc : Heap} {oc : Out} {nx0 nx2 : Nat} {keys keysE : List Nat} (M S : List Nat) (h : CodeOK P x frc Hc M.length oc)
    (h1 : normK (idxIn M) keys fr 0 = some frc) (h2 : renHeap (idxIn M) (pickH H M) = some Hc) (h3 : normK (backOf M S nx0) keysE oc.fr 0 = some fr2) (h4 : renHeap (backOf M S nx0) (pickH oc.hp (upTo 0 M ++ S)) = some H2) (hro : no2 H2 = true) (hl : nx0 + S.length ≤ nx2) :
    CodeOK P x fr H nx0 ⟨oc.ax, fr2, H2, nx2, []⟩ := by
  intro ds D ρ a w hlt hf hw
  have hws : WR (szP P) D ρ (hget (pickH H M)) w := hw.less fun b k => hget_pick
  have hr0 : ∀ b b', D b → idxIn M b = some b' → (b' < M.length ∧ D (M.getD b' 0)) ∧ ρ (M.getD b' 0) = ρ b := by
    intro b b' hb hi
    have h3 := idxIn_spec hi
    obtain ⟨h4, h5⟩ := List.getElem?_eq_some_iff.1 h3
    have h6 : M.getD b' 0 = b := by rw [List.getD_eq_getElem?_getD, h3]; rfl
    rw [h6]
    exact ⟨⟨h4, hb⟩, rfl⟩
  have hwc : WR (szP P) (fun b => b < M.length ∧ D (M.getD b 0)) (fun b => ρ (M.getD b 0)) (hget Hc) w := hws.ren h2 hr0
  have hfc := fr_norm (D2 := fun b => b < M.length ∧ D (M.getD b 0)) (ρ2 := fun b => ρ (M.getD b 0)) hf h1 hr0
  refine wp_mono (h (fun b => b < M.length ∧ D (M.getD b 0)) (fun b => ρ (M.getD b 0)) a w (fun b hb => hb.1) hfc hwc) ?_
  rintro e a2 w2 ⟨rfl, l2, D1, ρ1, hT, hF, hb1, hD1⟩
  refine ⟨rfl, ?_⟩
  have hnS : ∀ c, nx0 ≤ c ∧ c - nx0 < S.length → ¬ D c := fun c hc' hD => by have := hlt c hD; omega
  have hrr : ∀ b b', D1 b → backOf M S nx0 b = some b' → (D b' ∨ b' ∈ List.range' nx0 S.length) ∧ (if hc : nx0 ≤ b' ∧ b' - nx0 < S.length then ρ1 (S[b' - nx0]'hc.2) else ρ b') = ρ1 b := by
    intro b b' hb hrb
    unfold backOf at hrb
    split at hrb
    · rename_i hlt
      have hDb : b < M.length ∧ D (M.getD b 0) := (hD1 b hb).resolve_right (by omega)
      have h6 : M.getD b 0 = b' := by rw [List.getD_eq_getElem?_getD, hrb]; rfl
      rw [h6] at hDb
      refine ⟨.inl hDb.2, ?_⟩
      rw [dif_neg (fun hc' => hnS b' hc' hDb.2)]
      have := hT.same b ⟨hlt, by rw [h6]; exact hDb.2⟩
      rw [this]
      simp only [h6]
    · obtain ⟨i, hi, rfl⟩ := Option.map_eq_some_iff.1 hrb
      have hSi := idxIn_spec hi
      obtain ⟨hlt, hSb⟩ := List.getElem?_eq_some_iff.1 hSi
      refine ⟨.inr (by simp only [List.mem_range'_1]; omega), ?_⟩
      rw [dif_pos ⟨by omega, by omega⟩]
      congr 1
      rw [← hSb]
      congr 1
      omega
  have hT' := hT.trans (T.less hT.wr fun b k => hget_pick (H := oc.hp) (l := upTo 0 M ++ S))
  have hR := T.rename4 (P := P) (D2 := fun b => D b ∨ b ∈ List.range' nx0 S.length) (ρ2 := fun c => if hc : nx0 ≤ c ∧ c - nx0 < S.length then ρ1 (S[c - nx0]'hc.2) else ρ c) hws h2 hr0 hT' h4 (fun b hb => .inl hb)
    (fun b hb => dif_neg fun hc' => hnS b hc' hb) hrr hro
  have hR2 : T (szP P) D ρ (hget H) w (fun b => D b ∨ b ∈ List.range' nx0 S.length) (fun c => if hc : nx0 ≤ c ∧ c - nx0 < S.length then ρ1 (S[c - nx0]'hc.2) else ρ c) (hget H2) w2 :=
    (T.less hw fun b k => hget_pick (H := H) (l := M)).trans hR
  refine ⟨by show nx0 ≤ nx2; omega, _, _, hR2, fr_norm hF h3 hrr, fun b hb => ?_, fun b hb => ?_⟩
  · rcases hb with hb | hb
    · have := hlt b hb; show b < nx2; omega
    · simp only [List.mem_range'_1] at hb; show b < nx2; omega
  · rcases hb with hb | hb
    · exact .inl hb
    · simp only [List.mem_range'_1] at hb; exact .inr hb.1
/-- A code that runs to its end. -/
theorem codeOK_of (hc : CallSpec P call) (hm : P.follows .mixedOrders = true) {ω : Orc} {LF F : Nat} {c : Code} {fr : List Value} {nx : Nat} {o : Out} (h : aCode P call ω LF F c fr H nx = some o) (ho : Ob o.ob) : CodeOK P c fr H nx o :=
  fun ds D ρ a w hlt hf hw => code_spec hc hm F c fr H nx o h ho D ρ a w hlt hf hw
/-- What is kept of it: some slots, some blocks. -/
def trimV (keys K : List Nat) (r : Option Out) : Option (AX × List Value × Heap × Nat × List Prop) := match r with
  | some o => some (o.ax, forgetF keys o.fr 0, pickH o.hp K, o.nx, o.ob)
  | none => none
theorem codeOK_trim (hc : CallSpec P call) (hm : P.follows .mixedOrders = true) {ω : Orc} {LF F : Nat} {c : Code} {fr : List Value} {nx nx2 : Nat} {ax : AX} {fr2 : List Value} {ps : List Prop} (keys K : List Nat) (h : trimV keys K (aCode P call ω LF F c fr H nx) = some (ax, fr2, H2, nx2, ps)) (ho : Ob ps) : CodeOK P c fr H nx ⟨ax, fr2, H2, nx2, []⟩ := by
  unfold trimV at h
  split at h
  · rename_i o hco
    simp only [Option.some.injEq, Prod.mk.injEq] at h
    obtain ⟨e1, e2, e3, e4, e5⟩ := h
    subst e1 e2 e3 e4 e5
    intro ds D ρ a w hlt hf hw
    refine wp_mono (codeOK_of hc hm hco ho D ρ a w hlt hf hw) ?_
    rintro e a2 w2 ⟨he, l2, D1, ρ1, t1, f1, b1, d1⟩
    exact ⟨he, l2, D1, ρ1, t1.trans (T.less t1.wr fun b k => hget_pick), f1.forget, b1, d1⟩
  · cases h
end
end
end Go.Proofs.Ytadpnamooajpoaa
