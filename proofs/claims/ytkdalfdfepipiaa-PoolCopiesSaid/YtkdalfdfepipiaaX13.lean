/-
  The engine, thirteenth part: a loop whose rounds are not numbered by a literal.
-/
import Derived.Test.YtkdalfdfepipiaaX12
namespace Go.Proofs.Ytkdalfdfepipiaa
set_option linter.unusedSectionVars false
open Go.RowKit
set_option linter.unusedVariables false
variable [Inhabited RawG]

/-- A frame: what is known of some slots. -/
def slotOf : List (Nat × Value) → Nat → Value
  | [], _ => topV
  | (i, v) :: r, n => if i == n then v else slotOf r n
def mkF (l : List (Nat × Value)) : Nat → Nat → List Value
  | 0, _ => []
  | n + 1, i => slotOf l i :: mkF l n (i + 1)
/-- A frame in which all but some slots are forgotten. -/
def normK (r : Nat → Option Nat) (keys : List Nat) : List Value → Nat → Option (List Value)
  | [], _ => some []
  | v :: t, i => match (if memN i keys then ren r 4 v else some topV), normK r keys t (i + 1) with
    | some v', some t' => some (v' :: t')
    | _, _ => none

/-- The loops of a code, in the order of the text. -/
def loopsIn : Code → List Code
  | .loop x => x :: loopsIn x
  | .seq a b => loopsIn a ++ loopsIn b
  | .cond _ a b => loopsIn a ++ loopsIn b
  | .block _ a => loopsIn a
  | .scope a => loopsIn a
  | _ => []
def loopN (P : Program) (f n : Nat) : Code :=
  match P.funcs[f]? with
  | some fn => match fn.body with
    | some c => ((loopsIn c)[n]?).getD .skip
    | none => .skip
  | none => .skip

section
variable {ds : List Deferred} {P : Program} {call : CallF} {D D' D0 D1 : Nat → Prop} {ρ ρ' ρ0 ρ1 : Nat → Pl} {H H' H0 H1 H2 : Heap} {w w' w1 : World}

theorem normK_spec {r : Nat → Option Nat} {keys : List Nat} : ∀ {fr fr2 : List Value} {i : Nat}, normK r keys fr i = some fr2 → fr2.length = fr.length ∧ ∀ j, fr2.getD j undef = topV ∨ (fr.getD j undef = undef ∧ fr2.getD j undef = undef) ∨ ren r 4 (fr.getD j undef) = some (fr2.getD j undef)
  | [], fr2, i, h => by
    simp only [normK, Option.some.injEq] at h
    subst h
    exact ⟨rfl, fun j => .inr (.inl ⟨rfl, rfl⟩)⟩
  | v :: t, fr2, i, h => by
    simp only [normK] at h
    split at h
    · rename_i v' t' hv ht
      cases h
      obtain ⟨h1, h2⟩ := normK_spec ht
      refine ⟨by simp [h1], fun j => ?_⟩
      cases j with
      | zero =>
        simp only [List.getD_cons_zero]
        split at hv
        · exact .inr (.inr hv)
        · cases hv; exact .inl rfl
      | succ j => simpa using h2 j
    · cases h

/-- Numbers given anew; some slots forgotten. -/
theorem norm_state {nx0 : Nat} {S : List Nat} {keys : List Nat} {fr1 fr2 : List Value} {a1 : Act} (hw : WR (szP P) D0 ρ0 (hget H0) w) (hD0 : ∀ b, D0 b → b < nx0) (hT : T (szP P) D0 ρ0 (hget H0) w D1 ρ1 (hget H1) w1) (hF : FR ds D1 ρ1 fr1 a1) (hD1 : ∀ b, D1 b → D0 b ∨ nx0 ≤ b)
    (hn : normK (renOf S nx0 nx0) keys fr1 0 = some fr2) (hh : renHeap (renOf S nx0 nx0) H1 = some H2) :
    ∃ D2 ρ2, T (szP P) D0 ρ0 (hget H0) w D2 ρ2 (hget H2) w1 ∧ FR ds D2 ρ2 fr2 a1 ∧ (∀ b, D2 b → b < nx0 + S.length) ∧ ∀ b, D2 b → D0 b ∨ nx0 ≤ b := by
  have hnS : ∀ c, nx0 ≤ c ∧ c - nx0 < S.length → ¬ D0 c := fun c hc hD => by have := hD0 c hD; omega
  have hrr : ∀ b b', D1 b → renOf S nx0 nx0 b = some b' → (D0 b' ∨ b' ∈ List.range' nx0 S.length) ∧ (if hc : nx0 ≤ b' ∧ b' - nx0 < S.length then ρ1 (S[b' - nx0]'hc.2) else ρ0 b') = ρ1 b := by
    intro b b' hb hrb
    unfold renOf at hrb
    split at hrb
    · rename_i hlt
      cases hrb
      have hDb : D0 b := (hD1 b hb).resolve_right (by omega)
      refine ⟨.inl hDb, ?_⟩
      rw [dif_neg (fun hc' => hnS b hc' hDb)]
      exact (hT.same b hDb).symm
    · obtain ⟨i, hi, rfl⟩ := Option.map_eq_some_iff.1 hrb
      have hSi := idxIn_spec hi
      obtain ⟨hlt, hSb⟩ := List.getElem?_eq_some_iff.1 hSi
      refine ⟨.inr (by simp only [List.mem_range'_1]; omega), ?_⟩
      rw [dif_pos ⟨by omega, by omega⟩]
      congr 1
      rw [← hSb]
      congr 1
      omega
  have hR := T.rename (P := P) (D2 := fun b => D0 b ∨ b ∈ List.range' nx0 S.length) (ρ2 := fun c => if hc : nx0 ≤ c ∧ c - nx0 < S.length then ρ1 (S[c - nx0]'hc.2) else ρ0 c) hw hT hh (fun b hb => .inl hb)
    (fun b hb => dif_neg fun hc' => hnS b hc' hb) hrr (fun b b' hb hrb => by
      unfold renOf at hrb
      rw [if_pos (hD0 b hb)] at hrb
      cases hrb; rfl)
  obtain ⟨n1, n2⟩ := normK_spec hn
  refine ⟨_, _, hR, ⟨by rw [n1]; exact hF.size, fun t ht => ?_, hF.defers⟩, fun b hb => ?_, fun b hb => ?_⟩
  · rcases n2 t with h1 | ⟨h1, h2⟩ | h1
    · rw [h1] at ht; cases ht
    · rw [h2]
      have := hF.all t (by rw [h1]; rfl)
      rw [h1] at this
      rw [this.flat0_eq rfl]
      exact .und
    · refine ren_vr hrr 4 _ _ _ (hF.all t ?_) h1
      cases hx : isTop (fr1.getD t undef) with
      | false => rfl
      | true =>
        exfalso
        unfold isTop at hx
        split at hx
        · rename_i c hc
          rw [hc] at h1
          simp [ren, flat0] at h1
        · cases hx
  · rcases hb with hb | hb
    · have := hD0 b hb; omega
    · simp only [List.mem_range'_1] at hb; omega
  · rcases hb with hb | hb
    · exact .inl hb
    · simp only [List.mem_range'_1] at hb; exact .inr hb.1

/-- A round from this state leads to that one. -/
def RoundTo (P : Program) (call : CallF) (LF F : Nat) (x : Code) (nx0 nxb : Nat) (keys : List Nat) (ax : AX) (fr : List Value) (H : Heap) (fr2 : List Value) (H2 : Heap) (nx2 : Nat) : Prop :=
  ∃ ω S o1, aCode P call ω LF F x fr H nxb = some o1 ∧ Ob o1.ob ∧ o1.ax = ax ∧ normK (renOf S nx0 nx0) keys o1.fr 0 = some fr2 ∧ renHeap (renOf S nx0 nx0) (gcH (forgetF keys o1.fr 0) o1.hp) = some H2 ∧ nx0 + S.length ≤ nx2

theorem loop_ind (hc : CallSpec P call) (hm : P.follows .mixedOrders = true) {LF F : Nat} {x : Code} (n : Nat) (st : Nat → List Value) (hp : Nat → Heap) {nx0 nxb : Nat} {keys keysE : List Nat} {o : Out} (hnx : nx0 ≤ nxb) (hnxo : nx0 ≤ o.nx) (hob : o.ob = [])
    (hround : ∀ k, k < n → RoundTo P call LF F x nx0 nxb keys .normal (st k) (hp k) (st (k + 1)) (hp (k + 1)) nxb)
    (hlast : RoundTo P call LF F x nx0 nxb keysE o.ax (st n) (hp n) o.fr o.hp o.nx) (hax : o.ax ≠ .normal) : LoopOK P x (st 0) (hp 0) nx0 o := by
  intro ds D ρ a w hlt hf hw
  have key : ∀ m k ak wk, k + m = n → (∃ Dk ρk, T (szP P) D ρ (hget (hp 0)) w Dk ρk (hget (hp k)) wk ∧ FR ds Dk ρk (st k) ak ∧ (∀ b, Dk b → b < nxb) ∧ ∀ b, Dk b → D b ∨ nx0 ≤ b) →
      Code.rounds P x (fun e a' w' => e = o.ax.to ∧ CP ds P D ρ (hp 0) w nx0 o a' w') (m + 1) ak wk := by
    intro m
    induction m with
    | zero =>
      rintro k ak wk hk ⟨Dk, ρk, t1, f1, b1, c1⟩
      obtain rfl : k = n := by omega
      obtain ⟨ω, S, o1, e1, e2, e3, e4, e5, e6⟩ := hlast
      refine wp_mono (code_spec hc hm F x _ _ _ _ e1 e2 Dk ρk ak wk b1 f1 t1.wr) ?_
      rintro e a2 w2 ⟨rfl, l2, D2, ρ2, t2, f2, b2, c2⟩
      obtain ⟨D3, ρ3, t3, f3, b3, c3⟩ := norm_state hw hlt ((t1.trans t2).trans (T.less (t1.trans t2).wr fun b k => hget_restrict)) f2 (fun b hb => by
        rcases c2 b hb with h | h
        · exact c1 b h
        · exact .inr (by omega)) e4 e5
      rw [e3]
      have fin : CP ds P D ρ (hp 0) w nx0 o a2 w2 := ⟨hnxo, D3, ρ3, t3, f3, fun b hb => by have := b3 b hb; omega, c3⟩
      cases hx : o.ax with
      | normal => exact absurd hx hax
      | ret => exact ⟨rfl, fin⟩
      | exit id => exact ⟨rfl, fin⟩
    | succ m ih =>
      rintro k ak wk hk ⟨Dk, ρk, t1, f1, b1, c1⟩
      obtain ⟨ω, S, o1, e1, e2, e3, e4, e5, e6⟩ := hround k (by omega)
      refine wp_mono (code_spec hc hm F x _ _ _ _ e1 e2 Dk ρk ak wk b1 f1 t1.wr) ?_
      rintro e a2 w2 ⟨rfl, l2, D2, ρ2, t2, f2, b2, c2⟩
      rw [e3]
      show Code.rounds P x _ (m + 1) a2 w2
      obtain ⟨D3, ρ3, t3, f3, b3, c3⟩ := norm_state hw hlt ((t1.trans t2).trans (T.less (t1.trans t2).wr fun b k => hget_restrict)) f2 (fun b hb => by
        rcases c2 b hb with h | h
        · exact c1 b h
        · exact .inr (by omega)) e4 e5
      exact ih (k + 1) a2 w2 (by omega) ⟨D3, ρ3, t3, f3, fun b hb => by have := b3 b hb; omega, c3⟩
  refine wp_loop_rounds (n + 1) (key n 0 a w (by omega) ?_)
  exact ⟨D, ρ, T.refl hw, hf, fun b hb => by have := hlt b hb; omega, fun b hb => .inl hb⟩

def roundV (S : List Nat) (nx0 : Nat) (keys : List Nat) (r : Option Out) : Option (AX × List Value × Heap × List Prop) :=
  match r with
  | some o => match normK (renOf S nx0 nx0) keys o.fr 0, renHeap (renOf S nx0 nx0) (gcH (forgetF keys o.fr 0) o.hp) with
    | some f, some h => some (o.ax, f, h, o.ob)
    | _, _ => none
  | none => none
theorem roundTo_of {LF F : Nat} {x : Code} {nx0 nxb : Nat} {keys : List Nat} {ax : AX} {fr : List Value} {H : Heap} {fr2 : List Value} {H2 : Heap} {nx2 : Nat} (ω : Orc) (S : List Nat) {ps : List Prop}
    (h : roundV S nx0 keys (aCode P call ω LF F x fr H nxb) = some (ax, fr2, H2, ps)) (hp : Ob ps) (hS : nx0 + S.length ≤ nx2) : RoundTo P call LF F x nx0 nxb keys ax fr H fr2 H2 nx2 := by
  unfold roundV at h
  split at h
  · rename_i o ho
    split at h
    · rename_i f hh h1 h2
      cases h
      exact ⟨ω, S, o, ho, hp, rfl, h1, h2, hS⟩
    · cases h
  · cases h
end
end Go.Proofs.Ytkdalfdfepipiaa
