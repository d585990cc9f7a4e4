/- The engine: a loop whose states are bound by an invariant, not said. -/
import Derived.Test.YtpdfpnfnlikjfaaX18
namespace Go.Proofs.Ytpdfpnfnlikjfaa
open Go.RowKit
set_option linter.unusedSectionVars false
set_option linter.unusedVariables false
variable [Inhabited RawG]
theorem seq_inv {S : Type} (n : Nat) (Inv : Nat → S → Prop) (R : Nat → S → S → Prop) (s0 : S) (h0 : Inv 0 s0) (hr : ∀ k s, k < n → Inv k s → ∃ s', Inv (k + 1) s' ∧ R k s s') :
    ∃ f : Nat → S, f 0 = s0 ∧ (∀ k, k ≤ n → Inv k (f k)) ∧ ∀ k, k < n → R k (f k) (f (k + 1)) := by
  induction n with
  | zero => exact ⟨fun _ => s0, rfl, fun k hk => by obtain rfl : k = 0 := by omega
                                                    exact h0, fun k hk => absurd hk (Nat.not_lt_zero _)⟩
  | succ n ih =>
    obtain ⟨f, e0, e1, e2⟩ := ih (fun k s hk => hr k s (by omega))
    obtain ⟨s', i1, i2⟩ := hr n (f n) (by omega) (e1 n (Nat.le_refl _))
    refine ⟨fun k => if k ≤ n then f k else s', ?_, fun k hk => ?_, fun k hk => ?_⟩
    · simp [e0]
    · by_cases h : k ≤ n
      · simp only [if_pos h]; exact e1 k h
      · obtain rfl : k = n + 1 := by omega
        simp only [if_neg h]; exact i1
    · by_cases h : k < n
      · simp only [if_pos (show k ≤ n by omega), if_pos (show k + 1 ≤ n by omega)]; exact e2 k h
      · obtain rfl : k = n := by omega
        simp only [if_pos (Nat.le_refl k), if_neg (show ¬ k + 1 ≤ k by omega)]; exact i2
theorem loop_inv {P : Program} {call : CallF} (hc : CallSpec P call) (hm : P.follows .mixedOrders = true) {LF F : Nat} {x : Code} {S : Type} (n : Nat) (Inv : Nat → S → Prop) (st : Nat → S → List Value) (hp : Nat → S → Heap) (stE : S → List Value) (hpE : S → Heap)
    {nx0 nxb nx2 : Nat} {keys keysE : List Nat} {ax : AX} (hnx : nx0 ≤ nxb) (hnxo : nx0 ≤ nx2) (hax : ax ≠ .normal) {s0 : S} (h0 : Inv 0 s0)
    (hround : ∀ k s, k < n → Inv k s → ∃ s', Inv (k + 1) s' ∧ RoundTo P call LF F x nx0 nxb keys .normal (st k s) (hp k s) (st (k + 1) s') (hp (k + 1) s') nxb)
    (hlast : ∀ s, Inv n s → RoundTo P call LF F x nx0 nxb keysE ax (st n s) (hp n s) (stE s) (hpE s) nx2) :
    ∃ s, Inv n s ∧ LoopOK P x (st 0 s0) (hp 0 s0) nx0 ⟨ax, stE s, hpE s, nx2, []⟩ := by
  obtain ⟨f, e0, e1, e2⟩ := seq_inv n Inv _ s0 h0 hround
  refine ⟨f n, e1 n (Nat.le_refl _), ?_⟩
  have h := loop_ind hc hm (LF := LF) (F := F) (x := x) (nx0 := nx0) (nxb := nxb) (keys := keys) (keysE := keysE) (o := ⟨ax, stE (f n), hpE (f n), nx2, []⟩) n (fun k => st k (f k)) (fun k => hp k (f k)) hnx hnxo rfl e2 (hlast _ (e1 n (Nat.le_refl _))) hax
  rw [e0] at h
  exact h
end Go.Proofs.Ytpdfpnfnlikjfaa
