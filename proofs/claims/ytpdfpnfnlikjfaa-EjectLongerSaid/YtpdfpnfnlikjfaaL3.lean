/- EjectLonger: the outer loop as a whole. -/
import Derived.Test.YtpdfpnfnlikjfaaL2
namespace Go.Proofs.Ytpdfpnfnlikjfaa
open Go.RowKit
set_option linter.unusedSimpArgs false
set_option linter.unusedVariables false
set_option maxRecDepth 100000
theorem first_or (p : Nat → Prop) [DecidablePred p] : ∀ T, (∀ k, k < T → ¬ p k) ∨ ∃ k, k < T ∧ p k ∧ ∀ j, j < k → ¬ p j
  | 0 => .inl fun k h => by omega
  | T + 1 => by
    rcases first_or p T with h | ⟨k, h1, h2, h3⟩
    · by_cases hp : p T
      · exact .inr ⟨T, by omega, hp, h⟩
      · exact .inl fun k hk => by
          rcases (show k < T ∨ k = T by omega) with h' | rfl
          · exact h k h'
          · exact hp
    · exact .inr ⟨k, by omega, h2, h3⟩
section
variable {cf cb cm : Int} {T : Nat}
theorem out_loop (hc : ConfOK cf cb cm 100) (hb : cf ≤ 40) (hT : T ≤ 100) (hT1 : 1 ≤ T) (h : ∀ k, k < T → ¬ 253402300799 ≤ nowK cb cm (k + 1)) :
    LoopOK Try.prog (loopN Try.prog 6 0) (stO cb cm T 0) (hpO cf cb cm 0) 1472 ⟨.exit 0, frO T T (nowK cb cm T) (lng cb cm (T : Int)) 1472, hE cf cb cm 1472 (0, (T : Int), nowK cb cm T), 1536, []⟩ := by
  refine loop_ind callL_spec mixed (LF := 10) (F := 100) (nxb := 1473) (keys := [1, 2, 5, 6, 7, 8]) (keysE := [1, 2, 5, 6, 7, 8]) T (stO cb cm T) (hpO cf cb cm) (by decide) (by simp) rfl (fun k hk => out_round hc hb hT hk (by have := h k hk; omega)) ?_ (fun h => by cases h)
  obtain ⟨q, rfl⟩ : ∃ q, T = q + 1 := ⟨T - 1, by omega⟩
  exact out_last (t := default) (i := 0) rfl
theorem out_loop_ret (hc : ConfOK cf cb cm 100) (hb : cf ≤ 40) (hT : T ≤ 100) {k : Nat} (hk : k < T) (hk2 : 253402300799 ≤ nowK cb cm (k + 1)) (h : ∀ j, j < k → ¬ 253402300799 ≤ nowK cb cm (j + 1)) :
    LoopOK Try.prog (loopN Try.prog 6 0) (stO cb cm T 0) (hpO cf cb cm 0) 1472 ⟨.ret, mkF [(4, .bool true)] 129 0, [], 1536, []⟩ := by
  have hb1 := hc.b1
  have hc1 := hc.m1
  have hm2 := hc.m2
  have hn0 := nowK_le hb1 hc1 k
  have hlt : nowK cb cm k < 253402300799 := by
    cases k with
    | zero => simp only [nowK]; omega
    | succ j => have := h j (by omega); omega
  have hpos := lng_pos (cm := cm) (m := ((k + 1 : Nat) : Int)) hb1 hc1 (by omega)
  have hnk : nowK cb cm (k + 1) = nowK cb cm k + lng cb cm ((k + 1 : Nat) : Int) := rfl
  have hmay : may_0 cf cb cm 100 (nowK cb cm k) = 0 := may_of hc hn0 (by omega)
  have hun : until_0 cf cb cm 100 ((k : Int) + 1) (nowK cb cm k) = 253402300799 := by
    rw [until_val hc hn0 (by omega) (by omega) (by omega)]
    have e : ((k + 1 : Nat) : Int) = (k : Int) + 1 := rfl
    rw [← e]
    split <;> omega
  refine loop_ind callL_spec mixed (LF := 10) (F := 100) (nxb := 1473) (keys := [1, 2, 5, 6, 7, 8]) (keysE := [4]) k (stO cb cm T) (hpO cf cb cm) (by decide) (by simp) rfl (fun j hj => out_round hc hb hT (by omega) (by have := h j hj; omega)) ?_ (fun h => by cases h)
  have hL := in_loop (T := T) (k := k) (last := lng cb cm (k : Int)) (cf := cf) (cb := cb) (cm := cm) (now := nowK cb cm k) (m := (k : Int)) (u := nowK cb cm k)
  cases k with
  | zero =>
    have hL0 := hL 1152 (.inl rfl) hmay hc.f1 hb (by omega) (by omega) (by omega)
    rw [hun] at hL0
    rw [show lng cb cm ((0 : Nat) : Int) = 0 from lng_zero hb1 hc1] at hL0
    exact out_ret1152 (cf := cf) (cb := cb) (cm := cm) (now := 0) (last := 0) (T := T) (k := 0) (i := cf.toNat) (t := (0, (0 : Int) + 1, 253402300799)) (z := (0, 0, 0)) hk hL0 rfl
  | succ j =>
    have hL0 := hL 1472 (.inr rfl) hmay hc.f1 hb (by omega) (by omega) (by omega)
    rw [hun] at hL0
    exact out_ret1472 (cf := cf) (cb := cb) (cm := cm) (now := nowK cb cm (j + 1)) (last := lng cb cm ((j + 1 : Nat) : Int)) (T := T) (k := j + 1) (i := cf.toNat) (t := (0, ((j + 1 : Nat) : Int) + 1, 253402300799)) (z := (0, ((j + 1 : Nat) : Int), nowK cb cm (j + 1))) hk hL0 rfl
end
end Go.Proofs.Ytpdfpnfnlikjfaa
