/- EjectWell: what the reports make of the lists; plain. -/
import Derived.Test.YtpdfpnfnlikjfaaL2
namespace Go.Proofs.Ytpdfpnfnlikjfaa
open Go.RowKit
set_option linter.unusedSimpArgs false
set_option linter.unusedVariables false
set_option maxRecDepth 100000
/-- The list with the failures of the others, behind so many rounds. -/
def wl (fs : List Int) (T : Nat) : Nat → List EjT
  | 0 => List.replicate T (0, 0, 0)
  | r + 1 => (wl fs T r).set (r + 1) (pick_0 (fs.getD (r + 1) 0) 1048576, ((wl fs T r).getD (r + 1) default).2.1, ((wl fs T r).getD (r + 1) default).2.2)
theorem wl_len (fs : List Int) (T : Nat) : ∀ r, (wl fs T r).length = T
  | 0 => by simp [wl]
  | r + 1 => by simp [wl, wl_len fs T r]
theorem wl_until (fs : List Int) (T : Nat) : ∀ r, ∀ t ∈ wl fs T r, t.2.2 = 0
  | 0 => fun t h => by
    have := List.eq_of_mem_replicate h
    rw [this]
  | r + 1 => fun t h => by
    rcases List.mem_or_eq_of_mem_set h with h | h
    · exact wl_until fs T r t h
    · rw [h]
      show ((wl fs T r).getD (r + 1) default).2.2 = 0
      rw [List.getD_eq_getElem?_getD]
      cases hg : (wl fs T r)[r + 1]? with
      | none => rfl
      | some t => exact wl_until fs T r t (List.mem_of_getElem? hg)
theorem wl_head (fs : List Int) (T : Nat) (hT : 1 ≤ T) : ∀ r, (wl fs T r).head? = some (0, 0, 0)
  | 0 => by
    obtain ⟨q, rfl⟩ : ∃ q, T = q + 1 := ⟨T - 1, by omega⟩
    rfl
  | r + 1 => by
    have h := wl_head fs T hT r
    rw [wl]
    cases hl : wl fs T r with
    | nil => rw [hl] at h; cases h
    | cons t ts => rw [hl] at h; exact h
def wrest (fs : List Int) (T : Nat) (r : Nat) : List EjT := (wl fs T r).tail
theorem wl_cons {fs : List Int} {T : Nat} (hT : 1 ≤ T) (r : Nat) : wl fs T r = (0, 0, 0) :: wrest fs T r := by
  have h := wl_head fs T hT r
  rw [wrest]
  cases hl : wl fs T r with
  | nil => rw [hl] at h; cases h
  | cons t ts => rw [hl] at h; cases h; rfl
theorem wrest_len {fs : List Int} {T : Nat} (hT : 1 ≤ T) (r : Nat) : (wrest fs T r).length + 1 = T := by
  rw [wrest, List.length_tail, wl_len]; omega
theorem wrest_until {fs : List Int} {T r : Nat} : ∀ t ∈ wrest fs T r, t.2.2 = 0 := fun t h => wl_until fs T r t (List.mem_of_mem_tail h)
section
variable {cf cb cm cp now : Int}
theorem cnt0 {l : List EjT} (h0 : 0 ≤ now) (h : ∀ t ∈ l, t.2.2 = 0) : ejCount l now = 0 := by
  rw [ejCount, List.filter_eq_nil_iff.2]
  · rfl
  · intro t ht
    have := h t ht
    simp; omega
theorem wmiss {f m u : Int} {r : List EjT} (hf : 0 ≤ f) (hf2 : f < 1000) (h : f + 1 < cf) : repE cf cb cm cp ((f, m, u) :: r) 0 false now = (f + 1, m, u) := by
  have e1 : decide (f < 1048576) = true := by simp; omega
  have e2 : decide (f + 1 ≥ cf) = false := by simp; omega
  unfold repE
  simp only [List.getD_cons_zero, cond_false, e1, cond_true]
  rw [w64 (n := f + 1) (by omega), e2]
  simp
/-- What it is put out for. -/
def tEnd (cf cb cm cp now : Int) (T : Nat) : EjT := bif decide (100 ≤ IntKind.i64.wrap (cp * (T : Int))) then (0, 1, until_0 cf cb cm cp 1 now) else (cf, 0, 0)
theorem whit {f : Int} {r : List EjT} {T : Nat} (hT : r.length + 1 = T) (h0 : 0 ≤ now) (hr : ∀ t ∈ r, t.2.2 = 0) (hf : 0 ≤ f) (hf2 : f < 1000) (h : f + 1 = cf) : repE cf cb cm cp ((f, 0, 0) :: r) 0 false now = tEnd cf cb cm cp now T := by
  have e1 : decide (f < 1048576) = true := by simp; omega
  have e2 : decide (f + 1 ≥ cf) = true := by simp; omega
  have e3 : decide ((0 : Int) > now) = false := by simp; omega
  have e4 : decide ((0 : Int) < 1048576) = true := by decide
  have e5 : ejCount ((f, 0, 0) :: r) now = 0 := cnt0 h0 (fun t ht => by
    rcases List.mem_cons.1 ht with rfl | ht
    · rfl
    · exact hr t ht)
  have e6 : ((((f, (0 : Int), (0 : Int)) : EjT) :: r).length : Nat) = T := hT
  have e7 : IntKind.i64.wrap (((0 + 1 : Nat) : Int) * 100) = 100 := by decide
  unfold repE tEnd
  simp only [List.getD_cons_zero, cond_false, e1, e3, e4, e5, e6, e7, cond_true]
  rw [w64 (n := f + 1) (by omega), w64 (n := 0 + 1) (by omega), e2]
  simp only [Bool.not_false, Bool.true_and, h, Int.zero_add]
theorem wwell {f : Int} {r : List EjT} (h0 : 0 ≤ now) : repE cf cb cm cp ((f, 0, 0) :: r) 0 true now = (0, 0, 0) := by
  have e3 : decide ((0 : Int) > now) = false := by simp; omega
  unfold repE
  simp only [List.getD_cons_zero, cond_true, e3, Bool.not_false]
/-- The head behind so many failures. -/
def tW (cf cb cm cp now : Int) (T : Nat) (i : Nat) : EjT := if (i : Int) < cf then ((i : Int), 0, 0) else tEnd cf cb cm cp now T
theorem tW_next {r : List EjT} {T i : Nat} (hT : r.length + 1 = T) (h0 : 0 ≤ now) (hr : ∀ t ∈ r, t.2.2 = 0) (hb : cf ≤ 40) (hi : (i : Int) < cf) : repE cf cb cm cp (tW cf cb cm cp now T i :: r) 0 false now = tW cf cb cm cp now T (i + 1) := by
  have e0 : tW cf cb cm cp now T i = ((i : Int), 0, 0) := if_pos hi
  rw [e0]
  by_cases h : ((i + 1 : Nat) : Int) < cf
  · rw [wmiss (by omega) (by omega) (by omega), tW, if_pos h]; rfl
  · rw [whit hT h0 hr (by omega) (by omega) (by omega), tW, if_neg h]
theorem tW_out {T i : Nat} (h0 : 0 ≤ now) (hi : (i : Int) < cf) : (tW cf cb cm cp now T i).2.2 ≤ now := by
  rw [tW, if_pos hi]; exact h0
theorem until_gt (hc : ConfOK cf cb cm cp) (h0 : 0 ≤ now) (h1 : now ≤ 137438953472) : now < until_0 cf cb cm cp 1 now := by
  obtain ⟨f1, f2, b1, b2, m1, m2, p1, p2⟩ := hc
  have hmay : may_0 cf cb cm cp now = 0 := may_of ⟨f1, f2, b1, b2, m1, m2, p1, p2⟩ h0 (by omega)
  have hdiv : cm.tdiv cb = cm / cb := Int.tdiv_eq_ediv_of_nonneg (by omega)
  have hd1 : (1 : Int) ≤ cm / cb := (Int.le_ediv_iff_mul_le (by omega)).2 (by omega)
  have hd2 : cm / cb ≤ cm := Int.ediv_le_self _ (by omega)
  have e1 : (may_0 cf cb cm cp now != 0) = false := by rw [hmay]; rfl
  have e2 : decide ((1 : Int) < 1) = false := by decide
  unfold until_0
  rw [e1, e2]
  simp only [cond_false, hdiv]
  rw [w64 (n := cm / cb) (by omega)]
  have e3 : decide ((1 : Int) ≤ cm / cb) = true := by simpa using hd1
  rw [e3]
  simp only [cond_true]
  rw [w64 (n := cb * 1) (by omega), w64 (n := 253402300799 - cb * 1) (by omega)]
  split
  · rw [w64 (by omega)]; omega
  · rw [w64 (by omega)]; omega
theorem tEnd_out (hc : ConfOK cf cb cm cp) (h0 : 0 ≤ now) (h1 : now ≤ 137438953472) (T : Nat) : decide ((tEnd cf cb cm cp now T).2.2 > now) = decide (100 ≤ IntKind.i64.wrap (cp * (T : Int))) := by
  unfold tEnd
  rcases Bool.eq_false_or_eq_true (decide (100 ≤ IntKind.i64.wrap (cp * (T : Int)))) with h | h
  · rw [h]
    simp only [cond_true]
    have := until_gt hc h0 h1
    simpa using this
  · rw [h]
    simp only [cond_false]
    simp; omega
end
theorem row3 (T : Nat) : (rowZero (T * 3) (Value.agg #[Value.int IntKind.i64 0, Value.int IntKind.i64 0, Value.int IntKind.i64 0]).cells).toList = List.flatMap ejF (wl [] T 0) := by
  have hz : ∀ k, (#[Value.int IntKind.i64 0, Value.int IntKind.i64 0, Value.int IntKind.i64 0] : Array Value)[k % 3]! = Value.int IntKind.i64 0 := fun k => by
    rcases (show k % 3 = 0 ∨ k % 3 = 1 ∨ k % 3 = 2 by omega) with h | h | h <;> rw [h] <;> rfl
  show ((Array.range (T * 3)).map (fun k => (#[Value.int IntKind.i64 0, Value.int IntKind.i64 0, Value.int IntKind.i64 0] : Array Value)[k % 3]!)).toList = _
  rw [Array.toList_map, Array.toList_range]
  show _ = List.flatMap ejF (List.replicate T (0, 0, 0))
  induction T with
  | zero => rfl
  | succ q ih =>
    rw [Nat.succ_mul, List.replicate_succ', List.flatMap_append, ← ih]
    rw [show q * 3 + 3 = q * 3 + 1 + 1 + 1 from rfl, List.range_succ, List.range_succ, List.range_succ]
    simp only [List.map_append, List.map_cons, List.map_nil, hz, List.append_assoc]
    rfl
section
variable {cf cb cm cp now : Int} {T i : Nat} {r : List EjT}
theorem rep_next (hT : r.length + 1 = T) (hT2 : T ≤ 100) (h0 : 0 ≤ now) (hr : ∀ t ∈ r, t.2.2 = 0) (hb : cf ≤ 40) (hm : may_0 cf cb cm cp now = 0) (hi : (i : Int) < cf) : CallOK Try.prog 10 [.agg #[.int .i64 cf, .int .i64 cb, .int .i64 cm, .int .i64 cp], .slice (some ⟨0, 0, none⟩) T T, .int .i64 0, .bool false, .int .i64 now] [(0, ⟨27, (tW cf cb cm cp now T i :: r).flatMap ejF, 3⟩)] 1 (.tuple #[.slice (some ⟨2241, 0, none⟩) T T, .int .i64 0]) [(0, ⟨27, (tW cf cb cm cp now T i :: r).flatMap ejF, 3⟩), (2241, ⟨27, (tW cf cb cm cp now T (i + 1) :: r).flatMap ejF, 3⟩)] := by
  have h := report_ok3 (c := T) (el := 27) (well := false) (l := tW cf cb cm cp now T i :: r) (k := 0) (by simp) (by simp; omega) hm
  rw [tW_next hT h0 hr hb hi] at h
  subst hT
  exact h
theorem rep_wl (hT : r.length + 1 = T) (hT2 : T ≤ 100) (h0 : 0 ≤ now) (hm : may_0 cf cb cm cp now = 0) (h1 : 1 ≤ cf) : CallOK Try.prog 10 [.agg #[.int .i64 cf, .int .i64 cb, .int .i64 cm, .int .i64 cp], .slice (some ⟨0, 0, none⟩) T T, .int .i64 0, .bool true, .int .i64 now] [(0, ⟨27, (tW cf cb cm cp now T (cf - 1).toNat :: r).flatMap ejF, 3⟩)] 1 (.tuple #[.slice (some ⟨2241, 0, none⟩) T T, .int .i64 0]) [(0, ⟨27, (tW cf cb cm cp now T (cf - 1).toNat :: r).flatMap ejF, 3⟩), (2241, ⟨27, (((0 : Int), (0 : Int), (0 : Int)) :: r).flatMap ejF, 3⟩)] := by
  have h := report_ok3 (c := T) (el := 27) (well := true) (l := tW cf cb cm cp now T (cf - 1).toNat :: r) (k := 0) (by simp) (by simp; omega) hm
  have e : tW cf cb cm cp now T (cf - 1).toNat = (((cf - 1).toNat : Int), 0, 0) := if_pos (by omega)
  have e2 : repE cf cb cm cp (tW cf cb cm cp now T (cf - 1).toNat :: r) 0 true now = (0, 0, 0) := by rw [e]; exact wwell h0
  rw [e2] at h
  subst hT
  exact h
theorem out_head {t : EjT} (hT : r.length + 1 = T) : CallOK Try.prog 14 [.slice (some ⟨0, 0, none⟩) T T, .int .i64 0, .int .i64 now] [(0, ⟨27, (t :: r).flatMap ejF, 3⟩)] 1 (.bool (decide (t.2.2 > now))) [(0, ⟨27, (t :: r).flatMap ejF, 3⟩)] := by
  subst hT
  exact out_ok3 (l := t :: r) (k := 0) (by simp)
theorem pick_rng2 (x : Int) : 0 ≤ pick_0 x 20 ∧ pick_0 x 20 < 20 := by
  have h1 := Int.tmod_lt_of_pos x (show (0 : Int) < 20 by decide)
  have h2 := Int.lt_tmod_of_pos x (show (0 : Int) < 20 by decide)
  unfold pick_0
  rw [show decide ((20 : Int) < 1) = false from rfl]
  simp only [cond_false]
  by_cases h : x.tmod 20 < 0
  · rw [show decide (x.tmod 20 < 0) = true by simpa using h]
    simp only [cond_true]
    rw [w64 (by omega)]
    omega
  · rw [show decide (x.tmod 20 < 0) = false by simpa using h]
    simp only [cond_false]
    omega
end
end Go.Proofs.Ytpdfpnfnlikjfaa
