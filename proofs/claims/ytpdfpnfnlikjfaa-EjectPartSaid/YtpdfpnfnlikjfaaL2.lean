/- EjectLonger: the loops; what they compute in plain words. -/
import Derived.Test.YtpdfpnfnlikjfaaL1
namespace Go.Proofs.Ytpdfpnfnlikjfaa
open Go.RowKit
set_option linter.unusedSimpArgs false
set_option linter.unusedVariables false
set_option maxRecDepth 100000
theorem w64 {n : Int} (h : -9223372036854775808 ≤ n ∧ n ≤ 9223372036854775807) : IntKind.i64.wrap n = n := IntWalk.i64_in n h
/-- How long one is out that is put out so many times in a row. -/
def lng (cb cm : Int) (m : Int) : Int := if m ≤ cm / cb then cb * m else cm
section
variable {cf cb cm now : Int}
theorem mul_le_of_div {m : Int} (hb : 1 ≤ cb) (h : m ≤ cm / cb) : cb * m ≤ cm := by
  have h1 : cb * m ≤ cb * (cm / cb) := Int.mul_le_mul_of_nonneg_left h (by omega)
  have h2 := Int.mul_ediv_self_le (x := cm) (k := cb) (by omega)
  omega
theorem lng_le {m : Int} (hb : 1 ≤ cb) : lng cb cm m ≤ cm := by
  unfold lng
  split
  · rename_i h; exact mul_le_of_div hb h
  · exact Int.le_refl _
theorem lng_pos {m : Int} (hb : 1 ≤ cb) (hc : cb ≤ cm) (hm : 1 ≤ m) : 1 ≤ lng cb cm m := by
  unfold lng
  split
  · have : cb * 1 ≤ cb * m := Int.mul_le_mul_of_nonneg_left hm (by omega)
    omega
  · omega
theorem lng_mono {m : Int} (hb : 1 ≤ cb) (hm : 0 ≤ m) : lng cb cm m ≤ lng cb cm (m + 1) := by
  by_cases h : m + 1 ≤ cm / cb
  · have e1 : lng cb cm (m + 1) = cb * (m + 1) := if_pos h
    have e2 : lng cb cm m = cb * m := if_pos (by omega)
    rw [e1, e2, Int.mul_add]; omega
  · have e1 : lng cb cm (m + 1) = cm := if_neg h
    rw [e1]; exact lng_le hb
theorem lng_next {m : Int} (hb : 1 ≤ cb) : lng cb cm (m + 1) = lng cb cm m + cb ∨ lng cb cm (m + 1) = cm := by
  by_cases h : m + 1 ≤ cm / cb
  · have e1 : lng cb cm (m + 1) = cb * (m + 1) := if_pos h
    have e2 : lng cb cm m = cb * m := if_pos (by omega)
    left; rw [e1, e2, Int.mul_add]; omega
  · exact .inr (if_neg h)
theorem lng_zero (hb : 1 ≤ cb) (hc : cb ≤ cm) : lng cb cm 0 = 0 := by
  have : (0 : Int) ≤ cm / cb := Int.ediv_nonneg (by omega) (by omega)
  rw [lng, if_pos this]; simp
theorem lng_one (hb : 1 ≤ cb) (hc : cb ≤ cm) : lng cb cm 1 = cb := by
  have : (1 : Int) ≤ cm / cb := (Int.le_ediv_iff_mul_le (by omega)).2 (by omega)
  rw [lng, if_pos this]; simp
theorem until_val {m : Int} (hc : ConfOK cf cb cm 100) (h0 : 0 ≤ now) (h1 : now ≤ 253402300799) (hm : 1 ≤ m) (hm2 : m ≤ 100000) : until_0 cf cb cm 100 m now = if now + lng cb cm m ≤ 253402300799 then now + lng cb cm m else 253402300799 := by
  obtain ⟨f1, f2, b1, b2, m1, m2, p1, p2⟩ := hc
  have hmay : may_0 cf cb cm 100 now = 0 := may_of ⟨f1, f2, b1, b2, m1, m2, p1, p2⟩ h0 h1
  have hdiv : cm.tdiv cb = cm / cb := Int.tdiv_eq_ediv_of_nonneg (by omega)
  have hd1 : 0 ≤ cm / cb := Int.ediv_nonneg (by omega) (by omega)
  have hd2 : cm / cb ≤ cm := Int.ediv_le_self _ (by omega)
  have e1 : (may_0 cf cb cm 100 now != 0) = false := by rw [hmay]; rfl
  have e2 : decide (m < 1) = false := by simp; omega
  unfold until_0
  rw [e1, e2]
  simp only [cond_false, hdiv]
  rw [w64 (n := cm / cb) (by omega)]
  have hle := lng_le (cm := cm) (m := m) b1
  by_cases h : m ≤ cm / cb
  · have e3 : decide (m ≤ cm / cb) = true := by simpa using h
    have e4 : lng cb cm m = cb * m := if_pos h
    have hpos : 0 ≤ cb * m := Int.mul_nonneg (by omega) (by omega)
    have hmc := mul_le_of_div b1 h
    rw [e3, e4]
    simp only [cond_true]
    rw [w64 (n := cb * m) (by omega), w64 (n := 253402300799 - cb * m) (by omega)]
    split
    · rw [w64 (by omega)]; split <;> omega
    · rw [w64 (by omega)]; split <;> omega
  · have e3 : decide (m ≤ cm / cb) = false := by simpa using h
    have e4 : lng cb cm m = cm := if_neg h
    rw [e3, e4]
    simp only [cond_false]
    rw [w64 (n := 253402300799 - cm) (by omega)]
    split
    · rw [w64 (by omega)]; split <;> omega
    · rw [w64 (by omega)]; split <;> omega
theorem rep_miss {f m u : Int} (hu : u ≤ now) (hf : 0 ≤ f) (hf2 : f < 1000) (h : f + 1 < cf) : repE cf cb cm 100 [(f, m, u)] 0 false now = (f + 1, m, u) := by
  have e1 : decide (f < 1048576) = true := by simp; omega
  have e2 : decide (f + 1 ≥ cf) = false := by simp; omega
  unfold repE
  simp only [List.getD_cons_zero, cond_false, e1, cond_true]
  rw [w64 (n := f + 1) (by omega), e2]
  simp
theorem rep_hit {f m u : Int} (hu : u ≤ now) (hf : 0 ≤ f) (hf2 : f < 1000) (hm : 0 ≤ m) (hm2 : m < 1000) (h : f + 1 = cf) : repE cf cb cm 100 [(f, m, u)] 0 false now = (0, m + 1, until_0 cf cb cm 100 (m + 1) now) := by
  have e1 : decide (f < 1048576) = true := by simp; omega
  have e2 : decide (f + 1 ≥ cf) = true := by simp; omega
  have e3 : decide (u > now) = false := by simp; omega
  have e4 : decide (m < 1048576) = true := by simp; omega
  have e5 : ejCount [(f, m, u)] now = 0 := by simp only [ejCount, List.filter_cons, e3, List.filter_nil]; rfl
  unfold repE
  simp only [List.getD_cons_zero, cond_false, e1, e3, e4, e5, cond_true]
  rw [w64 (n := f + 1) (by omega), w64 (n := m + 1) (by omega), e2]
  simp only [Bool.not_false, Bool.true_and, List.length_cons, List.length_nil]
  have e6 : decide (IntKind.i64.wrap (((0 + 1 : Nat) : Int) * 100) ≤ IntKind.i64.wrap (100 * ((0 + 1 : Nat) : Int))) = true := by decide
  rw [e6]
  rfl
theorem rep_well {m u : Int} (hu : u ≤ now) : repE cf cb cm 100 [(0, m, u)] 0 true now = (0, 0, u) := by
  have e3 : decide (u > now) = false := by simp; omega
  unfold repE
  simp only [List.getD_cons_zero, cond_true, e3, Bool.not_false]
end
def frI (T k : Nat) (now last : Int) (b i : Nat) : List Value := mkF [(1, .int .i64 (T : Int)), (2, .pointer (some ⟨0, 0, none⟩)), (5, .slice (some ⟨b, 0, none⟩) 1 1), (6, .int .i64 now), (7, .int .i64 last), (8, .int .i64 (k : Int)), (9, .int .i64 (i : Int))] 129 0
def frO (T k : Nat) (now last : Int) (b : Nat) : List Value := mkF [(1, .int .i64 (T : Int)), (2, .pointer (some ⟨0, 0, none⟩)), (5, .slice (some ⟨b, 0, none⟩) 1 1), (6, .int .i64 now), (7, .int .i64 last), (8, .int .i64 (k : Int))] 129 0
def hE (cf cb cm : Int) (b : Nat) (t : EjT) : Heap := [(0, ⟨24, [Value.int .i64 cf, Value.int .i64 cb, Value.int .i64 cm, Value.int .i64 100], 0⟩), (b, ⟨27, [t].flatMap ejF, 3⟩)]
section
variable {cf cb cm now last : Int} {T k : Nat}
/-- Behind so many failures. -/
def tIn (cf cb cm now : Int) (m u : Int) (i : Nat) : EjT := if (i : Int) < cf then ((i : Int), m, u) else (0, m + 1, until_0 cf cb cm 100 (m + 1) now)
theorem tIn_next {m u : Int} {i : Nat} (hu : u ≤ now) (hm : 0 ≤ m) (hm2 : m < 1000) (hb : cf ≤ 40) (hi : (i : Int) < cf) : repE cf cb cm 100 [tIn cf cb cm now m u i] 0 false now = tIn cf cb cm now m u (i + 1) := by
  have e0 : tIn cf cb cm now m u i = ((i : Int), m, u) := if_pos hi
  rw [e0]
  by_cases h : ((i + 1 : Nat) : Int) < cf
  · rw [rep_miss hu (by omega) (by omega) (by omega)]
    rw [tIn, if_pos h]
    rfl
  · rw [rep_hit hu (by omega) (by omega) hm hm2 (by omega), tIn, if_neg h]
theorem in_loop {m u : Int} (b : Nat) (hbb : b = 1152 ∨ b = 1472) (hmay : may_0 cf cb cm 100 now = 0) (h1 : 1 ≤ cf) (hb : cf ≤ 40) (hu : u ≤ now) (hm : 0 ≤ m) (hm2 : m < 1000) :
    LoopOK Try.prog (loopN Try.prog 6 1) (frI T k now last b 0) (hE cf cb cm b (0, m, u)) 1729 ⟨.exit 2, frI T k now last 1729 cf.toNat, hE cf cb cm 1729 (0, m + 1, until_0 cf cb cm 100 (m + 1) now), 1793, []⟩ := by
  have hn : ((cf.toNat : Nat) : Int) = cf := Int.toNat_of_nonneg (by omega)
  have t0 : tIn cf cb cm now m u 0 = (0, m, u) := if_pos (by simp; omega)
  have tn : tIn cf cb cm now m u cf.toNat = (0, m + 1, until_0 cf cb cm 100 (m + 1) now) := if_neg (by omega)
  have key : ∀ i, i ≠ 0 → frI T k now last (if i = 0 then b else 1729) i = frI T k now last 1729 i := fun i h => by rw [if_neg h]
  refine loop_ind callL_spec mixed (LF := 10) (F := 100) (nxb := 1730) (keys := [1, 2, 5, 6, 7, 8, 9]) (keysE := [1, 2, 5, 6, 7, 8, 9]) cf.toNat (fun i => match i with | 0 => frI T k now last b 0 | i + 1 => frI T k now last 1729 (i + 1)) (fun i => match i with | 0 => hE cf cb cm b (0, m, u) | i + 1 => hE cf cb cm 1729 (tIn cf cb cm now m u (i + 1))) (by decide) (by simp) rfl ?_ ?_ (fun h => by cases h)
  · intro i hi
    have hi' : (i : Int) < cf := by omega
    have hx := tIn_next (cf := cf) (cb := cb) (cm := cm) (now := now) (m := m) (u := u) (i := i) hu hm hm2 hb hi'
    cases i with
    | zero =>
      rw [t0] at hx
      rcases hbb with rfl | rfl
      · have := in_round1152 (cf := cf) (cb := cb) (cm := cm) (now := now) (last := last) (T := T) (k := k) (i := 0) (t := (0, m, u)) (z := default) hi' hb hu hmay
        rw [hx] at this
        exact this
      · have := in_round1472 (cf := cf) (cb := cb) (cm := cm) (now := now) (last := last) (T := T) (k := k) (i := 0) (t := (0, m, u)) (z := default) hi' hb hu hmay
        rw [hx] at this
        exact this
    | succ i =>
      have hu' : (tIn cf cb cm now m u (i + 1)).2.2 ≤ now := by rw [tIn, if_pos hi']; exact hu
      have := in_round1729 (cf := cf) (cb := cb) (cm := cm) (now := now) (last := last) (T := T) (k := k) (i := i + 1) (t := tIn cf cb cm now m u (i + 1)) (z := default) hi' hb hu' hmay
      rw [hx] at this
      exact this
  · obtain ⟨q, hq⟩ : ∃ q, cf.toNat = q + 1 := ⟨cf.toNat - 1, by omega⟩
    have hl := in_last (cf := cf) (cb := cb) (cm := cm) (now := now) (last := last) (T := T) (k := k) (i := cf.toNat) (t := tIn cf cb cm now m u cf.toNat) (z := default) hn
    rw [← tn]
    rw [hq] at hl ⊢
    exact hl
/-- The times at which it is put out. -/
def nowK (cb cm : Int) : Nat → Int
  | 0 => 0
  | k + 1 => nowK cb cm k + lng cb cm ((k + 1 : Nat) : Int)
theorem nowK_le (hb : 1 ≤ cb) (hc : cb ≤ cm) : ∀ k, 0 ≤ nowK cb cm k
  | 0 => Int.le_refl _
  | k + 1 => by
    have := nowK_le hb hc k
    have := lng_pos (cm := cm) (m := ((k + 1 : Nat) : Int)) hb hc (by omega)
    simp only [nowK]
    omega
def stO (cb cm : Int) (T : Nat) : Nat → List Value
  | 0 => frO T 0 0 0 1152
  | k + 1 => frO T (k + 1) (nowK cb cm (k + 1)) (lng cb cm ((k + 1 : Nat) : Int)) 1472
def hpO (cf cb cm : Int) : Nat → Heap
  | 0 => hE cf cb cm 1152 (0, 0, 0)
  | k + 1 => hE cf cb cm 1472 (0, ((k + 1 : Nat) : Int), nowK cb cm (k + 1))
/-- A round of the outer loop. -/
theorem out_round (hc : ConfOK cf cb cm 100) (hb : cf ≤ 40) (hT : T ≤ 100) (hk : k < T) (hlt : nowK cb cm (k + 1) < 253402300799) :
    RoundTo Try.prog callL 10 100 (loopN Try.prog 6 0) 1472 1473 [1, 2, 5, 6, 7, 8] .normal (stO cb cm T k) (hpO cf cb cm k) (stO cb cm T (k + 1)) (hpO cf cb cm (k + 1)) 1473 := by
  have hb1 := hc.b1
  have hc1 := hc.m1
  have hm2 := hc.m2
  have hn0 := nowK_le hb1 hc1 k
  have hpos := lng_pos (cm := cm) (m := ((k + 1 : Nat) : Int)) hb1 hc1 (by omega)
  have hle := lng_le (cm := cm) (m := ((k + 1 : Nat) : Int)) hb1
  have hnk : nowK cb cm (k + 1) = nowK cb cm k + lng cb cm ((k + 1 : Nat) : Int) := rfl
  have hmay : may_0 cf cb cm 100 (nowK cb cm k) = 0 := may_of hc hn0 (by omega)
  have hun : until_0 cf cb cm 100 ((k : Int) + 1) (nowK cb cm k) = nowK cb cm (k + 1) := by
    rw [until_val hc hn0 (by omega) (by omega) (by omega)]
    have e : ((k + 1 : Nat) : Int) = (k : Int) + 1 := rfl
    rw [← e, if_pos (by omega)]
    rfl
  have hL := in_loop (T := T) (k := k) (last := lng cb cm (k : Int)) (cf := cf) (cb := cb) (cm := cm) (now := nowK cb cm k) (m := (k : Int)) (u := nowK cb cm k)
  have hmono := lng_mono (cm := cm) (m := (k : Int)) hb1 (by omega)
  have hnext := lng_next (cm := cm) (m := (k : Int)) hb1
  have hle2 := lng_le (cm := cm) (m := (k : Int)) hb1
  have hwl : IntKind.i64.wrap (nowK cb cm (k + 1) - nowK cb cm k) = lng cb cm ((k + 1 : Nat) : Int) := by rw [hnk, w64 (by omega)]; omega
  have hwb : IntKind.i64.wrap (lng cb cm (k : Int) + cb) = lng cb cm (k : Int) + cb := w64 (by
    have : 0 ≤ lng cb cm (k : Int) := by
      cases k with
      | zero => rw [show ((0 : Nat) : Int) = 0 from rfl, lng_zero hb1 hc1]; exact Int.le_refl _
      | succ j => have := lng_pos (cm := cm) (m := ((j + 1 : Nat) : Int)) hb1 hc1 (by omega); omega
    omega)
  have e1 : ((k + 1 : Nat) : Int) = (k : Int) + 1 := rfl
  cases k with
  | zero =>
    have hL0 := hL 1152 (.inl rfl) hmay hc.f1 hb (by omega) (by omega) (by omega)
    rw [hun] at hL0
    have hz : lng cb cm ((0 : Nat) : Int) = 0 := lng_zero hb1 hc1
    rw [hz] at hL0 hwb hmono hnext
    have := out_round1152 (cf := cf) (cb := cb) (cm := cm) (now := 0) (last := 0) (T := T) (k := 0) (i := cf.toNat) (t := (0, (0 : Int) + 1, nowK cb cm (0 + 1))) (z := (0, 0, 0)) hk hT hL0 (by show nowK cb cm (0 + 1) ≠ _; omega) (by show (0 : Int) < nowK cb cm (0 + 1); rw [hnk]; show (0 : Int) < 0 + _; omega)
      (by show (0 : Int) ≤ IntKind.i64.wrap (nowK cb cm (0 + 1) - 0); have := hwl; simp only [nowK] at this ⊢; rw [this]; omega) (by show IntKind.i64.wrap (nowK cb cm (0 + 1) - 0) ≤ cm; have := hwl; simp only [nowK] at this ⊢; rw [this]; exact hle)
      (fun _ => by show IntKind.i64.wrap (nowK cb cm (0 + 1) - 0) = cb; have := hwl; simp only [nowK] at this ⊢; rw [this]; exact lng_one hb1 hc1)
      (by show IntKind.i64.wrap (nowK cb cm (0 + 1) - 0) = _ ∨ IntKind.i64.wrap (nowK cb cm (0 + 1) - 0) = _; have := hwl; simp only [nowK] at this ⊢; rw [this, hwb, e1]; exact hnext)
    have hw2 : IntKind.i64.wrap (nowK cb cm (0 + 1) - 0) = lng cb cm ((0 + 1 : Nat) : Int) := by have := hwl; simpa only [nowK] using this
    simp only [hw2] at this
    exact this
  | succ j =>
    have hL0 := hL 1472 (.inr rfl) hmay hc.f1 hb (by omega) (by omega) (by omega)
    rw [hun] at hL0
    have := out_round1472 (cf := cf) (cb := cb) (cm := cm) (now := nowK cb cm (j + 1)) (last := lng cb cm ((j + 1 : Nat) : Int)) (T := T) (k := j + 1) (i := cf.toNat) (t := (0, ((j + 1 : Nat) : Int) + 1, nowK cb cm (j + 1 + 1))) (z := (0, ((j + 1 : Nat) : Int), nowK cb cm (j + 1))) hk hT hL0 (by show nowK cb cm (j + 1 + 1) ≠ _; omega) (by show nowK cb cm (j + 1) < nowK cb cm (j + 1 + 1); omega)
      (by show _ ≤ IntKind.i64.wrap (nowK cb cm (j + 1 + 1) - nowK cb cm (j + 1)); rw [hwl]; exact hmono) (by show IntKind.i64.wrap (nowK cb cm (j + 1 + 1) - nowK cb cm (j + 1)) ≤ cm; rw [hwl]; exact hle)
      (fun h => by omega) (by show IntKind.i64.wrap (nowK cb cm (j + 1 + 1) - nowK cb cm (j + 1)) = _ ∨ IntKind.i64.wrap (nowK cb cm (j + 1 + 1) - nowK cb cm (j + 1)) = _; rw [hwl, hwb, e1]; exact hnext)
    have hwl' : IntKind.i64.wrap (((0 : Int), ((j + 1 : Nat) : Int) + 1, nowK cb cm (j + 1 + 1)).2.2 - nowK cb cm (j + 1)) = lng cb cm ((j + 1 + 1 : Nat) : Int) := hwl
    simp only [hwl'] at this
    exact this
end
end Go.Proofs.Ytpdfpnfnlikjfaa
