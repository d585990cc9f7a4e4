/- EjectPart: what a report makes of the list; plain. -/
import Derived.Test.YtpdfpnfnlikjfaaW1
namespace Go.Proofs.Ytpdfpnfnlikjfaa
open Go.RowKit
set_option linter.unusedSimpArgs false
set_option linter.unusedVariables false
set_option maxRecDepth 100000
abbrev ActT := Int × Bool × Int
def actF (t : ActT) : List Value := [Value.int .i64 t.1, Value.bool t.2.1, Value.int .i64 t.2.2]
theorem act3 (t : ActT) : (actF t).length = 3 := rfl
section
variable {cf cb cm cp now : Int} {T i : Nat} {ls : List EjT} {w : Bool}
theorem count3 (hl : ls.length = T) (hT : T ≤ 100) : CallOK Try.prog 13 [.slice (some ⟨0, 0, none⟩) T T, .int .i64 now] [(0, ⟨27, ls.flatMap ejF, 3⟩)] 1 (.int .i64 (ejCount ls now : Nat)) [(0, ⟨27, ls.flatMap ejF, 3⟩)] := by
  subst hl
  exact count_ok (k := ⟨27, ls.flatMap ejF, 3⟩) rfl rfl (by omega) (by simp only [flatMap_len ej3]; omega) (by simp only [List.drop_zero]; rw [List.take_of_length_le (by rw [flatMap_len ej3]; omega)])
theorem out3 (hl : ls.length = T) (hi : i < T) : CallOK Try.prog 14 [.slice (some ⟨0, 0, none⟩) T T, .int .i64 (i : Int), .int .i64 now] [(0, ⟨27, ls.flatMap ejF, 3⟩)] 1 (.bool (decide ((ls.getD i default).2.2 > now))) [(0, ⟨27, ls.flatMap ejF, 3⟩)] := by
  subst hl
  exact out_ok3 hi
theorem out3s {t : EjT} (hl : ls.length = T) (hi : i < T) : CallOK Try.prog 14 [.slice (some ⟨0, 0, none⟩) T T, .int .i64 (i : Int), .int .i64 now] [(0, ⟨27, (ls.set i t).flatMap ejF, 3⟩)] 1 (.bool (decide (t.2.2 > now))) [(0, ⟨27, (ls.set i t).flatMap ejF, 3⟩)] := by
  have h := out3 (now := now) (ls := ls.set i t) (T := T) (i := i) (by simpa using hl) hi
  rw [getD_set_self (by omega)] at h
  exact h
theorem rep3 (hl : ls.length = T) (hi : i < T) (hT : T ≤ 100) (hm : may_0 cf cb cm cp now = 0) : CallOK Try.prog 10 [.agg #[.int .i64 cf, .int .i64 cb, .int .i64 cm, .int .i64 cp], .slice (some ⟨0, 0, none⟩) T T, .int .i64 (i : Int), .bool w, .int .i64 now] [(0, ⟨27, ls.flatMap ejF, 3⟩)] 1 (.tuple #[.slice (some ⟨2241, 0, none⟩) T T, .int .i64 0]) [(0, ⟨27, ls.flatMap ejF, 3⟩), (2241, ⟨27, (ls.set i (repE cf cb cm cp ls i w now)).flatMap ejF, 3⟩)] := by
  subst hl
  exact report_ok3 (c := ls.length) (el := 27) hi (by omega) hm
/-- What is kept: times at most a thousand, until at most the last time and Most. -/
structure PInv (cm cp : Int) (T : Nat) (now : Int) (j : Nat) (ls : List EjT) : Prop where
  len : ls.length = T
  times : ∀ t ∈ ls, 0 ≤ t.2.1 ∧ t.2.1 ≤ j
  till : ∀ t ∈ ls, 0 ≤ t.2.2 ∧ t.2.2 ≤ now + cm
  part : (ejCount ls now : Int) * 100 ≤ cp * T
theorem until_le (hc : ConfOK cf cb cm cp) (h0 : 0 ≤ now) (h1 : now ≤ 100000) {m : Int} (hm1 : 1 ≤ m) (hm2 : m ≤ 100000) : 0 ≤ until_0 cf cb cm cp m now ∧ until_0 cf cb cm cp m now ≤ now + cm := by
  obtain ⟨f1, f2, b1, b2, m1, m2, p1, p2⟩ := hc
  have hmay : may_0 cf cb cm cp now = 0 := may_of ⟨f1, f2, b1, b2, m1, m2, p1, p2⟩ h0 (by omega)
  have hdiv : cm.tdiv cb = cm / cb := Int.tdiv_eq_ediv_of_nonneg (by omega)
  have hd1 : 0 ≤ cm / cb := Int.ediv_nonneg (by omega) (by omega)
  have hd2 : cm / cb ≤ cm := Int.ediv_le_self _ (by omega)
  have e1 : (may_0 cf cb cm cp now != 0) = false := by rw [hmay]; rfl
  have e2 : decide (m < 1) = false := by simp; omega
  unfold until_0
  rw [e1, e2]
  simp only [cond_false, hdiv]
  rw [w64 (n := cm / cb) (by omega)]
  by_cases h : m ≤ cm / cb
  · have e3 : decide (m ≤ cm / cb) = true := by simpa using h
    have hpos : 0 ≤ cb * m := Int.mul_nonneg (by omega) (by omega)
    have hmc := mul_le_of_div b1 h
    rw [e3]
    simp only [cond_true]
    rw [w64 (n := cb * m) (by omega), w64 (n := 253402300799 - cb * m) (by omega)]
    split
    · rw [w64 (by omega)]; omega
    · rw [w64 (by omega)]; omega
  · have e3 : decide (m ≤ cm / cb) = false := by simpa using h
    rw [e3]
    simp only [cond_false]
    rw [w64 (n := 253402300799 - cm) (by omega)]
    split
    · rw [w64 (by omega)]; omega
    · rw [w64 (by omega)]; omega
/-- A report leaves the time as it is, or puts out one that is in, where there is room. -/
theorem repE_cases (hl : ls.length = T) (hT : T ≤ 100) (hp0 : 0 ≤ cp) (hp : cp ≤ 100) {j : Nat} (hj : j ≤ 1000) (ht : 0 ≤ (ls.getD i default).2.1 ∧ (ls.getD i default).2.1 ≤ j) :
    ((repE cf cb cm cp ls i w now).2.2 = (ls.getD i default).2.2 ∧ ((repE cf cb cm cp ls i w now).2.1 = 0 ∨ (repE cf cb cm cp ls i w now).2.1 = (ls.getD i default).2.1)) ∨
    (w = false ∧ ¬ (ls.getD i default).2.2 > now ∧ ((ejCount ls now : Int) + 1) * 100 ≤ cp * T ∧ (repE cf cb cm cp ls i w now).2.1 = (ls.getD i default).2.1 + 1 ∧ (repE cf cb cm cp ls i w now).2.2 = until_0 cf cb cm cp ((ls.getD i default).2.1 + 1) now) := by
  have hcnt := ejCount_le ls now
  have hcT : 0 ≤ cp * (T : Int) ∧ cp * (T : Int) ≤ 100 * T := ⟨Int.mul_nonneg hp0 (by omega), Int.mul_le_mul_of_nonneg_right hp (by omega)⟩
  unfold repE
  cases w with
  | true =>
    left
    simp only [cond_true]
    rcases Bool.eq_false_or_eq_true (!decide ((ls.getD i default).2.2 > now)) with h | h
    · rw [h]; simp
    · rw [h]; simp
  | false =>
    simp only [cond_false]
    have e4 : decide ((ls.getD i default).2.1 < 1048576) = true := decide_eq_true (by omega)
    rw [e4]
    simp only [cond_true]
    rw [w64 (n := (ls.getD i default).2.1 + 1) (by omega), w64 (n := ((ejCount ls now + 1 : Nat) : Int) * 100) (by omega), hl, w64 (n := cp * (T : Int)) (by omega)]
    generalize (bif decide ((ls.getD i default).1 < 1048576) then IntKind.i64.wrap ((ls.getD i default).1 + 1) else (ls.getD i default).1) = f
    rcases Bool.eq_false_or_eq_true (!decide ((ls.getD i default).2.2 > now) && (decide (f ≥ cf) && decide (((ejCount ls now + 1 : Nat) : Int) * 100 ≤ cp * (T : Int)))) with h | h
    · right
      rw [h]
      simp only [Bool.and_eq_true, Bool.not_eq_true', decide_eq_true_eq, decide_eq_false_iff_not] at h
      obtain ⟨h1, h2, h3⟩ := h
      exact ⟨by trivial, h1, by omega, rfl, rfl⟩
    · left
      rw [h]
      exact ⟨rfl, .inr rfl⟩
theorem getD_mem {l : List EjT} {i : Nat} (h : i < l.length) : l.getD i default ∈ l := by
  rw [List.getD_eq_getElem?_getD, List.getElem?_eq_getElem h]
  exact List.getElem_mem h
theorem cnt_mono {l : List EjT} {a b : Int} (h : a ≤ b) : ejCount l b ≤ ejCount l a := by
  unfold ejCount
  rw [← List.countP_eq_length_filter, ← List.countP_eq_length_filter]
  apply List.countP_mono_left
  intro t _ ht
  simp only [decide_eq_true_eq] at ht ⊢
  omega
theorem cnt_set {t : EjT} : ∀ {l : List EjT} {i : Nat}, i < l.length → ejCount (l.set i t) now + (if (l.getD i default).2.2 > now then 1 else 0) = ejCount l now + (if t.2.2 > now then 1 else 0)
  | [], i, h => by simp at h
  | a :: r, 0, _ => by
    simp only [List.set_cons_zero, List.getD_cons_zero, ejCount, List.filter_cons, decide_eq_true_eq]
    split <;> split <;> simp <;> omega
  | a :: r, i + 1, h => by
    have ih := cnt_set (t := t) (l := r) (i := i) (by simpa using h)
    simp only [List.set_cons_succ, List.getD_cons_succ, ejCount, List.filter_cons, decide_eq_true_eq] at ih ⊢
    split <;> (try simp only [List.length_cons]) <;> omega
/-- A report keeps what is kept. -/
theorem part_step {now0 : Int} {j : Nat} (hc : ConfOK cf cb cm cp) (h0 : 0 ≤ now0) (h1 : now0 ≤ now) (h2 : now ≤ 100000) (hT : T ≤ 100) (hj : j ≤ 1000) (hi : i < T) (hI : PInv cm cp T now0 j ls) :
    PInv cm cp T now (j + 1) (ls.set i (repE cf cb cm cp ls i w now)) ∧ ((ls.getD i default).2.2 > now → (repE cf cb cm cp ls i w now).2.2 = (ls.getD i default).2.2) ∧ (w = true → (repE cf cb cm cp ls i w now).2.2 = (ls.getD i default).2.2) := by
  obtain ⟨hl, ht, hu, hp⟩ := hI
  have hm := getD_mem (l := ls) (i := i) (by omega)
  have hti := ht _ hm
  have hui := hu _ hm
  have hmono := cnt_mono (l := ls) h1
  have hset := cnt_set (now := now) (t := repE cf cb cm cp ls i w now) (l := ls) (i := i) (by omega)
  have hcases := repE_cases (cf := cf) (cb := cb) (cm := cm) (now := now) (w := w) (i := i) hl hT hc.p1 hc.p2 hj hti
  have hb := hc.b1
  have hmm := hc.m1
  rcases hcases with ⟨e1, e2⟩ | ⟨e0, e1, e2, e3, e4⟩
  · refine ⟨⟨by simpa using hl, fun t h => ?_, fun t h => ?_, ?_⟩, fun _ => e1, fun _ => e1⟩
    · rcases List.mem_or_eq_of_mem_set h with h | rfl
      · have := ht t h; omega
      · omega
    · rcases List.mem_or_eq_of_mem_set h with h | rfl
      · have := hu t h; omega
      · omega
    · rw [e1] at hset
      omega
  · have hun := until_le (cf := cf) (cb := cb) (cm := cm) (cp := cp) hc (now := now) (by omega) h2 (m := (ls.getD i default).2.1 + 1) (by omega) (by omega)
    refine ⟨⟨by simpa using hl, fun t h => ?_, fun t h => ?_, ?_⟩, fun h => absurd h e1, fun h => by rw [e0] at h; cases h⟩
    · rcases List.mem_or_eq_of_mem_set h with h | rfl
      · have := ht t h; omega
      · omega
    · rcases List.mem_or_eq_of_mem_set h with h | rfl
      · have := hu t h; omega
      · omega
    · rw [if_neg e1] at hset
      have : ejCount (ls.set i (repE cf cb cm cp ls i w now)) now ≤ ejCount ls now + 1 := by
        split at hset <;> omega
      omega
end
end Go.Proofs.Ytpdfpnfnlikjfaa
