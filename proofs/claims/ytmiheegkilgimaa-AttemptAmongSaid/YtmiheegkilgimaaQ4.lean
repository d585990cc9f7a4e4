/- AttemptOnce: what holds of a ledger, and the loops as wholes. -/
import Derived.Test.YtmiheegkilgimaaQ2
import Derived.Test.YtmiheegkilgimaaQ3
import Derived.Test.YtmiheegkilgimaaT7
import Derived.KernelRfl
namespace Go.Proofs.Ytmiheegkilgimaa
open Go.RowKit
set_option linter.unusedSimpArgs false
set_option linter.unusedVariables false
set_option maxRecDepth 100000
/-- What holds of the tries. -/
structure LInv (ag : Bool) (mo : Int) (ts : List Try3) : Prop where
  len : (ts.length : Int) ≤ mo
  rng : ∀ x, x < ts.length → 0 ≤ (ts.getD x default).1 ∧ (ts.getD x default).1 < 64 ∧ 0 ≤ (ts.getD x default).2.2 ∧ (ts.getD x default).2.2 ≤ 7
  las : ∀ x, x + 1 < ts.length → (ts.getD x default).2.2 ≠ 0 ∧ goodB (ts.getD x default) = false ∧ (ag = false → (ts.getD x default).2.1 = false)
theorem LInv.ck {ag : Bool} {mo : Int} {ts : List Try3} (h : LInv ag mo ts) (h1 : 1 ≤ mo) (h2 : mo ≤ 65) : ckE mo ts = 0 := by
  have e : oddE ts = false := range_none fun y hy => by
    obtain ⟨a1, a2, a3, a4⟩ := h.rng y hy
    unfold odd_0
    rw [decide_eq_false (by omega), decide_eq_false (by omega), decide_eq_false (by omega), decide_eq_false (by omega)]
    simp only [cond_false]
    rcases Bool.eq_false_or_eq_true ((ts.getD y default).2.2 == 0) with hz | hz
    · rw [hz]
      simp only [cond_true]
      by_cases hl : y + 1 < ts.length
      · exact absurd (by simpa using hz) (h.las y hl).1
      · rw [show ((((y + 1 : Nat)) : Int) == (ts.length : Int)) = true by simp; omega]; rfl
    · rw [hz]; rfl
  have hl := h.len
  unfold ckE
  rw [decide_eq_false (by omega), decide_eq_false (by omega), decide_eq_false (by omega), e]
  rfl
theorem getD_app {ts : List Try3} {t : Try3} {x : Nat} (h : x < ts.length) : (ts ++ [t]).getD x default = ts.getD x default := by
  rw [List.getD_eq_getElem?_getD, List.getElem?_append_left h, List.getD_eq_getElem?_getD]
theorem getD_last {ts : List Try3} {t : Try3} : (ts ++ [t]).getD ts.length default = t := by
  rw [List.getD_eq_getElem?_getD, List.getElem?_append_right (Nat.le_refl _)]; simp
theorem getD_setne {ts : List Try3} {t : Try3} {x k : Nat} (h : x ≠ k) : (ts.set k t).getD x default = ts.getD x default := by
  rw [List.getD_eq_getElem?_getD, List.getElem?_set_ne (fun e => h e.symm), List.getD_eq_getElem?_getD]
theorem mem_getD {ts : List Try3} {x : Nat} (h : x < ts.length) : ts.getD x default ∈ ts := by
  rw [List.getD_eq_getElem?_getD, List.getElem?_eq_getElem h]; exact List.getElem_mem h
theorem stop_zero {ag : Bool} {mo : Int} {ts : List Try3} {ml : Nat} {bu : Bool} (h : stopE ag mo ts ml bu = 0) : (0 < ts.length → lastE ts ≠ 0) ∧ ts.any goodB = false ∧ ¬ (ts.length : Int) ≥ mo ∧ (ag = false → ts.any sentB = false) := by
  unfold stopE at h
  rcases Bool.eq_false_or_eq_true (decide ((ts.length : Int) > 0) && (lastE ts == 0)) with h1 | h1
  · rw [h1] at h; cases h
  · rw [h1] at h
    rcases Bool.eq_false_or_eq_true (ts.any goodB) with h2 | h2
    · rw [h2] at h; cases h
    · rw [h2] at h
      rcases Bool.eq_false_or_eq_true (decide ((ts.length : Int) ≥ mo)) with h3 | h3
      · rw [h3] at h; cases h
      · rw [h3] at h
        rcases Bool.eq_false_or_eq_true (!ag && ts.any sentB) with h4 | h4
        · rw [h4] at h; cases h
        · refine ⟨fun hp => ?_, h2, of_decide_eq_false h3, fun ha => ?_⟩
          · rw [decide_eq_true (by omega)] at h1; simpa using h1
          · subst ha; simpa using h4
theorem any_no {p : Try3 → Bool} {ts : List Try3} (h : ts.any p = false) {x : Nat} (hx : x < ts.length) : p (ts.getD x default) = false := by
  rw [List.any_eq_false] at h
  simpa using h _ (mem_getD hx)
theorem lastE_at {ts : List Try3} {x : Nat} (h : x + 1 = ts.length) : lastE ts = (ts.getD x default).2.2 := by
  unfold lastE; rw [show ts.length - 1 = x by omega]
def bumpT (ts : List Try3) (how : Option Int) : List Try3 := match how with
  | none => ts.set (ts.length - 1) ((ts.getD (ts.length - 1) default).1, true, (ts.getD (ts.length - 1) default).2.2)
  | some n => ts.set (ts.length - 1) ((ts.getD (ts.length - 1) default).1, (ts.getD (ts.length - 1) default).2.1, n)
def nextT (ag : Bool) (mo : Int) (ts : List Try3) (a : Act2) : List Try3 :=
  if pick_0 a.1 3 = 0 then (if beginE ag mo ts a.2 = 0 then ts ++ [(a.2, false, 0)] else ts)
  else if pick_0 a.1 3 = 1 then (if sentE mo ts = 0 then bumpT ts none else ts)
  else (if endE mo ts a.2 = 0 then bumpT ts (some a.2) else ts)
section
variable {ag : Bool} {mo n : Int} {ts : List Try3} {a : Act2}
theorem inv_begin (h : LInv ag mo ts) (hb : beginE ag mo ts n = 0) : LInv ag mo (ts ++ [(n, false, 0)]) := by
  obtain ⟨_, b1, b2, b3⟩ := beginE_zero hb
  obtain ⟨s1, s2, s3, s4⟩ := stop_zero (by simpa using b3)
  have b1' := of_decide_eq_false b1
  have b2' := of_decide_eq_false b2
  refine ⟨by simp only [List.length_append, List.length_singleton]; omega, fun x hx => ?_, fun x hx => ?_⟩
  · simp only [List.length_append, List.length_singleton] at hx
    by_cases hl : x < ts.length
    · rw [getD_app hl]; exact h.rng x hl
    · rw [show x = ts.length by omega, getD_last]; exact ⟨by dsimp only; omega, by dsimp only; omega, by dsimp only; omega, by dsimp only; omega⟩
  · simp only [List.length_append, List.length_singleton] at hx
    have hl : x < ts.length := by omega
    rw [getD_app hl]
    refine ⟨?_, any_no s2 hl, fun ha => by rw [← sentB_eq]; exact any_no (s4 ha) hl⟩
    by_cases hl2 : x + 1 < ts.length
    · exact (h.las x hl2).1
    · rw [← lastE_at (by omega)]; exact s1 (by omega)
theorem inv_bump (h : LInv ag mo ts) (hp : 0 < ts.length) (how : Option Int) (hh : ∀ m, how = some m → 1 ≤ m ∧ m ≤ 7) : LInv ag mo (bumpT ts how) ∧ (bumpT ts how).length = ts.length := by
  have hlen : (bumpT ts how).length = ts.length := by cases how <;> simp [bumpT]
  have hne : ∀ x, x + 1 < ts.length → (bumpT ts how).getD x default = ts.getD x default := fun x hx => by
    cases how <;> exact getD_setne (by omega)
  refine ⟨⟨by rw [hlen]; exact h.len, fun x hx => ?_, fun x hx => ?_⟩, hlen⟩
  · rw [hlen] at hx
    by_cases hl : x + 1 < ts.length
    · rw [hne x hl]; exact h.rng x hx
    · have hr := h.rng x hx
      have hxe : x = ts.length - 1 := by omega
      subst hxe
      cases how with
      | none => simp only [bumpT]; rw [getD_set_self (by omega)]; exact hr
      | some m => simp only [bumpT]; rw [getD_set_self (by omega)]; have := hh m rfl; exact ⟨hr.1, hr.2.1, by dsimp only; omega, this.2⟩
  · rw [hlen] at hx
    rw [hne x hx]; exact h.las x hx
theorem next_inv (h : LInv ag mo ts) : LInv ag mo (nextT ag mo ts a) ∧ ts.length ≤ (nextT ag mo ts a).length := by
  unfold nextT
  split
  · split
    · rename_i hb; exact ⟨inv_begin h hb, by simp⟩
    · exact ⟨h, Nat.le_refl _⟩
  · split
    · split
      · rename_i hb
        have hz := (sentE_zero hb).2.1
        have := inv_bump h (by simp only [beq_eq_false_iff_ne] at hz; omega) none (fun m e => by cases e)
        exact ⟨this.1, by rw [this.2]; exact Nat.le_refl _⟩
      · exact ⟨h, Nat.le_refl _⟩
    · split
      · rename_i hb
        obtain ⟨_, z1, z2, z3, _⟩ := endE_zero hb
        have z1' := of_decide_eq_false z1
        have z2' := of_decide_eq_false z2
        have := inv_bump h (by simp only [beq_eq_false_iff_ne] at z3; omega) (some a.2) (fun m e => by cases e; omega)
        exact ⟨this.1, by rw [this.2]; exact Nat.le_refl _⟩
      · exact ⟨h, Nat.le_refl _⟩
/-- How many of the first x were sent; whether the one before x needs no other. -/
def cntS (ts : List Try3) : Nat → Nat
  | 0 => 0
  | x + 1 => cntS ts x + (bif (ts.getD x default).2.1 then 1 else 0)
def gdE (ts : List Try3) : Nat → Bool
  | 0 => false
  | x + 1 => bif ((ts.getD x default).2.2 == 1) then true else ((ts.getD x default).2.2 == 7)
theorem cntS_le : ∀ x, cntS ts x ≤ x
  | 0 => Nat.le_refl _
  | x + 1 => by have := cntS_le x; simp only [cntS]; cases (ts.getD x default).2.1 <;> simp only [cond_true, cond_false] <;> omega
theorem cntS_none (h : LInv ag mo ts) (ha : ag = false) : ∀ x, x + 1 ≤ ts.length → cntS ts x = 0
  | 0, _ => rfl
  | x + 1, hx => by simp only [cntS]; rw [cntS_none h ha x (by omega), (h.las x (by omega)).2.2 ha]; rfl
theorem cntS_one (h : LInv ag mo ts) (ha : (!ag) = true) : cntS ts ts.length ≤ 1 := by
  have ha' : ag = false := by simpa using ha
  cases hl : ts.length with
  | zero => exact Nat.zero_le _
  | succ q =>
    simp only [cntS]
    rw [cntS_none h ha' q (by omega)]
    cases (ts.getD q default).2.1 <;> simp
theorem gdE_no (h : LInv ag mo ts) {x : Nat} (hx : x < ts.length) : gdE ts x = false := by
  cases x with
  | zero => rfl
  | succ y =>
    have := (h.las y hx).2.1
    unfold goodB good_0 at this
    show (bif _ then _ else _) = false
    revert this
    cases ((ts.getD y default).2.2 == 1) <;> cases ((ts.getD y default).2.2 == 7) <;> simp
theorem iw_4290_1153 {acts : List Act2} {c el k : Nat} (h : LInv ag mo ts) (h80 : ts.length ≤ 1000) :
    LoopOK Try.prog (loopN Try.prog 5 1) (mkF [(0, .bool ag), (1, .int .i64 n), (2, .slice (some ⟨0, 0, none⟩) acts.length c), (7, .pointer (some ⟨769, 0, none⟩)), (9, .int .i64 (k : Int)), (11, .int .i64 ((0 : Nat) : Int)), (12, .bool (false)), (13, .int .i64 ((0 : Nat) : Int))] 160 0) [(0, ⟨el, acts.flatMap act2F, 2⟩), (769, ⟨24, [Value.bool ag, Value.int IntKind.i64 mo, .slice (some ⟨1153, 0, none⟩) ts.length ts.length], 0⟩), (1153, ⟨39, ts.flatMap tryF, 3⟩)] 4290 ⟨.exit 3, mkF [(0, .bool ag), (1, .int .i64 n), (2, .slice (some ⟨0, 0, none⟩) acts.length c), (7, .pointer (some ⟨769, 0, none⟩)), (9, .int .i64 (k : Int)), (11, .int .i64 (cntS ts ts.length : Int))] 160 0, [(0, ⟨el, acts.flatMap act2F, 2⟩), (769, ⟨24, [Value.bool ag, Value.int IntKind.i64 mo, .slice (some ⟨1153, 0, none⟩) ts.length ts.length], 0⟩), (1153, ⟨39, ts.flatMap tryF, 3⟩)], 4354, []⟩ := by
  refine loop_ind callT_spec mixed (LF := 10) (F := 100) (nxb := 4291) (keys := [0, 1, 2, 7, 9, 11, 12, 13]) (keysE := [0, 1, 2, 7, 9, 11]) ts.length (fun x => mkF [(0, .bool ag), (1, .int .i64 n), (2, .slice (some ⟨0, 0, none⟩) acts.length c), (7, .pointer (some ⟨769, 0, none⟩)), (9, .int .i64 (k : Int)), (11, .int .i64 (cntS ts x : Int)), (12, .bool (gdE ts x)), (13, .int .i64 (x : Int))] 160 0) (fun _ => [(0, ⟨el, acts.flatMap act2F, 2⟩), (769, ⟨24, [Value.bool ag, Value.int IntKind.i64 mo, .slice (some ⟨1153, 0, none⟩) ts.length ts.length], 0⟩), (1153, ⟨39, ts.flatMap tryF, 3⟩)]) (by decide) (by simp) rfl ?_ ?_ (fun h => by cases h)
  · intro x hx
    have hz : ((ts.getD x default).2.2 == 0) = true → ¬ x + 1 < ts.length := fun e hl => (h.las x hl).1 (by simpa using e)
    have hsn : (!ag) = true → (ts.getD x default).2.1 = true → ¬ x + 1 < ts.length := fun e1 e2 hl => by
      have := (h.las x hl).2.2 (by simpa using e1)
      rw [this] at e2; cases e2
    rcases Bool.eq_false_or_eq_true ((ts.getD x default).2.2 == 1) with h1 | h1 <;> rcases Bool.eq_false_or_eq_true ((ts.getD x default).2.1) with h2 | h2
    · rw [show gdE ts (x + 1) = true by simp only [gdE, h1, cond_true], show cntS ts (x + 1) = cntS ts x + 1 by simp only [cntS, h2, cond_true]]
      exact ia_4290_1153_11 hx h80 (cntS_le x) (gdE_no h hx) hz hsn h1 h2
    · rw [show gdE ts (x + 1) = true by simp only [gdE, h1, cond_true], show cntS ts (x + 1) = cntS ts x by simp only [cntS, h2, cond_false, Nat.add_zero]]
      exact ia_4290_1153_10 hx h80 (cntS_le x) (gdE_no h hx) hz hsn h1 h2
    · rw [show gdE ts (x + 1) = ((ts.getD x default).2.2 == 7) by simp only [gdE, h1, cond_false], show cntS ts (x + 1) = cntS ts x + 1 by simp only [cntS, h2, cond_true]]
      exact ia_4290_1153_01 hx h80 (cntS_le x) (gdE_no h hx) hz hsn h1 h2
    · rw [show gdE ts (x + 1) = ((ts.getD x default).2.2 == 7) by simp only [gdE, h1, cond_false], show cntS ts (x + 1) = cntS ts x by simp only [cntS, h2, cond_false, Nat.add_zero]]
      exact ia_4290_1153_00 hx h80 (cntS_le x) (gdE_no h hx) hz hsn h1 h2
  · exact ia_4290_1153_end rfl
theorem iw_4290_2306 {acts : List Act2} {c el k : Nat} (h : LInv ag mo ts) (h80 : ts.length ≤ 1000) :
    LoopOK Try.prog (loopN Try.prog 5 1) (mkF [(0, .bool ag), (1, .int .i64 n), (2, .slice (some ⟨0, 0, none⟩) acts.length c), (7, .pointer (some ⟨769, 0, none⟩)), (9, .int .i64 (k : Int)), (11, .int .i64 ((0 : Nat) : Int)), (12, .bool (false)), (13, .int .i64 ((0 : Nat) : Int))] 160 0) [(0, ⟨el, acts.flatMap act2F, 2⟩), (769, ⟨24, [Value.bool ag, Value.int IntKind.i64 mo, .slice (some ⟨2306, 0, none⟩) ts.length ts.length], 0⟩), (2306, ⟨39, ts.flatMap tryF, 3⟩)] 4290 ⟨.exit 3, mkF [(0, .bool ag), (1, .int .i64 n), (2, .slice (some ⟨0, 0, none⟩) acts.length c), (7, .pointer (some ⟨769, 0, none⟩)), (9, .int .i64 (k : Int)), (11, .int .i64 (cntS ts ts.length : Int))] 160 0, [(0, ⟨el, acts.flatMap act2F, 2⟩), (769, ⟨24, [Value.bool ag, Value.int IntKind.i64 mo, .slice (some ⟨2306, 0, none⟩) ts.length ts.length], 0⟩), (2306, ⟨39, ts.flatMap tryF, 3⟩)], 4354, []⟩ := by
  refine loop_ind callT_spec mixed (LF := 10) (F := 100) (nxb := 4291) (keys := [0, 1, 2, 7, 9, 11, 12, 13]) (keysE := [0, 1, 2, 7, 9, 11]) ts.length (fun x => mkF [(0, .bool ag), (1, .int .i64 n), (2, .slice (some ⟨0, 0, none⟩) acts.length c), (7, .pointer (some ⟨769, 0, none⟩)), (9, .int .i64 (k : Int)), (11, .int .i64 (cntS ts x : Int)), (12, .bool (gdE ts x)), (13, .int .i64 (x : Int))] 160 0) (fun _ => [(0, ⟨el, acts.flatMap act2F, 2⟩), (769, ⟨24, [Value.bool ag, Value.int IntKind.i64 mo, .slice (some ⟨2306, 0, none⟩) ts.length ts.length], 0⟩), (2306, ⟨39, ts.flatMap tryF, 3⟩)]) (by decide) (by simp) rfl ?_ ?_ (fun h => by cases h)
  · intro x hx
    have hz : ((ts.getD x default).2.2 == 0) = true → ¬ x + 1 < ts.length := fun e hl => (h.las x hl).1 (by simpa using e)
    have hsn : (!ag) = true → (ts.getD x default).2.1 = true → ¬ x + 1 < ts.length := fun e1 e2 hl => by
      have := (h.las x hl).2.2 (by simpa using e1)
      rw [this] at e2; cases e2
    rcases Bool.eq_false_or_eq_true ((ts.getD x default).2.2 == 1) with h1 | h1 <;> rcases Bool.eq_false_or_eq_true ((ts.getD x default).2.1) with h2 | h2
    · rw [show gdE ts (x + 1) = true by simp only [gdE, h1, cond_true], show cntS ts (x + 1) = cntS ts x + 1 by simp only [cntS, h2, cond_true]]
      exact ia_4290_2306_11 hx h80 (cntS_le x) (gdE_no h hx) hz hsn h1 h2
    · rw [show gdE ts (x + 1) = true by simp only [gdE, h1, cond_true], show cntS ts (x + 1) = cntS ts x by simp only [cntS, h2, cond_false, Nat.add_zero]]
      exact ia_4290_2306_10 hx h80 (cntS_le x) (gdE_no h hx) hz hsn h1 h2
    · rw [show gdE ts (x + 1) = ((ts.getD x default).2.2 == 7) by simp only [gdE, h1, cond_false], show cntS ts (x + 1) = cntS ts x + 1 by simp only [cntS, h2, cond_true]]
      exact ia_4290_2306_01 hx h80 (cntS_le x) (gdE_no h hx) hz hsn h1 h2
    · rw [show gdE ts (x + 1) = ((ts.getD x default).2.2 == 7) by simp only [gdE, h1, cond_false], show cntS ts (x + 1) = cntS ts x by simp only [cntS, h2, cond_false, Nat.add_zero]]
      exact ia_4290_2306_00 hx h80 (cntS_le x) (gdE_no h hx) hz hsn h1 h2
  · exact ia_4290_2306_end rfl
theorem iw_4482_1153 {acts : List Act2} {c el k : Nat} (h : LInv ag mo ts) (h80 : ts.length ≤ 1000) :
    LoopOK Try.prog (loopN Try.prog 5 1) (mkF [(0, .bool ag), (1, .int .i64 n), (2, .slice (some ⟨0, 0, none⟩) acts.length c), (7, .pointer (some ⟨769, 0, none⟩)), (9, .int .i64 (k : Int)), (11, .int .i64 ((0 : Nat) : Int)), (12, .bool (false)), (13, .int .i64 ((0 : Nat) : Int))] 160 0) [(0, ⟨el, acts.flatMap act2F, 2⟩), (769, ⟨24, [Value.bool ag, Value.int IntKind.i64 mo, .slice (some ⟨1153, 0, none⟩) ts.length ts.length], 0⟩), (1153, ⟨39, ts.flatMap tryF, 3⟩)] 4482 ⟨.exit 3, mkF [(0, .bool ag), (1, .int .i64 n), (2, .slice (some ⟨0, 0, none⟩) acts.length c), (7, .pointer (some ⟨769, 0, none⟩)), (9, .int .i64 (k : Int)), (11, .int .i64 (cntS ts ts.length : Int))] 160 0, [(0, ⟨el, acts.flatMap act2F, 2⟩), (769, ⟨24, [Value.bool ag, Value.int IntKind.i64 mo, .slice (some ⟨1153, 0, none⟩) ts.length ts.length], 0⟩), (1153, ⟨39, ts.flatMap tryF, 3⟩)], 4546, []⟩ := by
  refine loop_ind callT_spec mixed (LF := 10) (F := 100) (nxb := 4483) (keys := [0, 1, 2, 7, 9, 11, 12, 13]) (keysE := [0, 1, 2, 7, 9, 11]) ts.length (fun x => mkF [(0, .bool ag), (1, .int .i64 n), (2, .slice (some ⟨0, 0, none⟩) acts.length c), (7, .pointer (some ⟨769, 0, none⟩)), (9, .int .i64 (k : Int)), (11, .int .i64 (cntS ts x : Int)), (12, .bool (gdE ts x)), (13, .int .i64 (x : Int))] 160 0) (fun _ => [(0, ⟨el, acts.flatMap act2F, 2⟩), (769, ⟨24, [Value.bool ag, Value.int IntKind.i64 mo, .slice (some ⟨1153, 0, none⟩) ts.length ts.length], 0⟩), (1153, ⟨39, ts.flatMap tryF, 3⟩)]) (by decide) (by simp) rfl ?_ ?_ (fun h => by cases h)
  · intro x hx
    have hz : ((ts.getD x default).2.2 == 0) = true → ¬ x + 1 < ts.length := fun e hl => (h.las x hl).1 (by simpa using e)
    have hsn : (!ag) = true → (ts.getD x default).2.1 = true → ¬ x + 1 < ts.length := fun e1 e2 hl => by
      have := (h.las x hl).2.2 (by simpa using e1)
      rw [this] at e2; cases e2
    rcases Bool.eq_false_or_eq_true ((ts.getD x default).2.2 == 1) with h1 | h1 <;> rcases Bool.eq_false_or_eq_true ((ts.getD x default).2.1) with h2 | h2
    · rw [show gdE ts (x + 1) = true by simp only [gdE, h1, cond_true], show cntS ts (x + 1) = cntS ts x + 1 by simp only [cntS, h2, cond_true]]
      exact ia_4482_1153_11 hx h80 (cntS_le x) (gdE_no h hx) hz hsn h1 h2
    · rw [show gdE ts (x + 1) = true by simp only [gdE, h1, cond_true], show cntS ts (x + 1) = cntS ts x by simp only [cntS, h2, cond_false, Nat.add_zero]]
      exact ia_4482_1153_10 hx h80 (cntS_le x) (gdE_no h hx) hz hsn h1 h2
    · rw [show gdE ts (x + 1) = ((ts.getD x default).2.2 == 7) by simp only [gdE, h1, cond_false], show cntS ts (x + 1) = cntS ts x + 1 by simp only [cntS, h2, cond_true]]
      exact ia_4482_1153_01 hx h80 (cntS_le x) (gdE_no h hx) hz hsn h1 h2
    · rw [show gdE ts (x + 1) = ((ts.getD x default).2.2 == 7) by simp only [gdE, h1, cond_false], show cntS ts (x + 1) = cntS ts x by simp only [cntS, h2, cond_false, Nat.add_zero]]
      exact ia_4482_1153_00 hx h80 (cntS_le x) (gdE_no h hx) hz hsn h1 h2
  · exact ia_4482_1153_end rfl
theorem iw_4482_2498 {acts : List Act2} {c el k : Nat} (h : LInv ag mo ts) (h80 : ts.length ≤ 1000) :
    LoopOK Try.prog (loopN Try.prog 5 1) (mkF [(0, .bool ag), (1, .int .i64 n), (2, .slice (some ⟨0, 0, none⟩) acts.length c), (7, .pointer (some ⟨769, 0, none⟩)), (9, .int .i64 (k : Int)), (11, .int .i64 ((0 : Nat) : Int)), (12, .bool (false)), (13, .int .i64 ((0 : Nat) : Int))] 160 0) [(0, ⟨el, acts.flatMap act2F, 2⟩), (769, ⟨24, [Value.bool ag, Value.int IntKind.i64 mo, .slice (some ⟨2498, 0, none⟩) ts.length ts.length], 0⟩), (2498, ⟨39, ts.flatMap tryF, 3⟩)] 4482 ⟨.exit 3, mkF [(0, .bool ag), (1, .int .i64 n), (2, .slice (some ⟨0, 0, none⟩) acts.length c), (7, .pointer (some ⟨769, 0, none⟩)), (9, .int .i64 (k : Int)), (11, .int .i64 (cntS ts ts.length : Int))] 160 0, [(0, ⟨el, acts.flatMap act2F, 2⟩), (769, ⟨24, [Value.bool ag, Value.int IntKind.i64 mo, .slice (some ⟨2498, 0, none⟩) ts.length ts.length], 0⟩), (2498, ⟨39, ts.flatMap tryF, 3⟩)], 4546, []⟩ := by
  refine loop_ind callT_spec mixed (LF := 10) (F := 100) (nxb := 4483) (keys := [0, 1, 2, 7, 9, 11, 12, 13]) (keysE := [0, 1, 2, 7, 9, 11]) ts.length (fun x => mkF [(0, .bool ag), (1, .int .i64 n), (2, .slice (some ⟨0, 0, none⟩) acts.length c), (7, .pointer (some ⟨769, 0, none⟩)), (9, .int .i64 (k : Int)), (11, .int .i64 (cntS ts x : Int)), (12, .bool (gdE ts x)), (13, .int .i64 (x : Int))] 160 0) (fun _ => [(0, ⟨el, acts.flatMap act2F, 2⟩), (769, ⟨24, [Value.bool ag, Value.int IntKind.i64 mo, .slice (some ⟨2498, 0, none⟩) ts.length ts.length], 0⟩), (2498, ⟨39, ts.flatMap tryF, 3⟩)]) (by decide) (by simp) rfl ?_ ?_ (fun h => by cases h)
  · intro x hx
    have hz : ((ts.getD x default).2.2 == 0) = true → ¬ x + 1 < ts.length := fun e hl => (h.las x hl).1 (by simpa using e)
    have hsn : (!ag) = true → (ts.getD x default).2.1 = true → ¬ x + 1 < ts.length := fun e1 e2 hl => by
      have := (h.las x hl).2.2 (by simpa using e1)
      rw [this] at e2; cases e2
    rcases Bool.eq_false_or_eq_true ((ts.getD x default).2.2 == 1) with h1 | h1 <;> rcases Bool.eq_false_or_eq_true ((ts.getD x default).2.1) with h2 | h2
    · rw [show gdE ts (x + 1) = true by simp only [gdE, h1, cond_true], show cntS ts (x + 1) = cntS ts x + 1 by simp only [cntS, h2, cond_true]]
      exact ia_4482_2498_11 hx h80 (cntS_le x) (gdE_no h hx) hz hsn h1 h2
    · rw [show gdE ts (x + 1) = true by simp only [gdE, h1, cond_true], show cntS ts (x + 1) = cntS ts x by simp only [cntS, h2, cond_false, Nat.add_zero]]
      exact ia_4482_2498_10 hx h80 (cntS_le x) (gdE_no h hx) hz hsn h1 h2
    · rw [show gdE ts (x + 1) = ((ts.getD x default).2.2 == 7) by simp only [gdE, h1, cond_false], show cntS ts (x + 1) = cntS ts x + 1 by simp only [cntS, h2, cond_true]]
      exact ia_4482_2498_01 hx h80 (cntS_le x) (gdE_no h hx) hz hsn h1 h2
    · rw [show gdE ts (x + 1) = ((ts.getD x default).2.2 == 7) by simp only [gdE, h1, cond_false], show cntS ts (x + 1) = cntS ts x by simp only [cntS, h2, cond_false, Nat.add_zero]]
      exact ia_4482_2498_00 hx h80 (cntS_le x) (gdE_no h hx) hz hsn h1 h2
  · exact ia_4482_2498_end rfl
theorem iw_4610_1153 {acts : List Act2} {c el k : Nat} (h : LInv ag mo ts) (h80 : ts.length ≤ 1000) :
    LoopOK Try.prog (loopN Try.prog 5 1) (mkF [(0, .bool ag), (1, .int .i64 n), (2, .slice (some ⟨0, 0, none⟩) acts.length c), (7, .pointer (some ⟨769, 0, none⟩)), (9, .int .i64 (k : Int)), (11, .int .i64 ((0 : Nat) : Int)), (12, .bool (false)), (13, .int .i64 ((0 : Nat) : Int))] 160 0) [(0, ⟨el, acts.flatMap act2F, 2⟩), (769, ⟨24, [Value.bool ag, Value.int IntKind.i64 mo, .slice (some ⟨1153, 0, none⟩) ts.length ts.length], 0⟩), (1153, ⟨39, ts.flatMap tryF, 3⟩)] 4610 ⟨.exit 3, mkF [(0, .bool ag), (1, .int .i64 n), (2, .slice (some ⟨0, 0, none⟩) acts.length c), (7, .pointer (some ⟨769, 0, none⟩)), (9, .int .i64 (k : Int)), (11, .int .i64 (cntS ts ts.length : Int))] 160 0, [(0, ⟨el, acts.flatMap act2F, 2⟩), (769, ⟨24, [Value.bool ag, Value.int IntKind.i64 mo, .slice (some ⟨1153, 0, none⟩) ts.length ts.length], 0⟩), (1153, ⟨39, ts.flatMap tryF, 3⟩)], 4674, []⟩ := by
  refine loop_ind callT_spec mixed (LF := 10) (F := 100) (nxb := 4611) (keys := [0, 1, 2, 7, 9, 11, 12, 13]) (keysE := [0, 1, 2, 7, 9, 11]) ts.length (fun x => mkF [(0, .bool ag), (1, .int .i64 n), (2, .slice (some ⟨0, 0, none⟩) acts.length c), (7, .pointer (some ⟨769, 0, none⟩)), (9, .int .i64 (k : Int)), (11, .int .i64 (cntS ts x : Int)), (12, .bool (gdE ts x)), (13, .int .i64 (x : Int))] 160 0) (fun _ => [(0, ⟨el, acts.flatMap act2F, 2⟩), (769, ⟨24, [Value.bool ag, Value.int IntKind.i64 mo, .slice (some ⟨1153, 0, none⟩) ts.length ts.length], 0⟩), (1153, ⟨39, ts.flatMap tryF, 3⟩)]) (by decide) (by simp) rfl ?_ ?_ (fun h => by cases h)
  · intro x hx
    have hz : ((ts.getD x default).2.2 == 0) = true → ¬ x + 1 < ts.length := fun e hl => (h.las x hl).1 (by simpa using e)
    have hsn : (!ag) = true → (ts.getD x default).2.1 = true → ¬ x + 1 < ts.length := fun e1 e2 hl => by
      have := (h.las x hl).2.2 (by simpa using e1)
      rw [this] at e2; cases e2
    rcases Bool.eq_false_or_eq_true ((ts.getD x default).2.2 == 1) with h1 | h1 <;> rcases Bool.eq_false_or_eq_true ((ts.getD x default).2.1) with h2 | h2
    · rw [show gdE ts (x + 1) = true by simp only [gdE, h1, cond_true], show cntS ts (x + 1) = cntS ts x + 1 by simp only [cntS, h2, cond_true]]
      exact ia_4610_1153_11 hx h80 (cntS_le x) (gdE_no h hx) hz hsn h1 h2
    · rw [show gdE ts (x + 1) = true by simp only [gdE, h1, cond_true], show cntS ts (x + 1) = cntS ts x by simp only [cntS, h2, cond_false, Nat.add_zero]]
      exact ia_4610_1153_10 hx h80 (cntS_le x) (gdE_no h hx) hz hsn h1 h2
    · rw [show gdE ts (x + 1) = ((ts.getD x default).2.2 == 7) by simp only [gdE, h1, cond_false], show cntS ts (x + 1) = cntS ts x + 1 by simp only [cntS, h2, cond_true]]
      exact ia_4610_1153_01 hx h80 (cntS_le x) (gdE_no h hx) hz hsn h1 h2
    · rw [show gdE ts (x + 1) = ((ts.getD x default).2.2 == 7) by simp only [gdE, h1, cond_false], show cntS ts (x + 1) = cntS ts x by simp only [cntS, h2, cond_false, Nat.add_zero]]
      exact ia_4610_1153_00 hx h80 (cntS_le x) (gdE_no h hx) hz hsn h1 h2
  · exact ia_4610_1153_end rfl
theorem iw_4610_2626 {acts : List Act2} {c el k : Nat} (h : LInv ag mo ts) (h80 : ts.length ≤ 1000) :
    LoopOK Try.prog (loopN Try.prog 5 1) (mkF [(0, .bool ag), (1, .int .i64 n), (2, .slice (some ⟨0, 0, none⟩) acts.length c), (7, .pointer (some ⟨769, 0, none⟩)), (9, .int .i64 (k : Int)), (11, .int .i64 ((0 : Nat) : Int)), (12, .bool (false)), (13, .int .i64 ((0 : Nat) : Int))] 160 0) [(0, ⟨el, acts.flatMap act2F, 2⟩), (769, ⟨24, [Value.bool ag, Value.int IntKind.i64 mo, .slice (some ⟨2626, 0, none⟩) ts.length ts.length], 0⟩), (2626, ⟨39, ts.flatMap tryF, 3⟩)] 4610 ⟨.exit 3, mkF [(0, .bool ag), (1, .int .i64 n), (2, .slice (some ⟨0, 0, none⟩) acts.length c), (7, .pointer (some ⟨769, 0, none⟩)), (9, .int .i64 (k : Int)), (11, .int .i64 (cntS ts ts.length : Int))] 160 0, [(0, ⟨el, acts.flatMap act2F, 2⟩), (769, ⟨24, [Value.bool ag, Value.int IntKind.i64 mo, .slice (some ⟨2626, 0, none⟩) ts.length ts.length], 0⟩), (2626, ⟨39, ts.flatMap tryF, 3⟩)], 4674, []⟩ := by
  refine loop_ind callT_spec mixed (LF := 10) (F := 100) (nxb := 4611) (keys := [0, 1, 2, 7, 9, 11, 12, 13]) (keysE := [0, 1, 2, 7, 9, 11]) ts.length (fun x => mkF [(0, .bool ag), (1, .int .i64 n), (2, .slice (some ⟨0, 0, none⟩) acts.length c), (7, .pointer (some ⟨769, 0, none⟩)), (9, .int .i64 (k : Int)), (11, .int .i64 (cntS ts x : Int)), (12, .bool (gdE ts x)), (13, .int .i64 (x : Int))] 160 0) (fun _ => [(0, ⟨el, acts.flatMap act2F, 2⟩), (769, ⟨24, [Value.bool ag, Value.int IntKind.i64 mo, .slice (some ⟨2626, 0, none⟩) ts.length ts.length], 0⟩), (2626, ⟨39, ts.flatMap tryF, 3⟩)]) (by decide) (by simp) rfl ?_ ?_ (fun h => by cases h)
  · intro x hx
    have hz : ((ts.getD x default).2.2 == 0) = true → ¬ x + 1 < ts.length := fun e hl => (h.las x hl).1 (by simpa using e)
    have hsn : (!ag) = true → (ts.getD x default).2.1 = true → ¬ x + 1 < ts.length := fun e1 e2 hl => by
      have := (h.las x hl).2.2 (by simpa using e1)
      rw [this] at e2; cases e2
    rcases Bool.eq_false_or_eq_true ((ts.getD x default).2.2 == 1) with h1 | h1 <;> rcases Bool.eq_false_or_eq_true ((ts.getD x default).2.1) with h2 | h2
    · rw [show gdE ts (x + 1) = true by simp only [gdE, h1, cond_true], show cntS ts (x + 1) = cntS ts x + 1 by simp only [cntS, h2, cond_true]]
      exact ia_4610_2626_11 hx h80 (cntS_le x) (gdE_no h hx) hz hsn h1 h2
    · rw [show gdE ts (x + 1) = true by simp only [gdE, h1, cond_true], show cntS ts (x + 1) = cntS ts x by simp only [cntS, h2, cond_false, Nat.add_zero]]
      exact ia_4610_2626_10 hx h80 (cntS_le x) (gdE_no h hx) hz hsn h1 h2
    · rw [show gdE ts (x + 1) = ((ts.getD x default).2.2 == 7) by simp only [gdE, h1, cond_false], show cntS ts (x + 1) = cntS ts x + 1 by simp only [cntS, h2, cond_true]]
      exact ia_4610_2626_01 hx h80 (cntS_le x) (gdE_no h hx) hz hsn h1 h2
    · rw [show gdE ts (x + 1) = ((ts.getD x default).2.2 == 7) by simp only [gdE, h1, cond_false], show cntS ts (x + 1) = cntS ts x by simp only [cntS, h2, cond_false, Nat.add_zero]]
      exact ia_4610_2626_00 hx h80 (cntS_le x) (gdE_no h hx) hz hsn h1 h2
  · exact ia_4610_2626_end rfl
def fA (ag : Bool) (n : Int) (al c k : Nat) : List Value := mkF [(0, .bool ag), (1, .int .i64 n), (2, .slice (some ⟨0, 0, none⟩) al c), (7, .pointer (some ⟨769, 0, none⟩)), (9, .int .i64 (k : Int))] 160 0
def hA (ag : Bool) (mo : Int) (acts : List Act2) (el : Nat) (ts : List Try3) : Heap := match ts with
  | [] => [(0, ⟨el, acts.flatMap act2F, 2⟩), (769, ⟨24, [Value.bool ag, Value.int IntKind.i64 mo, .slice none 0 0], 0⟩)]
  | t :: l => [(0, ⟨el, acts.flatMap act2F, 2⟩), (769, ⟨24, [Value.bool ag, Value.int IntKind.i64 mo, .slice (some ⟨1153, 0, none⟩) (t :: l).length (t :: l).length], 0⟩), (1153, ⟨39, (t :: l).flatMap tryF, 3⟩)]
theorem hA_ne {acts : List Act2} {el : Nat} (h : 0 < ts.length) : hA ag mo acts el ts = [(0, ⟨el, acts.flatMap act2F, 2⟩), (769, ⟨24, [Value.bool ag, Value.int IntKind.i64 mo, .slice (some ⟨1153, 0, none⟩) ts.length ts.length], 0⟩), (1153, ⟨39, ts.flatMap tryF, 3⟩)] := by
  cases ts with
  | nil => simp at h
  | cons t l => rfl
theorem rd_step {acts : List Act2} {c el k : Nat} (h : LInv ag (n + 1) ts) (h0 : 0 ≤ n) (h64 : n ≤ 64) (hk : k < acts.length) (h200 : acts.length ≤ 200) :
    RoundTo Try.prog callT 10 100 (loopN Try.prog 5 0) 1153 1154 [0, 1, 2, 7, 9] .normal (fA ag n acts.length c k) (hA ag (n + 1) acts el ts) (fA ag n acts.length c (k + 1)) (hA ag (n + 1) acts el (nextT ag (n + 1) ts (acts.getD k default))) 1154 := by
  have hl := h.len
  have hck := h.ck (by omega) (by omega)
  have hn : IntKind.i64.wrap (n + 1) = n + 1 := w64 (by omega)
  have h80 : ts.length ≤ 1000 := by omega
  have hi2 := next_inv (a := acts.getD k default) h
  have hl2 := hi2.1.len
  have hck2 := hi2.1.ck (by omega) (by omega)
  have h802 : (nextT ag (n + 1) ts (acts.getD k default)).length ≤ 1000 := by omega
  have p3 : (pick_0 (acts.getD k default).1 3 == 0) = true → pick_0 (acts.getD k default).1 3 = 0 := fun e => by simpa using e
  have p4 : (pick_0 (acts.getD k default).1 3 == 0) = false → pick_0 (acts.getD k default).1 3 ≠ 0 := fun e => by simpa using e
  have p5 : (pick_0 (acts.getD k default).1 3 == 1) = true → pick_0 (acts.getD k default).1 3 = 1 := fun e => by simpa using e
  have p6 : (pick_0 (acts.getD k default).1 3 == 1) = false → pick_0 (acts.getD k default).1 3 ≠ 1 := fun e => by simpa using e
  by_cases hp : 0 < ts.length
  · have hp2 : 0 < (nextT ag (n + 1) ts (acts.getD k default)).length := by omega
    by_cases q0 : pick_0 (acts.getD k default).1 3 = 0
    · by_cases hb : beginE ag (n + 1) ts (acts.getD k default).2 = 0
      · have e : nextT ag (n + 1) ts (acts.getD k default) = ts ++ [((acts.getD k default).2, false, 0)] := by unfold nextT; rw [if_pos q0, if_pos hb]
        rw [hA_ne hp, hA_ne hp2]
        exact oa_rR (e2 := 0) hk h200 (fun _ => by rw [e, List.length_append]; exact begin_r_ok hp h80 hb) (fun q => absurd q0 (p4 q)) (fun q => absurd q0 (p4 q)) (by have := ck_r (ag := ag) (mo := n + 1) (el := 39) h802; rw [hck2] at this; exact this) hi2.2 (iw_4290_2306 hi2.1 h802) (iw_4482_2498 hi2.1 h802) (iw_4610_2626 hi2.1 h802) hn hl2 (fun ha => cntS_one hi2.1 ha)
      · have e : nextT ag (n + 1) ts (acts.getD k default) = ts := by unfold nextT; rw [if_pos q0, if_neg hb]
        rw [e, hA_ne hp]
        exact oa_rE (ts2 := []) (e2 := beginE ag (n + 1) ts (acts.getD k default).2) hk h200 (fun _ => begin_r_err hp h80 hb) (fun q => absurd q0 (p4 q)) (fun q => absurd q0 (p4 q)) (by have := ck_r (ag := ag) (mo := n + 1) (el := 39) h80; rw [hck] at this; exact this) (same_r h80) (by simpa using hb) (iw_4290_1153 h h80) (iw_4482_1153 h h80) (iw_4610_1153 h h80) hn hl (fun ha => cntS_one h ha)
    · by_cases q1 : pick_0 (acts.getD k default).1 3 = 1
      · by_cases hb : sentE (n + 1) ts = 0
        · have e : nextT ag (n + 1) ts (acts.getD k default) = bumpT ts none := by unfold nextT; rw [if_neg q0, if_pos q1, if_pos hb]
          have el2 : (bumpT ts none).length = ts.length := by simp [bumpT]
          rw [hA_ne hp, hA_ne hp2]
          exact oa_rR (e2 := 0) hk h200 (fun q => absurd (p3 q) q0) (fun _ _ => by rw [e, el2]; exact sent_r_ok hp h80 hb) (fun _ q => absurd q1 (p6 q)) (by have := ck_r (ag := ag) (mo := n + 1) (el := 39) h802; rw [hck2] at this; exact this) hi2.2 (iw_4290_2306 hi2.1 h802) (iw_4482_2498 hi2.1 h802) (iw_4610_2626 hi2.1 h802) hn hl2 (fun ha => cntS_one hi2.1 ha)
        · have e : nextT ag (n + 1) ts (acts.getD k default) = ts := by unfold nextT; rw [if_neg q0, if_pos q1, if_neg hb]
          rw [e, hA_ne hp]
          exact oa_rE (ts2 := []) (e2 := sentE (n + 1) ts) hk h200 (fun q => absurd (p3 q) q0) (fun _ _ => sent_r_err hp h80 hb) (fun _ q => absurd q1 (p6 q)) (by have := ck_r (ag := ag) (mo := n + 1) (el := 39) h80; rw [hck] at this; exact this) (same_r h80) (by simpa using hb) (iw_4290_1153 h h80) (iw_4482_1153 h h80) (iw_4610_1153 h h80) hn hl (fun ha => cntS_one h ha)
      · by_cases hb : endE (n + 1) ts (acts.getD k default).2 = 0
        · have e : nextT ag (n + 1) ts (acts.getD k default) = bumpT ts (some (acts.getD k default).2) := by unfold nextT; rw [if_neg q0, if_neg q1, if_pos hb]
          have el2 : (bumpT ts (some (acts.getD k default).2)).length = ts.length := by simp [bumpT]
          rw [hA_ne hp, hA_ne hp2]
          exact oa_rR (e2 := 0) hk h200 (fun q => absurd (p3 q) q0) (fun _ q => absurd (p5 q) q1) (fun _ _ => by rw [e, el2]; exact end_r_ok hp h80 hb) (by have := ck_r (ag := ag) (mo := n + 1) (el := 39) h802; rw [hck2] at this; exact this) hi2.2 (iw_4290_2306 hi2.1 h802) (iw_4482_2498 hi2.1 h802) (iw_4610_2626 hi2.1 h802) hn hl2 (fun ha => cntS_one hi2.1 ha)
        · have e : nextT ag (n + 1) ts (acts.getD k default) = ts := by unfold nextT; rw [if_neg q0, if_neg q1, if_neg hb]
          rw [e, hA_ne hp]
          exact oa_rE (ts2 := []) (e2 := endE (n + 1) ts (acts.getD k default).2) hk h200 (fun q => absurd (p3 q) q0) (fun _ q => absurd (p5 q) q1) (fun _ _ => end_r_err hp h80 hb) (by have := ck_r (ag := ag) (mo := n + 1) (el := 39) h80; rw [hck] at this; exact this) (same_r h80) (by simpa using hb) (iw_4290_1153 h h80) (iw_4482_1153 h h80) (iw_4610_1153 h h80) hn hl (fun ha => cntS_one h ha)
  · have hts : ts = [] := List.eq_nil_of_length_eq_zero (by omega)
    subst hts
    have hc0 : CallOK Try.prog 9 [.agg #[.bool ag, .int .i64 (n + 1), .slice none 0 0]] [] 0 (.int .i64 0) [] := by have := ck_n (ag := ag) (mo := n + 1); rw [hck] at this; exact this
    have hs0 : sentE (n + 1) [] ≠ 0 := fun e => by have := (sentE_zero e).2.1; cases this
    have he0 : endE (n + 1) [] (acts.getD k default).2 ≠ 0 := fun e => by have := (endE_zero e).2.2.2.1; cases this
    by_cases q0 : pick_0 (acts.getD k default).1 3 = 0
    · by_cases hb : beginE ag (n + 1) [] (acts.getD k default).2 = 0
      · have e : nextT ag (n + 1) [] (acts.getD k default) = [] ++ [((acts.getD k default).2, false, 0)] := by unfold nextT; rw [if_pos q0, if_pos hb]
        rw [hA_ne (show 0 < (nextT ag (n + 1) [] (acts.getD k default)).length by rw [e]; simp)]
        exact oa_nR (e2 := 0) (ts := []) hk h200 (by simpa using q0) (fun _ => by rw [e]; exact begin_n_ok hb) (by have := ck_r (ag := ag) (mo := n + 1) (el := 39) h802; rw [hck2] at this; exact this) (iw_4290_2306 hi2.1 h802) (iw_4482_2498 hi2.1 h802) (iw_4610_2626 hi2.1 h802) hn hl2 (fun ha => cntS_one hi2.1 ha)
      · have e : nextT ag (n + 1) [] (acts.getD k default) = [] := by unfold nextT; rw [if_pos q0, if_neg hb]
        rw [e]
        exact oa_nE (ts := []) (ts2 := []) (se := 0) (e2 := beginE ag (n + 1) [] (acts.getD k default).2) hk h200 (fun _ => begin_n_err hb) (fun q => absurd q0 (p4 q)) (fun q => absurd q0 (p4 q)) hc0 same_n (by simpa using hb) hn (by omega) (fun _ => Nat.zero_le _)
    · by_cases q1 : pick_0 (acts.getD k default).1 3 = 1
      · have e : nextT ag (n + 1) [] (acts.getD k default) = [] := by unfold nextT; rw [if_neg q0, if_pos q1, if_neg hs0]
        rw [e]
        exact oa_nE (ts := []) (ts2 := []) (se := 0) (e2 := sentE (n + 1) []) hk h200 (fun q => absurd (p3 q) q0) (fun _ _ => sent_n_err) (fun _ q => absurd q1 (p6 q)) hc0 same_n (by simpa using hs0) hn (by omega) (fun _ => Nat.zero_le _)
      · have e : nextT ag (n + 1) [] (acts.getD k default) = [] := by unfold nextT; rw [if_neg q0, if_neg q1, if_neg he0]
        rw [e]
        exact oa_nE (ts := []) (ts2 := []) (se := 0) (e2 := endE (n + 1) [] (acts.getD k default).2) hk h200 (fun q => absurd (p3 q) q0) (fun _ q => absurd (p5 q) q1) (fun _ _ => end_n_err) hc0 same_n (by simpa using he0) hn (by omega) (fun _ => Nat.zero_le _)
def tsA (ag : Bool) (mo : Int) (acts : List Act2) : Nat → List Try3
  | 0 => []
  | k + 1 => nextT ag mo (tsA ag mo acts k) (acts.getD k default)
theorem tsA_inv {acts : List Act2} (h0 : 0 ≤ mo) : ∀ k, LInv ag mo (tsA ag mo acts k)
  | 0 => ⟨by simpa [tsA] using h0, fun x h => by simp [tsA] at h, fun x h => by simp [tsA] at h⟩
  | k + 1 => (next_inv (tsA_inv h0 k)).1
theorem rd_loop {acts : List Act2} {c el : Nat} (h0 : 0 ≤ n) (h64 : n ≤ 64) (h200 : acts.length ≤ 200) :
    LoopOK Try.prog (loopN Try.prog 5 0) (fA ag n acts.length c 0) (hA ag (n + 1) acts el []) 1153 ⟨.exit 0, mkF [] 160 0, [], 1217, []⟩ := by
  refine loop_ind callT_spec mixed (LF := 10) (F := 100) (nxb := 1154) (keys := [0, 1, 2, 7, 9]) (keysE := []) acts.length (fun k => fA ag n acts.length c k) (fun k => hA ag (n + 1) acts el (tsA ag (n + 1) acts k)) (by decide) (by simp) rfl ?_ ?_ (fun h => by cases h)
  · intro k hk
    exact rd_step (tsA_inv (by omega) k) h0 h64 hk h200
  · generalize tsA ag (n + 1) acts acts.length = ts
    cases ts with
    | nil => exact oa_lastn (ts := []) (ts2 := []) (se := 0) (e2 := 0) rfl
    | cons t l => exact oa_lastr (ts := t :: l) (ts2 := []) (se := 0) (e2 := 0) rfl
end
end Go.Proofs.Ytmiheegkilgimaa
