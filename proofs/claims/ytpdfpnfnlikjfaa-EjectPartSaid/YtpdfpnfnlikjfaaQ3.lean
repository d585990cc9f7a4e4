/- EjectPart: the loops as wholes. -/
import Derived.Test.YtpdfpnfnlikjfaaQ2
namespace Go.Proofs.Ytpdfpnfnlikjfaa
open Go.RowKit
set_option linter.unusedSimpArgs false
set_option linter.unusedVariables false
set_option maxRecDepth 100000
theorem pick_rng3 (x : Int) {m : Int} (hm : 0 < m) (hm2 : m ≤ 100000) : 0 ≤ pick_0 x m ∧ pick_0 x m < m := by
  have h1 := Int.tmod_lt_of_pos x hm
  have h2 := Int.lt_tmod_of_pos x hm
  unfold pick_0
  rw [show decide (m < 1) = false from decide_eq_false (by omega)]
  simp only [cond_false]
  by_cases h : x.tmod m < 0
  · rw [show decide (x.tmod m < 0) = true by simpa using h]
    simp only [cond_true]
    rw [w64 (by omega)]
    omega
  · rw [show decide (x.tmod m < 0) = false by simpa using h]
    simp only [cond_false]
    omega
def fq0 (T al c : Nat) (b k : Nat) (now : Int) : List Value := mkF [(1, .int .i64 (T : Int)), (2, .slice (some ⟨0, 0, none⟩) al c), (3, .pointer (some ⟨1, 0, none⟩)), (7, .slice (some ⟨b, 0, none⟩) T T), (8, .int .i64 now), (9, .int .i64 (k : Int))] 150 0
def hq0 (cf cb cm cp : Int) (acts : List ActT) (el b : Nat) (ls : List EjT) : Heap := [(0, ⟨el, acts.flatMap actF, 2⟩), (1, ⟨24, [Value.int .i64 cf, Value.int .i64 cb, Value.int .i64 cm, Value.int .i64 cp], 0⟩), (b, ⟨27, ls.flatMap ejF, 3⟩)]
def fqI (T al c : Nat) (b k i x : Nat) (now2 : Int) (ls : List EjT) : List Value := mkF [(1, .int .i64 (T : Int)), (2, .slice (some ⟨0, 0, none⟩) al c), (3, .pointer (some ⟨1, 0, none⟩)), (7, .slice (some ⟨b, 0, none⟩) T T), (8, .int .i64 now2), (9, .int .i64 (k : Int)), (10, .int .i64 (i : Int)), (11, .bool (decide ((ls.getD i default).2.2 > now2))), (12, .pointer (some ⟨3266, 0, none⟩)), (13, .slice (some ⟨3970, 0, none⟩) T T), (15, .int .i64 (x : Int))] 150 0
def hqI (cf cb cm cp : Int) (acts : List ActT) (el b i : Nat) (ls ms : List EjT) : Heap := [(0, ⟨el, acts.flatMap actF, 2⟩), (1, ⟨24, [Value.int .i64 cf, Value.int .i64 cb, Value.int .i64 cm, Value.int .i64 cp], 0⟩), (b, ⟨27, ls.flatMap ejF, 3⟩), (3266, ⟨27, [Value.int .i64 (ls.getD i default).1, Value.int .i64 (ls.getD i default).2.1, Value.int .i64 (ls.getD i default).2.2], 0⟩), (3970, ⟨27, ms.flatMap ejF, 3⟩)]
section
variable {cf cb cm cp now now2 : Int} {T c el k i : Nat} {acts : List ActT} {ls ms : List EjT}
theorem q_inner (b : Nat) (hb : b = 1089 ∨ b = 1345) (hT : T ≤ 100) (hl : ls.length = T) (hs : ms.length = T) (hx : ∀ x, x < T → x ≠ i → ms.getD x default = ls.getD x default) (hu : ∀ x, x < T → IntKind.i64.wrap ((ms.getD x default).2.2 - now2) ≤ cm) :
    LoopOK Try.prog (loopN Try.prog 5 1) (fqI T acts.length c b k i 0 now2 ls) (hqI cf cb cm cp acts el b i ls ms) 5634 ⟨.exit 2, fqI T acts.length c b k i T now2 ls, hqI cf cb cm cp acts el b i ls ms, 5698, []⟩ := by
  refine loop_ind callL_spec mixed (LF := 10) (F := 100) (nxb := 5635) (keys := [1, 2, 3, 7, 8, 9, 10, 11, 12, 13, 15]) (keysE := [1, 2, 3, 7, 8, 9, 10, 11, 12, 13, 15]) T (fun x => fqI T acts.length c b k i x now2 ls) (fun _ => hqI cf cb cm cp acts el b i ls ms) (by decide) (by simp) rfl ?_ ?_ (fun h => by cases h)
  · intro x hxT
    rcases hb with rfl | rfl
    · exact q1_round1089 hxT hT hl hs (hx x hxT) (hu x hxT)
    · exact q1_round1345 hxT hT hl hs (hx x hxT) (hu x hxT)
  · rcases hb with rfl | rfl
    · exact q1_last1089 rfl
    · exact q1_last1345 rfl
/-- Time and list behind so many acts. -/
def qs (cf cb cm cp : Int) (T : Nat) (acts : List ActT) : Nat → Int × List EjT
  | 0 => (0, List.replicate T (0, 0, 0))
  | k + 1 => (IntKind.i64.wrap ((qs cf cb cm cp T acts k).1 + pick_0 (acts.getD k default).2.2 50), (qs cf cb cm cp T acts k).2.set (pick_0 (acts.getD k default).1 (T : Int)).toNat (repE cf cb cm cp (qs cf cb cm cp T acts k).2 (pick_0 (acts.getD k default).1 (T : Int)).toNat (acts.getD k default).2.1 (IntKind.i64.wrap ((qs cf cb cm cp T acts k).1 + pick_0 (acts.getD k default).2.2 50))))
theorem q_round (b : Nat) (hb : b = 1089 ∨ b = 1345) (hc : ConfOK cf cb cm cp) (hk : k < acts.length) (h80 : acts.length ≤ 80) (hT : T ≤ 100) (hT1 : 1 ≤ T) (h0 : 0 ≤ now) (hn : now ≤ 50 * k) (hI : PInv cm cp T now k ls) {n2 : Int} {j : Nat} (e1 : n2 = IntKind.i64.wrap (now + pick_0 (acts.getD k default).2.2 50)) (e2 : j = (pick_0 (acts.getD k default).1 (T : Int)).toNat) :
    RoundTo Try.prog callL 10 100 (loopN Try.prog 5 0) 1345 1346 [1, 2, 3, 7, 8, 9] .normal (fq0 T acts.length c b k now) (hq0 cf cb cm cp acts el b ls) (fq0 T acts.length c 1345 (k + 1) n2) (hq0 cf cb cm cp acts el 1345 (ls.set j (repE cf cb cm cp ls j (acts.getD k default).2.1 n2))) 1346 ∧
    0 ≤ n2 ∧ n2 ≤ 50 * (k + 1) ∧ PInv cm cp T n2 (k + 1) (ls.set j (repE cf cb cm cp ls j (acts.getD k default).2.1 n2)) := by
  have p1 := pick_rng3 (acts.getD k default).2.2 (m := 50) (by omega) (by omega)
  have p2 := pick_rng3 (acts.getD k default).1 (m := (T : Int)) (by omega) (by omega)
  rw [w64 (by omega)] at e1
  have hj : j < T := by omega
  obtain ⟨s1, s2, s3⟩ := part_step (w := (acts.getD k default).2.1) (now := n2) (i := j) hc h0 (by omega) (by omega) hT (by omega) hj hI
  refine ⟨?_, by omega, by omega, s1⟩
  have hm : may_0 cf cb cm cp n2 = 0 := may_of hc (by omega) (by omega)
  have hl := hI.len
  have m2 := hc.m2
  have hcT : 0 ≤ cp * (T : Int) ∧ cp * (T : Int) ≤ 100 * T := ⟨Int.mul_nonneg hc.p1 (by omega), Int.mul_le_mul_of_nonneg_right hc.p2 (by omega)⟩
  have hin := q_inner (cf := cf) (cb := cb) (cm := cm) (cp := cp) (now2 := n2) (T := T) (c := c) (el := el) (k := k) (i := j) (acts := acts) (ls := ls) (ms := ls.set j (repE cf cb cm cp ls j (acts.getD k default).2.1 n2)) b hb hT hl (by simpa using hl) (fun x hx hne => by
      simp only [List.getD_eq_getElem?_getD]
      rw [List.getElem?_set_ne (fun h => hne h.symm)]) (fun x hx => by
      have hmem := getD_mem (l := ls.set j (repE cf cb cm cp ls j (acts.getD k default).2.1 n2)) (i := x) (by simp; omega)
      have := s1.till _ hmem
      rw [w64 (by omega)]
      omega)
  have hcn := s1.part
  have hle := ejCount_le (ls.set j (repE cf cb cm cp ls j (acts.getD k default).2.1 n2)) n2
  rw [s1.len] at hle
  have hcnt : IntKind.i64.wrap (((ejCount (ls.set j (repE cf cb cm cp ls j (acts.getD k default).2.1 n2)) n2 : Nat) : Int) * 100) ≤ IntKind.i64.wrap (cp * (T : Int)) := by rw [w64 (by omega), w64 (by omega)]; exact hcn
  rcases hb with rfl | rfl
  · exact q0_round1089 hk h80 hl hj hT hm (by rw [w64 (by omega)]; omega) (by omega) hin hcnt s2 s3
  · exact q0_round1345 hk h80 hl hj hT hm (by rw [w64 (by omega)]; omega) (by omega) hin hcnt s2 s3
theorem qs_inv (hc : ConfOK cf cb cm cp) (h80 : acts.length ≤ 80) (hT : T ≤ 100) (hT1 : 1 ≤ T) : ∀ k, k ≤ acts.length → 0 ≤ (qs cf cb cm cp T acts k).1 ∧ (qs cf cb cm cp T acts k).1 ≤ 50 * k ∧ PInv cm cp T (qs cf cb cm cp T acts k).1 k (qs cf cb cm cp T acts k).2
  | 0, _ => by
    have hb := hc.b1
    have hm := hc.m1
    refine ⟨Int.le_refl _, by simp [qs], ⟨by simp [qs], fun t h => ?_, fun t h => ?_, ?_⟩⟩
    · rw [List.eq_of_mem_replicate h]; simp
    · rw [List.eq_of_mem_replicate h]; simp only [qs]; omega
    · have : ejCount (List.replicate T ((0 : Int), (0 : Int), (0 : Int))) 0 = 0 := cnt0 (Int.le_refl _) (fun t h => by rw [List.eq_of_mem_replicate h])
      simp only [qs, this]
      have := Int.mul_nonneg hc.p1 (show (0 : Int) ≤ T by omega)
      omega
  | k + 1, hk => by
    obtain ⟨h1, h2, h3⟩ := qs_inv hc h80 hT hT1 k (by omega)
    obtain ⟨_, r1, r2, r3⟩ := q_round (c := 0) (el := 0) 1089 (.inl rfl) hc (by omega) h80 hT hT1 h1 h2 h3 rfl rfl
    exact ⟨r1, r2, r3⟩
theorem q_outer (hc : ConfOK cf cb cm cp) (h1 : 0 < acts.length) (h80 : acts.length ≤ 80) (hT : T ≤ 100) (hT1 : 1 ≤ T) :
    LoopOK Try.prog (loopN Try.prog 5 0) (fq0 T acts.length c 1089 0 0) (hq0 cf cb cm cp acts el 1089 (List.replicate T (0, 0, 0))) 1345 ⟨.exit 0, fq0 T acts.length c 1345 acts.length (qs cf cb cm cp T acts acts.length).1, hq0 cf cb cm cp acts el 1345 (qs cf cb cm cp T acts acts.length).2, 1409, []⟩ := by
  refine loop_ind callL_spec mixed (LF := 10) (F := 100) (nxb := 1346) (keys := [1, 2, 3, 7, 8, 9]) (keysE := [1, 2, 3, 7, 8, 9]) acts.length (fun k => match k with | 0 => fq0 T acts.length c 1089 0 0 | k + 1 => fq0 T acts.length c 1345 (k + 1) (qs cf cb cm cp T acts (k + 1)).1) (fun k => match k with | 0 => hq0 cf cb cm cp acts el 1089 (List.replicate T (0, 0, 0)) | k + 1 => hq0 cf cb cm cp acts el 1345 (qs cf cb cm cp T acts (k + 1)).2) (by decide) (by simp) rfl ?_ ?_ (fun h => by cases h)
  · intro k hk
    obtain ⟨i1, i2, i3⟩ := qs_inv (cf := cf) (cb := cb) (cm := cm) (cp := cp) hc h80 hT hT1 k (by omega)
    cases k with
    | zero => exact (q_round (c := c) (el := el) 1089 (.inl rfl) hc hk h80 hT hT1 i1 i2 i3 rfl rfl).1
    | succ k => exact (q_round (c := c) (el := el) 1345 (.inr rfl) hc hk h80 hT hT1 i1 i2 i3 rfl rfl).1
  · obtain ⟨q, hq⟩ : ∃ q, acts.length = q + 1 := ⟨acts.length - 1, by omega⟩
    have h := q0_last (cf := cf) (cb := cb) (cm := cm) (cp := cp) (now := (qs cf cb cm cp T acts acts.length).1) (now2 := 0) (acts := acts) (c := c) (el := el) (T := T) (k := acts.length) (i := 0) (ls := (qs cf cb cm cp T acts acts.length).2) rfl
    generalize hG : acts.length = G at *
    subst hq
    exact h
end
end Go.Proofs.Ytpdfpnfnlikjfaa
