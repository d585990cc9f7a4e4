/- EjectWell: the loops as wholes. -/
import Derived.Test.YtpdfpnfnlikjfaaW2
namespace Go.Proofs.Ytpdfpnfnlikjfaa
open Go.RowKit
set_option linter.unusedSimpArgs false
set_option linter.unusedVariables false
set_option maxRecDepth 100000
def fwA (T fl c : Nat) (now : Int) (i : Nat) : List Value := mkF [(1, .int .i64 (T : Int)), (2, .slice (some ⟨0, 0, none⟩) fl c), (3, .int .i64 now), (4, .pointer (some ⟨1, 0, none⟩)), (9, .slice (some ⟨1985, 0, none⟩) T T), (10, .int .i64 (i : Int))] 172 0
def hwA (cf cb cm cp : Int) (fs : List Int) (el : Nat) (ls : List EjT) : Heap := [(0, ⟨el, fs.map fun t : Int => Value.int .i64 t, 2⟩), (1, ⟨24, [Value.int .i64 cf, Value.int .i64 cb, Value.int .i64 cm, Value.int .i64 cp], 0⟩), (1985, ⟨27, ls.flatMap ejF, 3⟩)]
def fwB (T : Nat) (now : Int) (b i : Nat) : List Value := mkF [(1, .int .i64 (T : Int)), (3, .int .i64 now), (4, .pointer (some ⟨1, 0, none⟩)), (9, .slice (some ⟨b, 0, none⟩) T T), (11, .slice (some ⟨2305, 0, none⟩) T T), (12, .int .i64 (i : Int))] 172 0
def fwC (T : Nat) (now : Int) (b p i : Nat) : List Value := mkF [(1, .int .i64 (T : Int)), (3, .int .i64 now), (4, .pointer (some ⟨1, 0, none⟩)), (9, .slice (some ⟨b, 0, none⟩) T T), (11, .slice (some ⟨p, 0, none⟩) T T), (14, .int .i64 (i : Int))] 172 0
def hw2 (cf cb cm cp : Int) (b1 : Nat) (l1 : List EjT) (b2 : Nat) (l2 : List EjT) : Heap := [(1, ⟨24, [Value.int .i64 cf, Value.int .i64 cb, Value.int .i64 cm, Value.int .i64 cp], 0⟩), (b1, ⟨27, l1.flatMap ejF, 3⟩), (b2, ⟨27, l2.flatMap ejF, 3⟩)]
section
variable {cf cb cm cp now : Int} {T c el : Nat} {fs : List Int} {rs ps : List EjT}
theorem loop0 (hf : T ≤ fs.length) (hT1 : 1 ≤ T) (hT : T ≤ 100) : LoopOK Try.prog (loopN Try.prog 7 0) (fwA T fs.length c now 1) (hwA cf cb cm cp fs el (wl fs T 0)) 2177 ⟨.exit 0, fwA T fs.length c now T, hwA cf cb cm cp fs el ((0, 0, 0) :: wrest fs T (T - 1)), 2241, []⟩ := by
  rw [← wl_cons hT1]
  obtain ⟨q, rfl⟩ : ∃ q, T = q + 1 := ⟨T - 1, by omega⟩
  refine loop_ind callL_spec mixed (LF := 10) (F := 100) (nxb := 2178) (keys := [1, 2, 3, 4, 9, 10]) (keysE := [1, 2, 3, 4, 9, 10]) q (fun r => fwA (q + 1) fs.length c now (r + 1)) (fun r => hwA cf cb cm cp fs el (wl fs (q + 1) r)) (by decide) (by simp) rfl ?_ ?_ (fun h => by cases h)
  · intro r hr
    exact w0_round (i := r + 1) (ls := wl fs (q + 1) r) (by omega) hf (wl_len fs (q + 1) r) hT
  · exact w0_last (i := q + 1) (ls := wl fs (q + 1) q) rfl
theorem tW_zero (h1 : 1 ≤ cf) : tW cf cb cm cp now T 0 = (0, 0, 0) := if_pos (by simp; omega)
theorem tW_end (h1 : 1 ≤ cf) : tW cf cb cm cp now T cf.toNat = tEnd cf cb cm cp now T := if_neg (by omega)
theorem loop2_one (h : cf = 1) : LoopOK Try.prog (loopN Try.prog 7 1) (fwB T now 1985 0) (hw2 cf cb cm cp 1985 ((0, 0, 0) :: rs) 2305 ((0, 0, 0) :: ps)) 2497 ⟨.exit 2, fwB T now 1985 (cf - 1).toNat, hw2 cf cb cm cp 1985 (tW cf cb cm cp now T (cf - 1).toNat :: rs) 2305 ((0, 0, 0) :: ps), 2561, []⟩ := by
  have e := tW_zero (cf := cf) (cb := cb) (cm := cm) (cp := cp) (now := now) (T := T) (by omega)
  have e0 : (cf - 1).toNat = 0 := by omega
  rw [e0, ← e]
  exact loop_ind callL_spec mixed (LF := 10) (F := 100) (nxb := 2498) (keys := [1, 3, 4, 9, 11, 12]) (keysE := [1, 3, 4, 9, 11, 12]) 0 (fun _ => fwB T now 1985 0) (fun _ => hw2 cf cb cm cp 1985 (tW cf cb cm cp now T 0 :: rs) 2305 (tW cf cb cm cp now T 0 :: ps)) (by decide) (by simp) rfl (fun k hk => by omega) (by rw [e]; rw [← e]; rw [e]; have := w2_last1985 (cf := cf) (cb := cb) (cm := cm) (cp := cp) (now := now) (T := T) (i := 0) (rs := rs) (ps := ps) (by omega) (by omega) (by simp; omega); rw [e] at this; exact this) (fun h => by cases h)
theorem loop2_two (h : 2 ≤ cf) (hR : rs.length + 1 = T) (hT : T ≤ 100) (h0 : 0 ≤ now) (hr : ∀ t ∈ rs, t.2.2 = 0) (hb : cf ≤ 40) (hm : may_0 cf cb cm cp now = 0) : LoopOK Try.prog (loopN Try.prog 7 1) (fwB T now 1985 0) (hw2 cf cb cm cp 1985 ((0, 0, 0) :: rs) 2305 ((0, 0, 0) :: ps)) 2497 ⟨.exit 2, fwB T now 2497 (cf - 1).toNat, hw2 cf cb cm cp 2305 ((0, 0, 0) :: ps) 2497 (tW cf cb cm cp now T (cf - 1).toNat :: rs), 2561, []⟩ := by
  have e := tW_zero (cf := cf) (cb := cb) (cm := cm) (cp := cp) (now := now) (T := T) (by omega)
  refine loop_ind callL_spec mixed (LF := 10) (F := 100) (nxb := 2498) (keys := [1, 3, 4, 9, 11, 12]) (keysE := [1, 3, 4, 9, 11, 12]) (cf - 1).toNat (fun i => match i with | 0 => fwB T now 1985 0 | i + 1 => fwB T now 2497 (i + 1)) (fun i => match i with | 0 => hw2 cf cb cm cp 1985 ((0, 0, 0) :: rs) 2305 ((0, 0, 0) :: ps) | i + 1 => hw2 cf cb cm cp 2305 ((0, 0, 0) :: ps) 2497 (tW cf cb cm cp now T (i + 1) :: rs)) (by decide) (by simp) rfl ?_ ?_ (fun h => by cases h)
  · intro i hi
    cases i with
    | zero =>
      have := w2_round1985 (cf := cf) (cb := cb) (cm := cm) (cp := cp) (now := now) (T := T) (i := 0) (rs := rs) (ps := ps) hR hT h0 hr hb (by omega) hm (by omega)
      rw [e] at this
      exact this
    | succ i => exact w2_round2497 (cf := cf) (cb := cb) (cm := cm) (cp := cp) (now := now) (T := T) (i := i + 1) (rs := rs) (ps := ps) hR hT h0 hr hb (by omega) hm (by omega)
  · obtain ⟨q, hq⟩ : ∃ q, (cf - 1).toNat = q + 1 := ⟨(cf - 1).toNat - 1, by omega⟩
    rw [hq]
    exact w2_last2497 (cf := cf) (cb := cb) (cm := cm) (cp := cp) (now := now) (T := T) (i := q + 1) (rs := rs) (ps := ps) hb (by omega) (by omega)
theorem loop4 (h1 : 1 ≤ cf) (hR : rs.length + 1 = T) (hT : T ≤ 100) (h0 : 0 ≤ now) (hr : ∀ t ∈ rs, t.2.2 = 0) (hb : cf ≤ 40) (hm : may_0 cf cb cm cp now = 0) (hP : ps.length + 1 = T) (hp : ∀ t ∈ ps, t.2.2 = 0) : LoopOK Try.prog (loopN Try.prog 7 2) (fwC T now 2753 2305 0) (hw2 cf cb cm cp 2305 ((0, 0, 0) :: ps) 2753 ((0, 0, 0) :: rs)) 4161 ⟨.exit 4, fwC T now 4161 4162 cf.toNat, hw2 cf cb cm cp 4161 (tEnd cf cb cm cp now T :: rs) 4162 (tEnd cf cb cm cp now T :: ps), 4225, []⟩ := by
  have e := tW_zero (cf := cf) (cb := cb) (cm := cm) (cp := cp) (now := now) (T := T) (by omega)
  have e2 := tW_end (cf := cf) (cb := cb) (cm := cm) (cp := cp) (now := now) (T := T) (by omega)
  refine loop_ind callL_spec mixed (LF := 10) (F := 100) (nxb := 4163) (keys := [1, 3, 4, 9, 11, 14]) (keysE := [1, 3, 4, 9, 11, 14]) cf.toNat (fun i => match i with | 0 => fwC T now 2753 2305 0 | i + 1 => fwC T now 4161 4162 (i + 1)) (fun i => match i with | 0 => hw2 cf cb cm cp 2305 ((0, 0, 0) :: ps) 2753 ((0, 0, 0) :: rs) | i + 1 => hw2 cf cb cm cp 4161 (tW cf cb cm cp now T (i + 1) :: rs) 4162 (tW cf cb cm cp now T (i + 1) :: ps)) (by decide) (by simp) rfl ?_ ?_ (fun h => by cases h)
  · intro i hi
    cases i with
    | zero =>
      have := w4_round2753 (cf := cf) (cb := cb) (cm := cm) (cp := cp) (now := now) (T := T) (i := 0) (rs := rs) (ps := ps) hR hT h0 hr hb (by omega) hm hP hp (by omega)
      rw [e] at this
      exact this
    | succ i => exact w4_round4161 (cf := cf) (cb := cb) (cm := cm) (cp := cp) (now := now) (T := T) (i := i + 1) (rs := rs) (ps := ps) hR hT h0 hr hb (by omega) hm hP hp (by omega)
  · rw [← e2]
    obtain ⟨q, hq⟩ : ∃ q, cf.toNat = q + 1 := ⟨cf.toNat - 1, by omega⟩
    rw [hq]
    exact w4_last (cf := cf) (cb := cb) (cm := cm) (cp := cp) (now := now) (T := T) (i := q + 1) (rs := rs) (ps := ps) (by omega)
end
end Go.Proofs.Ytpdfpnfnlikjfaa
