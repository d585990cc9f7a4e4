/- ProbeEvery: the states of the loop, and the loop. -/
import Derived.Test.YtbmgigbcilgieaaE1
namespace Go.Proofs.Ytbmgigbcilgieaa
open Go.RowKit
set_option linter.unusedVariables false
set_option maxRecDepth 100000
theorem w64 {n : Int} (h : -9223372036854775808 ≤ n ∧ n ≤ 9223372036854775807) : IntKind.i64.wrap n = n := IntWalk.i64_in n h
theorem within_iff (n k : Int) : within_0 n k = true ↔ 1 ≤ n ∧ n ≤ k := by
  unfold within_0
  by_cases h1 : 1 ≤ n <;> by_cases h2 : n ≤ k <;> simp [h1, h2]
theorem check_zero {ce cw cr cf : Int} (h : check_0 ce cw cr cf = 0) : (1 ≤ ce ∧ ce ≤ 253402300799) ∧ (1 ≤ cw ∧ cw ≤ 253402300799) ∧ (1 ≤ cr ∧ cr ≤ 1048576) ∧ 1 ≤ cf ∧ cf ≤ 1048576 := by
  unfold check_0 at h
  cases h1 : within_0 ce 253402300799 <;> cases h2 : within_0 cw 253402300799 <;> cases h3 : within_0 cr 1048576 <;> cases h4 : within_0 cf 1048576 <;> simp [h1, h2, h3, h4] at h
  rw [within_iff] at h1 h2 h3 h4
  exact ⟨h1, h2, h3, h4⟩
theorem may_zero {ce cw cr cf now : Int} (h : check_0 ce cw cr cf = 0) (h0 : 0 ≤ now) (h1 : now ≤ 253402300799) : may_0 ce cw cr cf now = 0 := by
  unfold may_0
  simp [h, show ¬ now < 0 by omega, show ¬ 253402300799 < now by omega]
def nxE (ce e : Int) : Int := if e < 0 then 0 else (if 253402300799 - ce < e then 253402300799 - ce else e) + ce
def outE (b : Int) : Bool := decide (0 ≤ b)
def snE (b : Int) : Int := if b < 0 then 0 else b
structure ES where
  up : Bool
  run : Int
  ended : Int
  begun : Int
  now : Int
def mdE (x : Int) : Int := (if x > 0 then x else 0).tmod 1000
theorem mdE_bd (x : Int) : 0 ≤ mdE x ∧ mdE x < 1000 := by
  unfold mdE
  split
  · rw [Int.tmod_eq_emod_of_nonneg (by omega)]; omega
  · decide
/-- One round. -/
def esNext (ce cw cr cf : Int) (x : Int) (y : Bool) (s : ES) : ES :=
  let t := s.now + mdE x
  if s.begun < 0 then
    if s.ended < 0 ∨ ce ≤ t - s.ended then ⟨s.up, s.run, s.ended, t, t⟩ else ⟨s.up, s.run, s.ended, s.begun, t⟩
  else if y = true then
    ⟨pend_0 ce cw cr cf s.up s.run (nxE ce s.ended) true s.begun true t, pend_1 ce cw cr cf s.up s.run (nxE ce s.ended) true s.begun true t, t, -1, t⟩
  else ⟨s.up, s.run, s.ended, s.begun, t⟩
def esAt (ce cw cr cf : Int) (l : List Int) (lb : List Bool) : Nat → ES
  | 0 => ⟨true, 0, -1, -1, 0⟩
  | k + 1 => esNext ce cw cr cf (l.getD k 0) (lb.getD k false) (esAt ce cw cr cf l lb k)
def EInv (k : Nat) (s : ES) : Prop := 0 ≤ s.now ∧ s.now ≤ 1000 * k ∧ -1 ≤ s.ended ∧ s.ended ≤ s.now ∧ -1 ≤ s.begun ∧ s.begun ≤ s.now
theorem esAt_inv (ce cw cr cf : Int) (l : List Int) (lb : List Bool) : ∀ k, EInv k (esAt ce cw cr cf l lb k)
  | 0 => by simp [EInv, esAt]
  | k + 1 => by
    have h := esAt_inv ce cw cr cf l lb k
    have hm := mdE_bd (l.getD k 0)
    unfold EInv at h ⊢
    simp only [esAt, esNext]
    generalize esAt ce cw cr cf l lb k = s at h ⊢
    split
    · split <;> simp only [] <;> omega
    · split <;> simp only [] <;> omega
variable {ce cw cr cf : Int}
theorem due_iff (hc : check_0 ce cw cr cf = 0) {up : Bool} {run e t : Int} (he : e ≤ t) (h0 : 0 ≤ t) (ht : t ≤ 80000) : due_0 up run (nxE ce e) false 0 t = decide (e < 0 ∨ ce ≤ t - e) := by
  have hz := check_zero hc
  have : (nxE ce e ≤ t) ↔ (e < 0 ∨ ce ≤ t - e) := by
    unfold nxE
    split
    · omega
    · split <;> omega
  unfold due_0
  by_cases h : nxE ce e ≤ t
  · simp [h, this.1 h]
  · have h' := mt this.2 h
    simp [h, h']
theorem late_out (hc : check_0 ce cw cr cf = 0) {up : Bool} {run nx b t : Int} (h0 : 0 ≤ b) (hb : b ≤ t) (ht : t ≤ 80000) : (late_0 ce cw cr cf up run nx true b t != decide (IntKind.i64.wrap (t - b) ≥ cw)) = false := by
  have hz := check_zero hc
  unfold late_0
  rw [w64 (n := t - b) (by omega), w64 (n := t - cw) (by omega)]
  by_cases h : b ≤ t - cw
  · have h2 : t - b ≥ cw := by omega
    have h3 : cw ≤ t - b := by omega
    simp [hc, h, h2, h3]
  · have h2 : ¬ t - b ≥ cw := by omega
    have h3 : t - b < cw := by omega
    simp [hc, h, h2, h3]
theorem late_in (up : Bool) (run nx t : Int) : late_0 ce cw cr cf up run nx false 0 t = false := by
  unfold late_0
  cases (check_0 ce cw cr cf == 0) <;> rfl
theorem begin_due (hc : check_0 ce cw cr cf = 0) {up : Bool} {run nx t : Int} (h0 : 0 ≤ t) (ht : t ≤ 80000) (hd : due_0 up run nx false 0 t = true) :
    pbegin_3 ce cw cr cf up run nx false 0 t = true ∧ pbegin_4 ce cw cr cf up run nx false 0 t = t ∧ pbegin_5 ce cw cr cf up run nx false 0 t = 0 := by
  have hm := may_zero hc h0 (by omega)
  simp [pbegin_3, pbegin_4, pbegin_5, hm, hd]
theorem begin_not (hc : check_0 ce cw cr cf = 0) {up : Bool} {run nx t b : Int} {out : Bool} (h0 : 0 ≤ t) (ht : t ≤ 80000) (hd : due_0 up run nx out b t = false) :
    pbegin_3 ce cw cr cf up run nx out b t = out ∧ pbegin_4 ce cw cr cf up run nx out b t = b ∧ pbegin_5 ce cw cr cf up run nx out b t = 8 := by
  have hm := may_zero hc h0 (by omega)
  simp [pbegin_3, pbegin_4, pbegin_5, hm, hd]
theorem end_out (hc : check_0 ce cw cr cf = 0) {up : Bool} {run nx t b : Int} (h0 : 0 ≤ t) (ht : t ≤ 80000) :
    pend_2 ce cw cr cf up run nx true b true t = nxE ce t ∧ pend_3 ce cw cr cf up run nx true b true t = false ∧ pend_4 ce cw cr cf up run nx true b true t = 0 ∧ pend_5 ce cw cr cf up run nx true b true t = 0 := by
  have hz := check_zero hc
  have hm := may_zero hc h0 (by omega)
  have hn : IntKind.i64.wrap ((if IntKind.i64.wrap (253402300799 - ce) < t then IntKind.i64.wrap (253402300799 - ce) else t) + ce) = nxE ce t := by
    rw [w64 (n := 253402300799 - ce) (by omega)]
    unfold nxE
    rw [if_neg (show ¬ t < 0 by omega)]
    exact w64 (by split <;> omega)
  refine ⟨?_, ?_, ?_, ?_⟩
  · unfold pend_2
    rw [hn]
    simp only [hm]
    cases up <;> simp
  · simp [pend_3, hm]
  · simp [pend_4, hm]
  · simp [pend_5, hm]
def xsE (l : List Int) : List Value := l.map fun x => .int .i64 x
def ysE (l : List Bool) : List Value := l.map fun x => .bool x
abbrev esF (ce cw cr cf : Int) (l : List Int) (lb : List Bool) (c d : Nat) (k : Nat) : List Value :=
  eF l.length c lb.length d (esAt ce cw cr cf l lb k).now (esAt ce cw cr cf l lb k).ended (esAt ce cw cr cf l lb k).begun (k : Int)
abbrev esH (a0 a1 : Nat) (ce cw cr cf : Int) (l : List Int) (lb : List Bool) (k : Nat) : Heap :=
  eH a0 a1 (xsE l) (ysE lb) ce cw cr cf (esAt ce cw cr cf l lb k).up (esAt ce cw cr cf l lb k).run (nxE ce (esAt ce cw cr cf l lb k).ended) (outE (esAt ce cw cr cf l lb k).begun) (snE (esAt ce cw cr cf l lb k).begun)
theorem es_round1 (hc : check_0 ce cw cr cf = 0) (a0 a1 : Nat) (xs ys : List Value) (n c m d : Nat) (hl : n ≤ 80) (hm : n ≤ m) (k : Nat) (hk : k < n) (x : Int) (y : Bool) (hx : xs[0 + k * 1]? = some (.int .i64 x)) (hy : ys[0 + k * 1]? = some (.bool y)) (s : ES) (hI : EInv k s) :
    RoundTo Try.prog callE 0 100 (loopN Try.prog 6 0) 1666 1666 eKeys .normal (eF n c m d s.now s.ended s.begun (k : Int)) (eH a0 a1 xs ys ce cw cr cf s.up s.run (nxE ce s.ended) (outE s.begun) (snE s.begun))
      (eF n c m d (esNext ce cw cr cf x y s).now (esNext ce cw cr cf x y s).ended (esNext ce cw cr cf x y s).begun ((k + 1 : Nat) : Int)) (eH a0 a1 xs ys ce cw cr cf (esNext ce cw cr cf x y s).up (esNext ce cw cr cf x y s).run (nxE ce (esNext ce cw cr cf x y s).ended) (outE (esNext ce cw cr cf x y s).begun) (snE (esNext ce cw cr cf x y s).begun)) 1666 := by
  have hz := check_zero hc
  have hmd := mdE_bd x
  unfold EInv at hI
  obtain ⟨up, run, ended, begun, now⟩ := s
  simp only at hI
  simp only [esNext]
  have hkd : decide ((k : Int) < (n : Int)) = true := by simpa using hk
  have hi1 : 0 ≤ (k : Int) ∧ (k : Int) < ((n : Nat) : Int) ∧ (k : Int).toNat = k := by omega
  have hi2 : 0 ≤ (k : Int) ∧ (k : Int) < ((m : Nat) : Int) ∧ (k : Int).toNat = k := by omega
  have hn : IntKind.i64.wrap (now + mdE x) = now + mdE x := w64 (by omega)
  have hw : IntKind.i64.wrap ((k : Int) + 1) = ((k + 1 : Nat) : Int) := by rw [w64 (by omega)]; omega
  by_cases hb : begun < 0
  · obtain rfl : begun = -1 := by omega
    have e1 : outE (-1) = false := by decide
    have e2 : snE (-1) = 0 := by decide
    have e3 : ((-1 : Int) < 0) := by decide
    simp only [e1, e2, if_pos e3]
    have hd := due_iff hc (up := up) (run := run) (e := ended) (t := now + mdE x) (by omega) (by omega) (by omega)
    by_cases he : ended < 0 ∨ ce ≤ now + mdE x - ended
    · rw [decide_eq_true he] at hd
      have hB := begin_due hc (by omega) (by omega) hd
      simp only [if_pos he]
      have e4 : outE (now + mdE x) = true := by simp [outE]; omega
      have e5 : snE (now + mdE x) = now + mdE x := by unfold snE; rw [if_neg (by omega)]
      simp only [e4, e5]
      by_cases h6 : ended < 0
      · exact round1a (begun := 0) hkd hi1 hx rfl hn (late_in _ _ _ _) hB.1 hB.2.1 hB.2.2 (by simpa using h6) hd hw
      · exact round1b (begun := 0) hkd hi1 hx rfl hn (late_in _ _ _ _) hB.1 hB.2.1 hB.2.2 (by simpa using h6) (by rw [w64 (by omega)]; simp; omega) hd hw
    · rw [decide_eq_false he] at hd
      have hB := begin_not hc (by omega) (by omega) hd
      simp only [if_neg he, e1, e2]
      exact round1c (begun := 0) hkd hi1 hx rfl hn (late_in _ _ _ _) hB.1 hB.2.1 hB.2.2 (by simp; omega) (by rw [w64 (by omega)]; simp; omega) hd hw
  · have e1 : outE begun = true := by simp [outE]; omega
    have e2 : snE begun = begun := by unfold snE; rw [if_neg hb]
    simp only [e1, e2, if_neg hb]
    have hL := late_out hc (up := up) (run := run) (nx := nxE ce ended) (b := begun) (t := now + mdE x) (by omega) (by omega) (by omega)
    have hb1 : decide (begun ≥ 0) = true := by simp; omega
    have hb2 : decide (begun < 0) = false := by simp; omega
    cases y with
    | false =>
      have hd : due_0 up run (nxE ce ended) true begun (now + mdE x) = false := rfl
      have hB := begin_not hc (by omega) (by omega) hd
      have e3 : ¬ (false = true) := by decide
      simp only [if_neg e3, e1, e2]
      exact round2 hkd hi1 hx rfl hn hb1 hL hb2 hi2 hy hB.1 hB.2.1 hB.2.2 hw
    | true =>
      have hE := end_out hc (up := up) (run := run) (nx := nxE ce ended) (t := now + mdE x) (b := begun) (by omega) (by omega)
      have hd := due_iff hc (up := pend_0 ce cw cr cf up run (nxE ce ended) true begun true (now + mdE x)) (run := pend_1 ce cw cr cf up run (nxE ce ended) true begun true (now + mdE x)) (e := now + mdE x) (t := now + mdE x) (by omega) (by omega) (by omega)
      rw [decide_eq_false (by omega)] at hd
      have hB := begin_not hc (by omega) (by omega) hd
      have f1 : outE (-1) = false := by decide
      have f2 : snE (-1) = 0 := by decide
      simp only [if_true, f1, f2]
      exact round3 hkd hi1 hx rfl hn hb1 hL hb2 hi2 hy rfl rfl hE.1 hE.2.1 hE.2.2.1 hE.2.2.2 hB.1 hB.2.1 hB.2.2 (by simp; omega) (by rw [w64 (by omega)]; simp; omega) hd hw
theorem es_round (hc : check_0 ce cw cr cf = 0) (a0 a1 : Nat) (l : List Int) (lb : List Bool) (c d : Nat) (hl : l.length ≤ 80) (hm : l.length ≤ lb.length) (k : Nat) (hk : k < l.length) :
    RoundTo Try.prog callE 0 100 (loopN Try.prog 6 0) 1666 1666 eKeys .normal (esF ce cw cr cf l lb c d k) (esH a0 a1 ce cw cr cf l lb k) (esF ce cw cr cf l lb c d (k + 1)) (esH a0 a1 ce cw cr cf l lb (k + 1)) 1666 :=
  es_round1 hc a0 a1 (xsE l) (ysE lb) l.length c lb.length d hl hm k hk (l.getD k 0) (lb.getD k false) (by simp [xsE, hk]) (by simp [ysE, show k < lb.length by omega]) (esAt ce cw cr cf l lb k) (esAt_inv ce cw cr cf l lb k)
theorem es_loop (hc : check_0 ce cw cr cf = 0) (a0 a1 : Nat) (l : List Int) (lb : List Bool) (c d : Nat) (hl : l.length ≤ 80) (hm : l.length ≤ lb.length) :
    LoopOK Try.prog (loopN Try.prog 6 0) (esF ce cw cr cf l lb c d 0) (esH a0 a1 ce cw cr cf l lb 0) 1666 ⟨.exit 0, esF ce cw cr cf l lb c d l.length, esH a0 a1 ce cw cr cf l lb l.length, 1922, []⟩ :=
  loop_ind (P := Try.prog) (call := callE) callE_spec mixed (LF := 0) (F := 100) (x := loopN Try.prog 6 0) l.length (esF ce cw cr cf l lb c d) (esH a0 a1 ce cw cr cf l lb) (nx0 := 1666) (nxb := 1666) (keys := eKeys) (keysE := eKeys)
    (Nat.le_refl _) (by show 1666 ≤ 1922; decide) rfl (fun k hk => es_round hc a0 a1 l lb c d hl hm k hk) roundL (by intro h; cases h)
end Go.Proofs.Ytbmgigbcilgieaa
