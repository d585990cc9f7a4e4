/- Eject: contracts over a list that came in; printed by a program of mine. -/
import Derived.Test.YtpdfpnfnlikjfaaEQ
import Derived.Test.YtpdfpnfnlikjfaaX25
import Derived.KernelRfl
namespace Go.Proofs.Ytpdfpnfnlikjfaa
open Go.RowKit
set_option linter.unusedSimpArgs false
set_option linter.unusedVariables false
set_option linter.unusedSectionVars false
set_option maxRecDepth 100000
variable [Inhabited RawG]
noncomputable def callE : CallF := aCall Try.prog ΨS3 10 100 6
theorem callE_spec : CallSpec Try.prog callE := call_spec ΨS3_spec mixed 6
theorem ej3 (t : EjT) : (ejF t).length = 3 := rfl
theorem ej_one (t : EjT) : ∀ u ∈ ejF t, flat0 u = true ∧ u.oneCell' = true := by
  intro u hu
  simp at hu
  rcases hu with rfl | rfl | rfl <;> exact ⟨rfl, rfl⟩
theorem set_getD {l : List EjT} {k : Nat} (h : k < l.length) : l.set k (l.getD k default) = l := by
  rw [List.getD_eq_getElem?_getD, List.getElem?_eq_getElem h]; simp
theorem ejCount_le (l : List EjT) (now : Int) : ejCount l now ≤ l.length := List.length_filter_le _ _
abbrev CE (es : List EjT) : Prop := rg.cells 0 = es.flatMap ejF
theorem at_e {es : List EjT} {j c : Nat} (h : CE es) (hj : j < es.length) (hc : c < 3) : (rg.cells 0)[0 + j * 3 + c]? = (ejF (es.getD j default))[c]? := by rw [h]; exact flatMap_cell ej3 default hj hc
theorem at_e0 {es : List EjT} {j : Nat} (h : CE es) (hj : j < es.length) : (rg.cells 0)[0 + j * 3]? = (ejF (es.getD j default))[0]? := at_e (c := 0) h hj (by decide)
theorem ce_len {es : List EjT} (h : CE es) : (rg.cells 0).length = es.length * 3 := by rw [h, flatMap_len ej3]
/-- Is the backend out? -/
def outB (es : List EjT) (i now : Int) : Bool := decide (i ≥ 0) && (decide (i < (es.length : Int)) && decide ((es.getD i.toNat default).2.2 > now))
theorem out_o {es : List EjT} {i now : Int} (hA : CE es) : CallOK Try.prog 14 [.slice (some ⟨0, 0, some 2⟩) es.length 0, .int .i64 i, .int .i64 now] [] 0 (.bool (outB es i now)) [] := by
  rcases Bool.eq_false_or_eq_true (decide (i ≥ 0)) with h0 | h0
  · rcases Bool.eq_false_or_eq_true (decide (i < (↑es.length : Int))) with h1 | h1
    · have hv : (.bool (outB es i now)) = Value.bool (decide ((es.getD i.toNat default).snd.snd > now)) := by simp [outB, h0, h1]
      rw [hv]
      exact callOK_keep (call := callE) [] callE_spec mixed (ω := [(192, OV.soft (Value.bool true)), (576, OV.soft (Value.bool true)), (768, OV.idx i.toNat), (896, OV.ld (Value.int IntKind.i64 (es.getD i.toNat default).snd.snd))]) (LF := 10) (F := 100) (ps := [decide (i ≥ 0) = true, decide (i < (↑es.length : Int)) = true, 0 ≤ i ∧ i < (↑es.length : Int) ∧ i.toNat = i.toNat, (rg.cells 0)[0 + i.toNat * 3 + 2]? = some (Value.int IntKind.i64 (es.getD i.toNat default).snd.snd)]) (by kernel_rfl) (ob_cons h0 (ob_cons h1 (ob_cons ⟨by simp at h0; omega, by simp at h1; omega, rfl⟩ (ob_cons (at_e hA (by simp at h0 h1; omega) (by decide)) ob_nil))))
    · have hv : (.bool (outB es i now)) = Value.bool false := by simp [outB, h0, h1]
      rw [hv]
      exact callOK_keep (call := callE) [] callE_spec mixed (ω := [(192, OV.soft (Value.bool true)), (576, OV.soft (Value.bool false))]) (LF := 10) (F := 100) (ps := [decide (i ≥ 0) = true, decide (i < (↑es.length : Int)) = false]) (by kernel_rfl) (ob_cons h0 (ob_cons h1 ob_nil))
  · have hv : (.bool (outB es i now)) = Value.bool false := by simp [outB, h0]
    rw [hv]
    exact callOK_keep (call := callE) [] callE_spec mixed (ω := [(192, OV.soft (Value.bool false))]) (LF := 10) (F := 100) (ps := [decide (i ≥ 0) = false]) (by kernel_rfl) (ob_cons h0 ob_nil)

theorem rout_o {es : List EjT} {i now : Int} (hA : CE es) : CallOK Try.prog 18 [.slice (some ⟨0, 0, some 2⟩) es.length 0, .int .i64 i, .int .i64 now] [] 0 (.bool (outB es i now)) [] := by
  rcases Bool.eq_false_or_eq_true (decide (i ≥ 0)) with h0 | h0
  · rcases Bool.eq_false_or_eq_true (decide (i < (↑es.length : Int))) with h1 | h1
    · have hv : (.bool (outB es i now)) = Value.bool (decide ((es.getD i.toNat default).snd.snd > now)) := by simp [outB, h0, h1]
      rw [hv]
      exact callOK_keep (call := callE) [] callE_spec mixed (ω := [(192, OV.soft (Value.bool true)), (576, OV.soft (Value.bool true)), (768, OV.idx i.toNat), (896, OV.ld (Value.int IntKind.i64 (es.getD i.toNat default).snd.snd))]) (LF := 10) (F := 100) (ps := [decide (i ≥ 0) = true, decide (i < (↑es.length : Int)) = true, 0 ≤ i ∧ i < (↑es.length : Int) ∧ i.toNat = i.toNat, (rg.cells 0)[0 + i.toNat * 3 + 2]? = some (Value.int IntKind.i64 (es.getD i.toNat default).snd.snd)]) (by kernel_rfl) (ob_cons h0 (ob_cons h1 (ob_cons ⟨by simp at h0; omega, by simp at h1; omega, rfl⟩ (ob_cons (at_e hA (by simp at h0 h1; omega) (by decide)) ob_nil))))
    · have hv : (.bool (outB es i now)) = Value.bool false := by simp [outB, h0, h1]
      rw [hv]
      exact callOK_keep (call := callE) [] callE_spec mixed (ω := [(192, OV.soft (Value.bool true)), (576, OV.soft (Value.bool false))]) (LF := 10) (F := 100) (ps := [decide (i ≥ 0) = true, decide (i < (↑es.length : Int)) = false]) (by kernel_rfl) (ob_cons h0 (ob_cons h1 ob_nil))
  · have hv : (.bool (outB es i now)) = Value.bool false := by simp [outB, h0]
    rw [hv]
    exact callOK_keep (call := callE) [] callE_spec mixed (ω := [(192, OV.soft (Value.bool false))]) (LF := 10) (F := 100) (ps := [decide (i ≥ 0) = false]) (by kernel_rfl) (ob_cons h0 ob_nil)

theorem outB_nat {es : List EjT} {x : Nat} {now : Int} (hx : x < es.length) : outB es (x : Int) now = decide ((es.getD x default).2.2 > now) := by
  unfold outB
  rw [decide_eq_true (show (x : Int) ≥ 0 by omega), decide_eq_true (show (x : Int) < (es.length : Int) by omega)]
  simp
theorem rout_n {es : List EjT} {x lo : Nat} {now : Int} (hA : CE es) (hx : x < es.length) : CallOK Try.prog 18 [.slice (some ⟨0, 0, some 2⟩) es.length 0, .int .i64 (x : Int), .int .i64 now] [] 0 (.bool (decide ((es.getD x default).2.2 > now))) [] := by
  rw [← outB_nat hx]; exact rout_o hA
theorem ej_hold {es : List EjT} (hA : CE es) {D : Nat → Prop} {ρ : Nat → Pl} {H : HF} {w : World} (hw : WR (szP Try.prog) D ρ H w) {v : Value} (hv : VR D ρ (.slice (some ⟨0, 0, some 2⟩) es.length 0) v) : EjHold w v es ∧ ∀ k, blkOf v k → k < w.heap.size ∧ ∀ Hr, (∀ b k', Hr b = some k' → H b = some k') → ¬ Img ρ Hr k := by
  obtain ⟨hl, hu, _⟩ := hv.opq_inv
  subst hu
  by_cases hz : 0 < es.length
  · obtain ⟨q, hq, hs⟩ := hw.raw.addr (i := 0) (by rw [hl]; exact hz)
    obtain ⟨h1, h2, h3⟩ := hw.raw.at' 0
    obtain ⟨q', e, _, cs, el, fz, g1, g2⟩ := h3 (h2 (by rw [hl]; exact hz))
    rw [hq] at e
    cases e
    obtain ⟨qb, qo, qs⟩ := q
    simp only at hs
    subst hs
    rw [hq]
    refine ⟨.inl ⟨qb, qo, rg.cap 0, rfl, by rw [← hl]; exact h1, hz, cs, el, fz, g1, fun i u hu => ?_⟩, ?_⟩
    · rw [← hA] at hu
      obtain ⟨u', k1, k2⟩ := g2 i u hu
      rw [k1, k2.flat0_eq ?_]
      rw [hA] at hu
      obtain ⟨t, _, ht⟩ := List.mem_flatMap.1 (List.mem_of_getElem? hu)
      exact ej_flat t u ht
    · rintro k ⟨b, o, len, c, e, _, rfl⟩
      cases e
      refine ⟨(Array.getElem?_eq_some_iff.1 g1).1, fun Hr hsub => ?_⟩
      rintro ⟨b, l, hb, hm, he⟩
      exact hw.raw.far 0 _ (h2 (by rw [hl]; exact hz)) hq ⟨b, l, hsub b l hb, hm, he⟩
  · have : es = [] := List.eq_nil_of_length_eq_zero (by omega)
    subst this
    refine ⟨.inr ⟨rfl, _, _, rfl⟩, ?_⟩
    rintro k ⟨b, o, len, c, e, h0, rfl⟩
    simp only [Value.slice.injEq] at e
    rw [← e.2.1] at h0
    exact absurd h0 (by decide)
theorem count_o {es : List EjT} {now : Int} {H : Heap} {lo : Nat} (hA : CE es) (h80 : es.length ≤ 80) : CallOK Try.prog 13 [.slice (some ⟨0, 0, some 2⟩) es.length 0, .int .i64 now] H lo (.int .i64 (ejCount es now : Nat)) H := by
  intro D ρ w args hlt hsz hav hw
  have h0 := hav 0
  have h1 := hav 1
  simp only [List.getD_cons_zero, List.getD_cons_succ] at h0 h1
  have h4 := h1.int_inv
  have hu := (h0.opq_inv).2.1
  have ha : args = #[.slice (rg.adr 0) es.length (rg.cap 0), .int .i64 now] := by
    apply Array.ext (by simpa using hsz)
    intro i hi1 hi2
    simp at hi2
    have hs : args.size = 2 := by simpa using hsz
    rcases (show i = 0 ∨ i = 1 by omega) with rfl | rfl
    · simpa [Array.getD, hs] using hu
    · simpa [Array.getD, hs] using h4
  rw [ha]
  rw [hu] at h0
  refine (count_calls _ es now (by omega) w (ej_hold hA hw h0).1).mono ?_
  rintro e w1 ⟨rfl, hb⟩
  exact ⟨_, rfl, D, ρ, t_of_below hw hb, .scal _ rfl, fun b hb => .inl hb⟩
/-- How many of the first are out. -/
def outC (es : List EjT) (now : Int) (x : Nat) : Nat := ((es.take x).filter fun t => decide (t.2.2 > now)).length
theorem outC_all (es : List EjT) (now : Int) : outC es now es.length = ejCount es now := by unfold outC ejCount; rw [List.take_length]
theorem outC_step {es : List EjT} {now : Int} {x : Nat} (hx : x < es.length) : outC es now (x + 1) = outC es now x + (if decide ((es.getD x default).2.2 > now) = true then 1 else 0) := by
  unfold outC
  have e : es.getD x default = es[x] := by rw [List.getD_eq_getElem?_getD, List.getElem?_eq_getElem hx]; rfl
  rw [e, List.take_succ_eq_append_getElem hx, List.filter_append, List.length_append]
  congr 1
  by_cases h : es[x].2.2 > now <;> simp [h]
theorem outC_le (es : List EjT) (now : Int) (x : Nat) : outC es now x ≤ x := by
  unfold outC
  exact Nat.le_trans (List.length_filter_le _ _) (by simp; omega)
theorem rc_false {es : List EjT} {now : Int} {x n : Nat} (hA : CE es) (h80 : es.length ≤ 80) (hx : x < es.length) (hn : n ≤ x) (he : decide ((es.getD x default).2.2 > now) = false) : RoundTo Try.prog callE 10 100 (loopN Try.prog 22 0) 192 193 [0, 1, 5, 6] .normal (mkF [(0, .slice (some ⟨0, 0, some 2⟩) es.length 0), (1, .int .i64 now), (5, .int .i64 ((n : Nat) : Int)), (6, .int .i64 ((x : Nat) : Int))] 20 0) [] (mkF [(0, Value.slice (some { block := 0, off := 0, spot := some 2 }) es.length 0), (1, Value.int IntKind.i64 now), (5, Value.int IntKind.i64 (↑n : Int)), (6, Value.int IntKind.i64 (↑(x + 1) : Int))] 20 0) [] 193 := by
  have k0 : (decide ((↑x : Int) < (↑es.length : Int))) = true := (decide_eq_true (by omega))
  exact roundTo_of [(385, OV.soft (Value.bool true)), (641, OV.call (Value.bool false) []), (769, OV.soft (Value.int IntKind.i64 (↑(x + 1) : Int)))] [] (ps := [decide ((↑x : Int) < (↑es.length : Int)) = true, CallOK Try.prog 18 [Value.slice (some { block := 0, off := 0, spot := some 2 }) es.length 0, Value.int IntKind.i64 (↑x : Int), Value.int IntKind.i64 now] [] 0 (Value.bool false) [], IntKind.i64.wrap ((↑x : Int) + 1) = (↑(x + 1) : Int)]) (by kernel_rfl) (ob_cons k0 (ob_cons (he ▸ rout_n (lo := 0) hA hx) (ob_cons (up1 (by omega)) ob_nil))) (by decide)

theorem rc_true {es : List EjT} {now : Int} {x n : Nat} (hA : CE es) (h80 : es.length ≤ 80) (hx : x < es.length) (hn : n ≤ x) (he : decide ((es.getD x default).2.2 > now) = true) : RoundTo Try.prog callE 10 100 (loopN Try.prog 22 0) 192 193 [0, 1, 5, 6] .normal (mkF [(0, .slice (some ⟨0, 0, some 2⟩) es.length 0), (1, .int .i64 now), (5, .int .i64 ((n : Nat) : Int)), (6, .int .i64 ((x : Nat) : Int))] 20 0) [] (mkF [(0, Value.slice (some { block := 0, off := 0, spot := some 2 }) es.length 0), (1, Value.int IntKind.i64 now), (5, Value.int IntKind.i64 (↑(n + 1) : Int)), (6, Value.int IntKind.i64 (↑(x + 1) : Int))] 20 0) [] 193 := by
  have k0 : (decide ((↑x : Int) < (↑es.length : Int))) = true := (decide_eq_true (by omega))
  exact roundTo_of [(385, OV.soft (Value.bool true)), (641, OV.call (Value.bool true) []), (769, OV.soft (Value.int IntKind.i64 (↑(n + 1) : Int))), (961, OV.soft (Value.int IntKind.i64 (↑(x + 1) : Int)))] [] (ps := [decide ((↑x : Int) < (↑es.length : Int)) = true, CallOK Try.prog 18 [Value.slice (some { block := 0, off := 0, spot := some 2 }) es.length 0, Value.int IntKind.i64 (↑x : Int), Value.int IntKind.i64 now] [] 0 (Value.bool true) [], IntKind.i64.wrap ((↑n : Int) + 1) = (↑(n + 1) : Int), IntKind.i64.wrap ((↑x : Int) + 1) = (↑(x + 1) : Int)]) (by kernel_rfl) (ob_cons k0 (ob_cons (he ▸ rout_n (lo := 0) hA hx) (ob_cons (up1 (by omega)) (ob_cons (up1 (by omega)) ob_nil)))) (by decide)

theorem rc_end {es : List EjT} {now : Int} {x n : Nat} (hx : x = es.length) : RoundTo Try.prog callE 10 100 (loopN Try.prog 22 0) 192 193 [5] (.exit 0) (mkF [(0, .slice (some ⟨0, 0, some 2⟩) es.length 0), (1, .int .i64 now), (5, .int .i64 ((n : Nat) : Int)), (6, .int .i64 ((x : Nat) : Int))] 20 0) [] (mkF [(5, Value.int IntKind.i64 (↑n : Int))] 20 0) [] 256 := by
  have k0 : (decide ((↑x : Int) < (↑es.length : Int))) = false := (decide_eq_false (by omega))
  exact roundTo_of [(385, OV.soft (Value.bool false))] [] (ps := [decide ((↑x : Int) < (↑es.length : Int)) = false]) (by kernel_rfl) (ob_cons k0 ob_nil) (by decide)

theorem rc_loop {es : List EjT} {now : Int} (hA : CE es) (h80 : es.length ≤ 80) : LoopOK Try.prog (loopN Try.prog 22 0) (mkF [(0, .slice (some ⟨0, 0, some 2⟩) es.length 0), (1, .int .i64 now), (5, .int .i64 ((0 : Nat) : Int)), (6, .int .i64 ((0 : Nat) : Int))] 20 0) [] 192 ⟨.exit 0, mkF [(5, .int .i64 ((ejCount es now : Nat) : Int))] 20 0, [], 256, []⟩ := by
  refine loop_ind callE_spec mixed (LF := 10) (F := 100) (nxb := 193) (keys := [0, 1, 5, 6]) (keysE := [5]) es.length (fun x => mkF [(0, .slice (some ⟨0, 0, some 2⟩) es.length 0), (1, .int .i64 now), (5, .int .i64 ((outC es now x : Nat) : Int)), (6, .int .i64 ((x : Nat) : Int))] 20 0) (fun _ => []) (by decide) (by simp) rfl ?_ ?_ (fun h => by cases h)
  · intro y hy
    have hs := outC_step (now := now) hy
    rcases Bool.eq_false_or_eq_true (decide ((es.getD y default).2.2 > now)) with he | he
    · rw [he] at hs
      rw [hs]
      exact rc_true hA h80 hy (outC_le es now y) he
    · rw [he] at hs
      rw [hs]
      exact rc_false hA h80 hy (outC_le es now y) he
  · rw [← outC_all]
    exact rc_end rfl
theorem rcount_o {es : List EjT} {now : Int} (hA : CE es) (h80 : es.length ≤ 80) : CallOK Try.prog 22 [.slice (some ⟨0, 0, some 2⟩) es.length 0, .int .i64 now] [] 0 (.int .i64 ((ejCount es now : Nat) : Int)) [] := by
  exact callOK_keep (call := callE) [] callE_spec mixed (ω := [(193, OV.loop [0, 1, 5, 6] (AX.exit 0) (mkF [(5, Value.int IntKind.i64 (↑(ejCount es now) : Int))] 20 0) [] 256)]) (LF := 10) (F := 100) (ps := [LoopOK Try.prog (loopN Try.prog 22 0) (mkF [(0, .slice (some ⟨0, 0, some 2⟩) es.length 0), (1, .int .i64 now), (5, .int .i64 ((0 : Nat) : Int)), (6, .int .i64 ((0 : Nat) : Int))] 20 0) [] 192 ⟨.exit 0, mkF [(5, .int .i64 ((ejCount es now : Nat) : Int))] 20 0, [], 256, []⟩]) (by kernel_rfl) (ob_cons (rc_loop hA h80) ob_nil)

theorem clone_c {es : List EjT} (hA : CE es) : [] ++ List.take (es.length * 3) (rg.cells 0) = es.flatMap ejF := by
  rw [List.nil_append, List.take_of_length_le (by rw [ce_len hA]; omega), hA]
theorem clone_o {es : List EjT} (hA : CE es) (hp : 0 < es.length) (h80 : es.length ≤ 80) : CallOK Try.prog 26 [.slice (some ⟨0, 0, some 2⟩) es.length 0] [] 0 (.slice (some ⟨0, 0, none⟩) es.length es.length) [(0, ⟨27, es.flatMap ejF, 3⟩)] := by
  have hc := callOK_ren (v2 := Value.slice (some { block := 0, off := 0 }) (0 + es.length) (0 + es.length)) (H2 := [(0, ⟨27, List.flatMap ejF es, 3⟩)]) [320] (callOK_keep (call := callE) [320] callE_spec mixed (P := Try.prog) (g := 26) (av := [.slice (some ⟨0, 0, some 2⟩) es.length 0]) (Hs := []) (lo := 0) (ω := [(128, OV.hard (Value.bool false)), (320, OV.app 4 (some (List.flatMap ejF es)))]) (LF := 10) (F := 100) (v := Value.slice (some { block := 320, off := 0 }) (0 + es.length) (0 + es.length)) (H1 := [(320, ⟨27, List.flatMap ejF es, 3⟩)]) (ps := [0 < es.length, es.length ≠ 0 ∧ ¬0 + es.length ≤ 0 ∧ (0 + es.length) * 24 ≤ 140737488355328 ∧ 0 + es.length ≤ 9223372036854775807 ∧ 0 ≤ 0 ∧ FlatL ([] ++ List.take (es.length * 3) (rg.cells 0)), [] ++ List.take (es.length * 3) (rg.cells 0) = List.flatMap ejF es, es.length * 3 ≤ (rg.cells 0).length ∧ (es.length = 0 ∨ 0 < (rg.cells 0).length)]) (by kernel_rfl) (ob_cons hp (ob_cons ⟨by omega, by omega, by omega, by omega, by omega, by rw [clone_c hA]; exact flatL_rows ej_one es⟩ (ob_cons (clone_c hA) (ob_cons ⟨by rw [ce_len hA]; omega, .inr (by rw [ce_len hA]; omega)⟩ ob_nil))))) rfl (by kernel_rfl)
  rw [Nat.zero_add] at hc; exact hc

end Go.Proofs.Ytpdfpnfnlikjfaa
