/- Weigh: contracts of places, weights for slices that came in; printed by a program of mine. -/
import Derived.Test.YtbjfckcgpbejkaaC2
import Derived.KernelRfl
namespace Go.Proofs.Ytbjfckcgpbejkaa
set_option linter.unusedSectionVars false
open Go.RowKit
set_option linter.unusedSimpArgs false
set_option linter.unusedVariables false
set_option maxRecDepth 100000
variable [Inhabited RawG]
abbrev CO (os : List Int) : Prop := rg.cells 0 = os.map fun e : Int => Value.int .i64 e
abbrev CW (ws : List Nat) : Prop := rg.cells 1 = ws.map fun e : Nat => Value.float .f64 e
abbrev CN (ns : List NS) : Prop := rg.cells 2 = ns.map fun t : NS => Value.string t.1
abbrev CL (ls : List Int) : Prop := rg.cells 3 = ls.map fun e : Int => Value.int .i64 e
theorem at_o {os : List Int} {x : Nat} (h : CO os) (hx : x < os.length) : (rg.cells 0)[0 + x * 1]? = some (Value.int .i64 (os.getD x 0)) := by rw [h]; exact map_at hx
theorem at_w {ws : List Nat} {x : Nat} (h : CW ws) (hx : x < ws.length) : (rg.cells 1)[0 + x * 1]? = some (Value.float .f64 (ws.getD x 0)) := by rw [h]; exact map_at hx
theorem at_n {ns : List NS} {x : Nat} (h : CN ns) (hx : x < ns.length) : (rg.cells 2)[0 + x * 1]? = some (Value.string (ns.getD x default).1) := by rw [h]; exact map_at hx
theorem at_l {ls : List Int} {x : Nat} (h : CL ls) (hx : x < ls.length) : (rg.cells 3)[0 + x * 1]? = some (Value.int .i64 (ls.getD x 0)) := by rw [h]; exact map_at hx
theorem prev_i {x n : Nat} (h0 : (x : Int) > 0) (hx : x < n) (h80 : n ≤ 1000) : 0 ≤ IntKind.i64.wrap ((x : Int) - 1) ∧ IntKind.i64.wrap ((x : Int) - 1) < (n : Int) ∧ (IntKind.i64.wrap ((x : Int) - 1)).toNat = (IntKind.i64.wrap ((x : Int) - 1)).toNat := by rw [w64 (by omega)]; omega
theorem at_lp {ls : List Int} {x : Nat} (h : CL ls) (h0 : (x : Int) > 0) (hx : x < ls.length) (h80 : ls.length ≤ 1000) : (rg.cells 3)[0 + (IntKind.i64.wrap ((x : Int) - 1)).toNat * 1]? = some (Value.int .i64 (ls.getD (IntKind.i64.wrap ((x : Int) - 1)).toNat 0)) := by rw [h]; exact map_at (by rw [prev_nat (by omega) (by omega)]; omega)
def badP (ls : List Int) (n x : Nat) : Bool := decide (ls.getD x 0 < 0) || (decide (ls.getD x 0 ≥ (n : Int)) || (decide (0 < x) && !decide (ls.getD (x - 1) 0 < ls.getD x 0)))
def plE (ls : List Int) (n : Nat) : Int := bif (List.range ls.length).any (badP ls n) then 2 else 0
theorem badP_no {ls : List Int} {n x : Nat} (h : badP ls n x = false) : decide (ls.getD x 0 < 0) = false ∧ decide (ls.getD x 0 ≥ (n : Int)) = false ∧ (0 < x → ls.getD (x - 1) 0 < ls.getD x 0) := by
  unfold badP at h
  rw [Bool.or_eq_false_iff, Bool.or_eq_false_iff] at h
  refine ⟨h.1, h.2.1, fun h0 => ?_⟩
  have h3 := h.2.2
  rw [decide_eq_true h0, Bool.true_and] at h3
  simpa using h3
theorem plE_asc {ls : List Int} {n : Nat} (h : plE ls n = 0) : Asc ls n := by
  have hb : ∀ y, y < ls.length → badP ls n y = false := by
    intro y hy
    rcases Bool.eq_false_or_eq_true (badP ls n y) with hp | hp
    · unfold plE at h
      rw [range_any hy hp] at h
      cases h
    · exact hp
  refine ⟨fun x hx => ?_, fun x hx => ?_⟩
  · obtain ⟨a1, a2, _⟩ := badP_no (hb x hx)
    have := of_decide_eq_false a1
    have := of_decide_eq_false a2
    omega
  · obtain ⟨_, _, a3⟩ := badP_no (hb (x + 1) hx)
    have := a3 (by omega)
    simpa using this
def wtE (ws : List Nat) : Int := bif ws.any (fun w => checkW w != 0) then 230 else 0
theorem checkW_230 {w : Nat} (h : (checkW w != 0) = true) : checkW w = 230 := by
  unfold checkW at h ⊢
  cases hv : validW w
  · rfl
  · rw [hv] at h; cases h
theorem wtE_valid {ws : List Nat} (h : wtE ws = 0) {x : Nat} (hx : x < ws.length) : validW (ws.getD x 0) = true := by
  rcases Bool.eq_false_or_eq_true (validW (ws.getD x 0)) with hv | hv
  · exact hv
  · unfold wtE at h
    rw [any_true (p := fun w => checkW w != 0) (d := 0) hx (by unfold checkW; rw [hv]; rfl)] at h
    cases h
theorem pq_go {ls : List Int} {n x : Nat} (hl : CL ls) (h80 : ls.length ≤ 1000) (hx : x < ls.length) (h1 : decide (ls.getD x 0 < 0) = false) (h2 : decide (ls.getD x 0 ≥ (n : Int)) = false) (hq3 : 0 < x → ls.getD (x - 1) 0 < ls.getD x 0) : RoundTo Try.prog callW 10 100 (loopN Try.prog 30 0) 256 257 [0, 1, 7, 8, 9] .normal (mkF [(0, .slice (some ⟨3, 0, some 2⟩) ls.length 0), (1, .int .i64 (n : Int)), (7, .slice (some ⟨3, 0, some 2⟩) ls.length 0), (8, .int .i64 (ls.length : Int)), (9, .int .i64 (x : Int))] 35 0) [] (mkF [(0, Value.slice (some { block := 3, off := 0, spot := some 2 }) ls.length 0), (1, Value.int IntKind.i64 (↑n : Int)), (7, Value.slice (some { block := 3, off := 0, spot := some 2 }) ls.length 0), (8, Value.int IntKind.i64 (↑ls.length : Int)), (9, Value.int IntKind.i64 (↑(x + 1) : Int))] 35 0) [] 257 := by
  have k0 : (decide ((↑x : Int) < (↑ls.length : Int))) = true := (decide_eq_true (by omega))
  have k1 : (decide (ls.getD x 0 < 0)) = false := h1
  have k2 : (decide (ls.getD x 0 ≥ (↑n : Int))) = false := h2
  rcases Bool.eq_false_or_eq_true (decide ((↑x : Int) > 0)) with h3 | h3
  · have k4 : (decide (ls.getD (IntKind.i64.wrap ((↑x : Int) - 1)).toNat 0 ≥ ls.getD x 0)) = false := (decide_eq_false (by have h0 : (x : Int) > 0 := of_decide_eq_true (by assumption); rw [prev_nat (by omega) (by omega)]; have := hq3 (by omega); omega))
    exact roundTo_of [(257, OV.soft (Value.bool true)), (385, OV.idx x), (449, OV.ld (Value.int IntKind.i64 (ls.getD x 0))), (769, OV.soft (Value.bool false)), (1089, OV.soft (Value.bool false)), (1281, OV.soft (Value.bool true)), (1537, OV.idx (IntKind.i64.wrap ((↑x : Int) - 1)).toNat), (1601, OV.ld (Value.int IntKind.i64 (ls.getD (IntKind.i64.wrap ((↑x : Int) - 1)).toNat 0))), (1857, OV.soft (Value.bool false)), (1921, OV.soft (Value.int IntKind.i64 (↑(x + 1) : Int)))] [] (ps := [decide ((↑x : Int) < (↑ls.length : Int)) = true, 0 ≤ (↑x : Int) ∧ (↑x : Int) < (↑ls.length : Int) ∧ (↑x : Int).toNat = x, (rg.cells 3)[0 + x * 1]? = some (Value.int IntKind.i64 (ls.getD x 0)), decide (ls.getD x 0 < 0) = false, decide (ls.getD x 0 ≥ (↑n : Int)) = false, decide ((↑x : Int) > 0) = true, 0 ≤ IntKind.i64.wrap ((↑x : Int) - 1) ∧ IntKind.i64.wrap ((↑x : Int) - 1) < (↑ls.length : Int) ∧ (IntKind.i64.wrap ((↑x : Int) - 1)).toNat = (IntKind.i64.wrap ((↑x : Int) - 1)).toNat, (rg.cells 3)[0 + (IntKind.i64.wrap ((↑x : Int) - 1)).toNat * 1]? = some (Value.int IntKind.i64 (ls.getD (IntKind.i64.wrap ((↑x : Int) - 1)).toNat 0)), decide (ls.getD (IntKind.i64.wrap ((↑x : Int) - 1)).toNat 0 ≥ ls.getD x 0) = false, IntKind.i64.wrap ((↑x : Int) + 1) = (↑(x + 1) : Int)]) (by kernel_rfl) (ob_cons k0 (ob_cons (by omega) (ob_cons (at_l hl hx) (ob_cons k1 (ob_cons k2 (ob_cons h3 (ob_cons (prev_i (of_decide_eq_true (by assumption)) hx h80) (ob_cons (at_lp hl (of_decide_eq_true (by assumption)) hx h80) (ob_cons k4 (ob_cons (up1 (by omega)) ob_nil)))))))))) (by decide)
  · exact roundTo_of [(257, OV.soft (Value.bool true)), (385, OV.idx x), (449, OV.ld (Value.int IntKind.i64 (ls.getD x 0))), (769, OV.soft (Value.bool false)), (1089, OV.soft (Value.bool false)), (1281, OV.soft (Value.bool false)), (1921, OV.soft (Value.int IntKind.i64 (↑(x + 1) : Int)))] [] (ps := [decide ((↑x : Int) < (↑ls.length : Int)) = true, 0 ≤ (↑x : Int) ∧ (↑x : Int) < (↑ls.length : Int) ∧ (↑x : Int).toNat = x, (rg.cells 3)[0 + x * 1]? = some (Value.int IntKind.i64 (ls.getD x 0)), decide (ls.getD x 0 < 0) = false, decide (ls.getD x 0 ≥ (↑n : Int)) = false, decide ((↑x : Int) > 0) = false, IntKind.i64.wrap ((↑x : Int) + 1) = (↑(x + 1) : Int)]) (by kernel_rfl) (ob_cons k0 (ob_cons (by omega) (ob_cons (at_l hl hx) (ob_cons k1 (ob_cons k2 (ob_cons h3 (ob_cons (up1 (by omega)) ob_nil))))))) (by decide)

theorem pq_1 {ls : List Int} {n x : Nat} (hl : CL ls) (h80 : ls.length ≤ 1000) (hx : x < ls.length) (h1 : decide (ls.getD x 0 < 0) = true) : RoundTo Try.prog callW 10 100 (loopN Try.prog 30 0) 256 257 [0, 4] .ret (mkF [(0, .slice (some ⟨3, 0, some 2⟩) ls.length 0), (1, .int .i64 (n : Int)), (7, .slice (some ⟨3, 0, some 2⟩) ls.length 0), (8, .int .i64 (ls.length : Int)), (9, .int .i64 (x : Int))] 35 0) [] (mkF [(0, Value.slice (some { block := 3, off := 0, spot := some 2 }) ls.length 0), (4, Value.int IntKind.i64 2)] 35 0) [] 321 := by
  have k0 : (decide ((↑x : Int) < (↑ls.length : Int))) = true := (decide_eq_true (by omega))
  have k1 : (decide (ls.getD x 0 < 0)) = true := h1
  exact roundTo_of [(257, OV.soft (Value.bool true)), (385, OV.idx x), (449, OV.ld (Value.int IntKind.i64 (ls.getD x 0))), (769, OV.soft (Value.bool true))] [] (ps := [decide ((↑x : Int) < (↑ls.length : Int)) = true, 0 ≤ (↑x : Int) ∧ (↑x : Int) < (↑ls.length : Int) ∧ (↑x : Int).toNat = x, (rg.cells 3)[0 + x * 1]? = some (Value.int IntKind.i64 (ls.getD x 0)), decide (ls.getD x 0 < 0) = true]) (by kernel_rfl) (ob_cons k0 (ob_cons (by omega) (ob_cons (at_l hl hx) (ob_cons k1 ob_nil)))) (by decide)

theorem pq_2 {ls : List Int} {n x : Nat} (hl : CL ls) (h80 : ls.length ≤ 1000) (hx : x < ls.length) (h1 : decide (ls.getD x 0 < 0) = false) (h2 : decide (ls.getD x 0 ≥ (n : Int)) = true) : RoundTo Try.prog callW 10 100 (loopN Try.prog 30 0) 256 257 [0, 4] .ret (mkF [(0, .slice (some ⟨3, 0, some 2⟩) ls.length 0), (1, .int .i64 (n : Int)), (7, .slice (some ⟨3, 0, some 2⟩) ls.length 0), (8, .int .i64 (ls.length : Int)), (9, .int .i64 (x : Int))] 35 0) [] (mkF [(0, Value.slice (some { block := 3, off := 0, spot := some 2 }) ls.length 0), (4, Value.int IntKind.i64 2)] 35 0) [] 321 := by
  have k0 : (decide ((↑x : Int) < (↑ls.length : Int))) = true := (decide_eq_true (by omega))
  have k1 : (decide (ls.getD x 0 < 0)) = false := h1
  have k2 : (decide (ls.getD x 0 ≥ (↑n : Int))) = true := h2
  exact roundTo_of [(257, OV.soft (Value.bool true)), (385, OV.idx x), (449, OV.ld (Value.int IntKind.i64 (ls.getD x 0))), (769, OV.soft (Value.bool false)), (1089, OV.soft (Value.bool true))] [] (ps := [decide ((↑x : Int) < (↑ls.length : Int)) = true, 0 ≤ (↑x : Int) ∧ (↑x : Int) < (↑ls.length : Int) ∧ (↑x : Int).toNat = x, (rg.cells 3)[0 + x * 1]? = some (Value.int IntKind.i64 (ls.getD x 0)), decide (ls.getD x 0 < 0) = false, decide (ls.getD x 0 ≥ (↑n : Int)) = true]) (by kernel_rfl) (ob_cons k0 (ob_cons (by omega) (ob_cons (at_l hl hx) (ob_cons k1 (ob_cons k2 ob_nil))))) (by decide)

theorem pq_3 {ls : List Int} {n x : Nat} (hl : CL ls) (h80 : ls.length ≤ 1000) (hx : x < ls.length) (h1 : decide (ls.getD x 0 < 0) = false) (h2 : decide (ls.getD x 0 ≥ (n : Int)) = false) (h0 : 0 < x) (h3 : ¬ ls.getD (x - 1) 0 < ls.getD x 0) : RoundTo Try.prog callW 10 100 (loopN Try.prog 30 0) 256 257 [0, 4] .ret (mkF [(0, .slice (some ⟨3, 0, some 2⟩) ls.length 0), (1, .int .i64 (n : Int)), (7, .slice (some ⟨3, 0, some 2⟩) ls.length 0), (8, .int .i64 (ls.length : Int)), (9, .int .i64 (x : Int))] 35 0) [] (mkF [(0, Value.slice (some { block := 3, off := 0, spot := some 2 }) ls.length 0), (4, Value.int IntKind.i64 2)] 35 0) [] 321 := by
  have k0 : (decide ((↑x : Int) < (↑ls.length : Int))) = true := (decide_eq_true (by omega))
  have k1 : (decide (ls.getD x 0 < 0)) = false := h1
  have k2 : (decide (ls.getD x 0 ≥ (↑n : Int))) = false := h2
  have k3 : (decide ((↑x : Int) > 0)) = true := (decide_eq_true (by omega))
  have k4 : (decide (ls.getD (IntKind.i64.wrap ((↑x : Int) - 1)).toNat 0 ≥ ls.getD x 0)) = true := (decide_eq_true (by rw [prev_nat (by omega) (by omega)]; omega))
  exact roundTo_of [(257, OV.soft (Value.bool true)), (385, OV.idx x), (449, OV.ld (Value.int IntKind.i64 (ls.getD x 0))), (769, OV.soft (Value.bool false)), (1089, OV.soft (Value.bool false)), (1281, OV.soft (Value.bool true)), (1537, OV.idx (IntKind.i64.wrap ((↑x : Int) - 1)).toNat), (1601, OV.ld (Value.int IntKind.i64 (ls.getD (IntKind.i64.wrap ((↑x : Int) - 1)).toNat 0))), (1857, OV.soft (Value.bool true))] [] (ps := [decide ((↑x : Int) < (↑ls.length : Int)) = true, 0 ≤ (↑x : Int) ∧ (↑x : Int) < (↑ls.length : Int) ∧ (↑x : Int).toNat = x, (rg.cells 3)[0 + x * 1]? = some (Value.int IntKind.i64 (ls.getD x 0)), decide (ls.getD x 0 < 0) = false, decide (ls.getD x 0 ≥ (↑n : Int)) = false, decide ((↑x : Int) > 0) = true, 0 ≤ IntKind.i64.wrap ((↑x : Int) - 1) ∧ IntKind.i64.wrap ((↑x : Int) - 1) < (↑ls.length : Int) ∧ (IntKind.i64.wrap ((↑x : Int) - 1)).toNat = (IntKind.i64.wrap ((↑x : Int) - 1)).toNat, (rg.cells 3)[0 + (IntKind.i64.wrap ((↑x : Int) - 1)).toNat * 1]? = some (Value.int IntKind.i64 (ls.getD (IntKind.i64.wrap ((↑x : Int) - 1)).toNat 0)), decide (ls.getD (IntKind.i64.wrap ((↑x : Int) - 1)).toNat 0 ≥ ls.getD x 0) = true]) (by kernel_rfl) (ob_cons k0 (ob_cons (by omega) (ob_cons (at_l hl hx) (ob_cons k1 (ob_cons k2 (ob_cons k3 (ob_cons (prev_i (of_decide_eq_true (by assumption)) hx h80) (ob_cons (at_lp hl (of_decide_eq_true (by assumption)) hx h80) (ob_cons k4 ob_nil))))))))) (by decide)

theorem pq_e {ls : List Int} {n x : Nat} (hx : x = ls.length) : RoundTo Try.prog callW 10 100 (loopN Try.prog 30 0) 256 257 [0] (.exit 0) (mkF [(0, .slice (some ⟨3, 0, some 2⟩) ls.length 0), (1, .int .i64 (n : Int)), (7, .slice (some ⟨3, 0, some 2⟩) ls.length 0), (8, .int .i64 (ls.length : Int)), (9, .int .i64 (x : Int))] 35 0) [] (mkF [(0, Value.slice (some { block := 3, off := 0, spot := some 2 }) ls.length 0)] 35 0) [] 321 := by
  have k0 : (decide ((↑x : Int) < (↑ls.length : Int))) = false := (decide_eq_false (by omega))
  exact roundTo_of [(257, OV.soft (Value.bool false))] [] (ps := [decide ((↑x : Int) < (↑ls.length : Int)) = false]) (by kernel_rfl) (ob_cons k0 ob_nil) (by decide)

theorem pq_hit {ls : List Int} {n x : Nat} (hl : CL ls) (h80 : ls.length ≤ 1000) (hx : x < ls.length) (he : badP ls n x = true) (hb : ∀ y, y < x → badP ls n y = false) : LoopOK Try.prog (loopN Try.prog 30 0) (mkF [(0, .slice (some ⟨3, 0, some 2⟩) ls.length 0), (1, .int .i64 (n : Int)), (7, .slice (some ⟨3, 0, some 2⟩) ls.length 0), (8, .int .i64 (ls.length : Int)), (9, .int .i64 (((0 : Nat) : Int) : Int))] 35 0) [] 256 ⟨.ret, mkF [(0, Value.slice (some { block := 3, off := 0, spot := some 2 }) ls.length 0), (4, Value.int IntKind.i64 2)] 35 0, [], 321, []⟩ := by
  refine loop_ind callW_spec mixed (LF := 10) (F := 100) (nxb := 257) (keys := [0, 1, 7, 8, 9]) (keysE := [0, 4]) x (fun x => mkF [(0, .slice (some ⟨3, 0, some 2⟩) ls.length 0), (1, .int .i64 (n : Int)), (7, .slice (some ⟨3, 0, some 2⟩) ls.length 0), (8, .int .i64 (ls.length : Int)), (9, .int .i64 (x : Int))] 35 0) (fun _ => []) (by decide) (by simp) rfl ?_ ?_ (fun h => by cases h)
  · intro y hy
    obtain ⟨a1, a2, a3⟩ := badP_no (hb y hy)
    exact pq_go hl h80 (by omega) a1 a2 a3
  · rcases Bool.eq_false_or_eq_true (decide (ls.getD x 0 < 0)) with h1 | h1
    · exact pq_1 hl h80 hx h1
    · rcases Bool.eq_false_or_eq_true (decide (ls.getD x 0 ≥ (n : Int))) with h2 | h2
      · exact pq_2 hl h80 hx h1 h2
      · unfold badP at he
        rw [h1, h2, Bool.false_or, Bool.false_or, Bool.and_eq_true] at he
        exact pq_3 hl h80 hx h1 h2 (of_decide_eq_true he.1) (by simpa using he.2)
theorem pq_none {ls : List Int} {n : Nat} (hl : CL ls) (h80 : ls.length ≤ 1000) (hb : ∀ y, y < ls.length → badP ls n y = false) : LoopOK Try.prog (loopN Try.prog 30 0) (mkF [(0, .slice (some ⟨3, 0, some 2⟩) ls.length 0), (1, .int .i64 (n : Int)), (7, .slice (some ⟨3, 0, some 2⟩) ls.length 0), (8, .int .i64 (ls.length : Int)), (9, .int .i64 (((0 : Nat) : Int) : Int))] 35 0) [] 256 ⟨(.exit 0), mkF [(0, Value.slice (some { block := 3, off := 0, spot := some 2 }) ls.length 0)] 35 0, [], 321, []⟩ := by
  refine loop_ind callW_spec mixed (LF := 10) (F := 100) (nxb := 257) (keys := [0, 1, 7, 8, 9]) (keysE := [0]) ls.length (fun x => mkF [(0, .slice (some ⟨3, 0, some 2⟩) ls.length 0), (1, .int .i64 (n : Int)), (7, .slice (some ⟨3, 0, some 2⟩) ls.length 0), (8, .int .i64 (ls.length : Int)), (9, .int .i64 (x : Int))] 35 0) (fun _ => []) (by decide) (by simp) rfl ?_ ?_ (fun h => by cases h)
  · intro y hy
    obtain ⟨a1, a2, a3⟩ := badP_no (hb y hy)
    exact pq_go hl h80 hy a1 a2 a3
  · exact pq_e rfl
theorem pq_ch {ls : List Int} {n : Nat} (hL : LoopOK Try.prog (loopN Try.prog 30 0) (mkF [(0, .slice (some ⟨3, 0, some 2⟩) ls.length 0), (1, .int .i64 (n : Int)), (7, .slice (some ⟨3, 0, some 2⟩) ls.length 0), (8, .int .i64 (ls.length : Int)), (9, .int .i64 (((0 : Nat) : Int) : Int))] 35 0) [] 256 ⟨.ret, mkF [(0, Value.slice (some { block := 3, off := 0, spot := some 2 }) ls.length 0), (4, Value.int IntKind.i64 2)] 35 0, [], 321, []⟩) : CallOK Try.prog 30 [.slice (some ⟨3, 0, some 2⟩) ls.length 0, .int .i64 (n : Int)] [] 0 (.int .i64 2) [] := by
  exact (callOK_keep (call := callW) [] callW_spec mixed (ω := [(257, OV.loop [0, 1, 7, 8, 9] AX.ret (mkF [(0, Value.slice (some { block := 3, off := 0, spot := some 2 }) ls.length 0), (4, Value.int IntKind.i64 2)] 35 0) [] 321)]) (LF := 10) (F := 100) (ps := [LoopOK Try.prog (loopN Try.prog 30 0) (mkF [(0, .slice (some ⟨3, 0, some 2⟩) ls.length 0), (1, .int .i64 (n : Int)), (7, .slice (some ⟨3, 0, some 2⟩) ls.length 0), (8, .int .i64 (ls.length : Int)), (9, .int .i64 (((0 : Nat) : Int) : Int))] 35 0) [] 256 ⟨.ret, mkF [(0, Value.slice (some { block := 3, off := 0, spot := some 2 }) ls.length 0), (4, Value.int IntKind.i64 2)] 35 0, [], 321, []⟩]) (by kernel_rfl) (ob_cons hL ob_nil))

theorem pq_cn {ls : List Int} {n : Nat} (hL : LoopOK Try.prog (loopN Try.prog 30 0) (mkF [(0, .slice (some ⟨3, 0, some 2⟩) ls.length 0), (1, .int .i64 (n : Int)), (7, .slice (some ⟨3, 0, some 2⟩) ls.length 0), (8, .int .i64 (ls.length : Int)), (9, .int .i64 (((0 : Nat) : Int) : Int))] 35 0) [] 256 ⟨(.exit 0), mkF [(0, Value.slice (some { block := 3, off := 0, spot := some 2 }) ls.length 0)] 35 0, [], 321, []⟩) : CallOK Try.prog 30 [.slice (some ⟨3, 0, some 2⟩) ls.length 0, .int .i64 (n : Int)] [] 0 (.int .i64 0) [] := by
  exact (callOK_keep (call := callW) [] callW_spec mixed (ω := [(257, OV.loop [0, 1, 7, 8, 9] (AX.exit 0) (mkF [(0, Value.slice (some { block := 3, off := 0, spot := some 2 }) ls.length 0)] 35 0) [] 321)]) (LF := 10) (F := 100) (ps := [LoopOK Try.prog (loopN Try.prog 30 0) (mkF [(0, .slice (some ⟨3, 0, some 2⟩) ls.length 0), (1, .int .i64 (n : Int)), (7, .slice (some ⟨3, 0, some 2⟩) ls.length 0), (8, .int .i64 (ls.length : Int)), (9, .int .i64 (((0 : Nat) : Int) : Int))] 35 0) [] 256 ⟨(.exit 0), mkF [(0, Value.slice (some { block := 3, off := 0, spot := some 2 }) ls.length 0)] 35 0, [], 321, []⟩]) (by kernel_rfl) (ob_cons hL ob_nil))

theorem pq_ok {ls : List Int} {n : Nat} (hl : CL ls) (h80 : ls.length ≤ 1000) : CallOK Try.prog 30 [.slice (some ⟨3, 0, some 2⟩) ls.length 0, .int .i64 (n : Int)] [] 0 (.int .i64 (plE ls n)) [] := by
  rcases first_or (badP ls n) ls.length with ⟨x, hx, he, hb⟩ | hb
  · rw [show plE ls n = 2 by unfold plE; rw [range_any hx he]; rfl]; exact pq_ch (pq_hit hl h80 hx he hb)
  · rw [show plE ls n = 0 by unfold plE; rw [range_none hb]; rfl]; exact pq_cn (pq_none hl h80 hb)
theorem am_go {ls : List Int} {n x : Nat} (hl : CL ls) (h80 : ls.length ≤ 1000) (hx : x < ls.length) (h1 : decide (ls.getD x 0 < 0) = false) (h2 : decide (ls.getD x 0 ≥ (n : Int)) = false) (hq3 : 0 < x → ls.getD (x - 1) 0 < ls.getD x 0) : RoundTo Try.prog callW 10 100 (loopN Try.prog 40 0) 128 129 [0, 1, 5] .normal (mkF [(0, .int .i64 (n : Int)), (1, .slice (some ⟨3, 0, some 2⟩) ls.length 0), (5, .int .i64 (x : Int))] 44 0) [] (mkF [(0, Value.int IntKind.i64 (↑n : Int)), (1, Value.slice (some { block := 3, off := 0, spot := some 2 }) ls.length 0), (5, Value.int IntKind.i64 (↑(x + 1) : Int))] 44 0) [] 129 := by
  have k0 : (decide ((↑x : Int) < (↑ls.length : Int))) = true := (decide_eq_true (by omega))
  have k1 : (decide (ls.getD x 0 < 0)) = false := h1
  have k2 : (decide (ls.getD x 0 ≥ (↑n : Int))) = false := h2
  rcases Bool.eq_false_or_eq_true (decide ((↑x : Int) > 0)) with h3 | h3
  · have k4 : (decide (ls.getD (IntKind.i64.wrap ((↑x : Int) - 1)).toNat 0 ≥ ls.getD x 0)) = false := (decide_eq_false (by have h0 : (x : Int) > 0 := of_decide_eq_true (by assumption); rw [prev_nat (by omega) (by omega)]; have := hq3 (by omega); omega))
    exact roundTo_of [(321, OV.soft (Value.bool true)), (513, OV.idx x), (577, OV.ld (Value.int IntKind.i64 (ls.getD x 0))), (705, OV.soft (Value.bool false)), (897, OV.idx x), (961, OV.ld (Value.int IntKind.i64 (ls.getD x 0))), (1217, OV.soft (Value.bool false)), (1409, OV.soft (Value.bool true)), (1665, OV.idx (IntKind.i64.wrap ((↑x : Int) - 1)).toNat), (1729, OV.ld (Value.int IntKind.i64 (ls.getD (IntKind.i64.wrap ((↑x : Int) - 1)).toNat 0))), (1921, OV.idx x), (1985, OV.ld (Value.int IntKind.i64 (ls.getD x 0))), (2177, OV.soft (Value.bool false)), (2305, OV.soft (Value.int IntKind.i64 (↑(x + 1) : Int)))] [] (ps := [decide ((↑x : Int) < (↑ls.length : Int)) = true, 0 ≤ (↑x : Int) ∧ (↑x : Int) < (↑ls.length : Int) ∧ (↑x : Int).toNat = x, (rg.cells 3)[0 + x * 1]? = some (Value.int IntKind.i64 (ls.getD x 0)), decide (ls.getD x 0 < 0) = false, 0 ≤ (↑x : Int) ∧ (↑x : Int) < (↑ls.length : Int) ∧ (↑x : Int).toNat = x, (rg.cells 3)[0 + x * 1]? = some (Value.int IntKind.i64 (ls.getD x 0)), decide (ls.getD x 0 ≥ (↑n : Int)) = false, decide ((↑x : Int) > 0) = true, 0 ≤ IntKind.i64.wrap ((↑x : Int) - 1) ∧ IntKind.i64.wrap ((↑x : Int) - 1) < (↑ls.length : Int) ∧ (IntKind.i64.wrap ((↑x : Int) - 1)).toNat = (IntKind.i64.wrap ((↑x : Int) - 1)).toNat, (rg.cells 3)[0 + (IntKind.i64.wrap ((↑x : Int) - 1)).toNat * 1]? = some (Value.int IntKind.i64 (ls.getD (IntKind.i64.wrap ((↑x : Int) - 1)).toNat 0)), 0 ≤ (↑x : Int) ∧ (↑x : Int) < (↑ls.length : Int) ∧ (↑x : Int).toNat = x, (rg.cells 3)[0 + x * 1]? = some (Value.int IntKind.i64 (ls.getD x 0)), decide (ls.getD (IntKind.i64.wrap ((↑x : Int) - 1)).toNat 0 ≥ ls.getD x 0) = false, IntKind.i64.wrap ((↑x : Int) + 1) = (↑(x + 1) : Int)]) (by kernel_rfl) (ob_cons k0 (ob_cons (by omega) (ob_cons (at_l hl hx) (ob_cons k1 (ob_cons (by omega) (ob_cons (at_l hl hx) (ob_cons k2 (ob_cons h3 (ob_cons (prev_i (of_decide_eq_true (by assumption)) hx h80) (ob_cons (at_lp hl (of_decide_eq_true (by assumption)) hx h80) (ob_cons (by omega) (ob_cons (at_l hl hx) (ob_cons k4 (ob_cons (up1 (by omega)) ob_nil)))))))))))))) (by decide)
  · exact roundTo_of [(321, OV.soft (Value.bool true)), (513, OV.idx x), (577, OV.ld (Value.int IntKind.i64 (ls.getD x 0))), (705, OV.soft (Value.bool false)), (897, OV.idx x), (961, OV.ld (Value.int IntKind.i64 (ls.getD x 0))), (1217, OV.soft (Value.bool false)), (1409, OV.soft (Value.bool false)), (2305, OV.soft (Value.int IntKind.i64 (↑(x + 1) : Int)))] [] (ps := [decide ((↑x : Int) < (↑ls.length : Int)) = true, 0 ≤ (↑x : Int) ∧ (↑x : Int) < (↑ls.length : Int) ∧ (↑x : Int).toNat = x, (rg.cells 3)[0 + x * 1]? = some (Value.int IntKind.i64 (ls.getD x 0)), decide (ls.getD x 0 < 0) = false, 0 ≤ (↑x : Int) ∧ (↑x : Int) < (↑ls.length : Int) ∧ (↑x : Int).toNat = x, (rg.cells 3)[0 + x * 1]? = some (Value.int IntKind.i64 (ls.getD x 0)), decide (ls.getD x 0 ≥ (↑n : Int)) = false, decide ((↑x : Int) > 0) = false, IntKind.i64.wrap ((↑x : Int) + 1) = (↑(x + 1) : Int)]) (by kernel_rfl) (ob_cons k0 (ob_cons (by omega) (ob_cons (at_l hl hx) (ob_cons k1 (ob_cons (by omega) (ob_cons (at_l hl hx) (ob_cons k2 (ob_cons h3 (ob_cons (up1 (by omega)) ob_nil))))))))) (by decide)

theorem am_1 {ls : List Int} {n x : Nat} (hl : CL ls) (h80 : ls.length ≤ 1000) (hx : x < ls.length) (h1 : decide (ls.getD x 0 < 0) = true) : RoundTo Try.prog callW 10 100 (loopN Try.prog 40 0) 128 129 [1, 4] .ret (mkF [(0, .int .i64 (n : Int)), (1, .slice (some ⟨3, 0, some 2⟩) ls.length 0), (5, .int .i64 (x : Int))] 44 0) [] (mkF [(1, Value.slice (some { block := 3, off := 0, spot := some 2 }) ls.length 0), (4, Value.int IntKind.i64 2)] 44 0) [] 193 := by
  have k0 : (decide ((↑x : Int) < (↑ls.length : Int))) = true := (decide_eq_true (by omega))
  have k1 : (decide (ls.getD x 0 < 0)) = true := h1
  exact roundTo_of [(321, OV.soft (Value.bool true)), (513, OV.idx x), (577, OV.ld (Value.int IntKind.i64 (ls.getD x 0))), (705, OV.soft (Value.bool true))] [] (ps := [decide ((↑x : Int) < (↑ls.length : Int)) = true, 0 ≤ (↑x : Int) ∧ (↑x : Int) < (↑ls.length : Int) ∧ (↑x : Int).toNat = x, (rg.cells 3)[0 + x * 1]? = some (Value.int IntKind.i64 (ls.getD x 0)), decide (ls.getD x 0 < 0) = true]) (by kernel_rfl) (ob_cons k0 (ob_cons (by omega) (ob_cons (at_l hl hx) (ob_cons k1 ob_nil)))) (by decide)

theorem am_2 {ls : List Int} {n x : Nat} (hl : CL ls) (h80 : ls.length ≤ 1000) (hx : x < ls.length) (h1 : decide (ls.getD x 0 < 0) = false) (h2 : decide (ls.getD x 0 ≥ (n : Int)) = true) : RoundTo Try.prog callW 10 100 (loopN Try.prog 40 0) 128 129 [1, 4] .ret (mkF [(0, .int .i64 (n : Int)), (1, .slice (some ⟨3, 0, some 2⟩) ls.length 0), (5, .int .i64 (x : Int))] 44 0) [] (mkF [(1, Value.slice (some { block := 3, off := 0, spot := some 2 }) ls.length 0), (4, Value.int IntKind.i64 2)] 44 0) [] 193 := by
  have k0 : (decide ((↑x : Int) < (↑ls.length : Int))) = true := (decide_eq_true (by omega))
  have k1 : (decide (ls.getD x 0 < 0)) = false := h1
  have k2 : (decide (ls.getD x 0 ≥ (↑n : Int))) = true := h2
  exact roundTo_of [(321, OV.soft (Value.bool true)), (513, OV.idx x), (577, OV.ld (Value.int IntKind.i64 (ls.getD x 0))), (705, OV.soft (Value.bool false)), (897, OV.idx x), (961, OV.ld (Value.int IntKind.i64 (ls.getD x 0))), (1217, OV.soft (Value.bool true))] [] (ps := [decide ((↑x : Int) < (↑ls.length : Int)) = true, 0 ≤ (↑x : Int) ∧ (↑x : Int) < (↑ls.length : Int) ∧ (↑x : Int).toNat = x, (rg.cells 3)[0 + x * 1]? = some (Value.int IntKind.i64 (ls.getD x 0)), decide (ls.getD x 0 < 0) = false, 0 ≤ (↑x : Int) ∧ (↑x : Int) < (↑ls.length : Int) ∧ (↑x : Int).toNat = x, (rg.cells 3)[0 + x * 1]? = some (Value.int IntKind.i64 (ls.getD x 0)), decide (ls.getD x 0 ≥ (↑n : Int)) = true]) (by kernel_rfl) (ob_cons k0 (ob_cons (by omega) (ob_cons (at_l hl hx) (ob_cons k1 (ob_cons (by omega) (ob_cons (at_l hl hx) (ob_cons k2 ob_nil))))))) (by decide)

theorem am_3 {ls : List Int} {n x : Nat} (hl : CL ls) (h80 : ls.length ≤ 1000) (hx : x < ls.length) (h1 : decide (ls.getD x 0 < 0) = false) (h2 : decide (ls.getD x 0 ≥ (n : Int)) = false) (h0 : 0 < x) (h3 : ¬ ls.getD (x - 1) 0 < ls.getD x 0) : RoundTo Try.prog callW 10 100 (loopN Try.prog 40 0) 128 129 [1, 4] .ret (mkF [(0, .int .i64 (n : Int)), (1, .slice (some ⟨3, 0, some 2⟩) ls.length 0), (5, .int .i64 (x : Int))] 44 0) [] (mkF [(1, Value.slice (some { block := 3, off := 0, spot := some 2 }) ls.length 0), (4, Value.int IntKind.i64 2)] 44 0) [] 193 := by
  have k0 : (decide ((↑x : Int) < (↑ls.length : Int))) = true := (decide_eq_true (by omega))
  have k1 : (decide (ls.getD x 0 < 0)) = false := h1
  have k2 : (decide (ls.getD x 0 ≥ (↑n : Int))) = false := h2
  have k3 : (decide ((↑x : Int) > 0)) = true := (decide_eq_true (by omega))
  have k4 : (decide (ls.getD (IntKind.i64.wrap ((↑x : Int) - 1)).toNat 0 ≥ ls.getD x 0)) = true := (decide_eq_true (by rw [prev_nat (by omega) (by omega)]; omega))
  exact roundTo_of [(321, OV.soft (Value.bool true)), (513, OV.idx x), (577, OV.ld (Value.int IntKind.i64 (ls.getD x 0))), (705, OV.soft (Value.bool false)), (897, OV.idx x), (961, OV.ld (Value.int IntKind.i64 (ls.getD x 0))), (1217, OV.soft (Value.bool false)), (1409, OV.soft (Value.bool true)), (1665, OV.idx (IntKind.i64.wrap ((↑x : Int) - 1)).toNat), (1729, OV.ld (Value.int IntKind.i64 (ls.getD (IntKind.i64.wrap ((↑x : Int) - 1)).toNat 0))), (1921, OV.idx x), (1985, OV.ld (Value.int IntKind.i64 (ls.getD x 0))), (2177, OV.soft (Value.bool true))] [] (ps := [decide ((↑x : Int) < (↑ls.length : Int)) = true, 0 ≤ (↑x : Int) ∧ (↑x : Int) < (↑ls.length : Int) ∧ (↑x : Int).toNat = x, (rg.cells 3)[0 + x * 1]? = some (Value.int IntKind.i64 (ls.getD x 0)), decide (ls.getD x 0 < 0) = false, 0 ≤ (↑x : Int) ∧ (↑x : Int) < (↑ls.length : Int) ∧ (↑x : Int).toNat = x, (rg.cells 3)[0 + x * 1]? = some (Value.int IntKind.i64 (ls.getD x 0)), decide (ls.getD x 0 ≥ (↑n : Int)) = false, decide ((↑x : Int) > 0) = true, 0 ≤ IntKind.i64.wrap ((↑x : Int) - 1) ∧ IntKind.i64.wrap ((↑x : Int) - 1) < (↑ls.length : Int) ∧ (IntKind.i64.wrap ((↑x : Int) - 1)).toNat = (IntKind.i64.wrap ((↑x : Int) - 1)).toNat, (rg.cells 3)[0 + (IntKind.i64.wrap ((↑x : Int) - 1)).toNat * 1]? = some (Value.int IntKind.i64 (ls.getD (IntKind.i64.wrap ((↑x : Int) - 1)).toNat 0)), 0 ≤ (↑x : Int) ∧ (↑x : Int) < (↑ls.length : Int) ∧ (↑x : Int).toNat = x, (rg.cells 3)[0 + x * 1]? = some (Value.int IntKind.i64 (ls.getD x 0)), decide (ls.getD (IntKind.i64.wrap ((↑x : Int) - 1)).toNat 0 ≥ ls.getD x 0) = true]) (by kernel_rfl) (ob_cons k0 (ob_cons (by omega) (ob_cons (at_l hl hx) (ob_cons k1 (ob_cons (by omega) (ob_cons (at_l hl hx) (ob_cons k2 (ob_cons k3 (ob_cons (prev_i (of_decide_eq_true (by assumption)) hx h80) (ob_cons (at_lp hl (of_decide_eq_true (by assumption)) hx h80) (ob_cons (by omega) (ob_cons (at_l hl hx) (ob_cons k4 ob_nil))))))))))))) (by decide)

theorem am_e {ls : List Int} {n x : Nat} (hx : x = ls.length) : RoundTo Try.prog callW 10 100 (loopN Try.prog 40 0) 128 129 [1] (.exit 0) (mkF [(0, .int .i64 (n : Int)), (1, .slice (some ⟨3, 0, some 2⟩) ls.length 0), (5, .int .i64 (x : Int))] 44 0) [] (mkF [(1, Value.slice (some { block := 3, off := 0, spot := some 2 }) ls.length 0)] 44 0) [] 193 := by
  have k0 : (decide ((↑x : Int) < (↑ls.length : Int))) = false := (decide_eq_false (by omega))
  exact roundTo_of [(321, OV.soft (Value.bool false))] [] (ps := [decide ((↑x : Int) < (↑ls.length : Int)) = false]) (by kernel_rfl) (ob_cons k0 ob_nil) (by decide)

theorem am_hit {ls : List Int} {n x : Nat} (hl : CL ls) (h80 : ls.length ≤ 1000) (hx : x < ls.length) (he : badP ls n x = true) (hb : ∀ y, y < x → badP ls n y = false) : LoopOK Try.prog (loopN Try.prog 40 0) (mkF [(0, .int .i64 (n : Int)), (1, .slice (some ⟨3, 0, some 2⟩) ls.length 0), (5, .int .i64 (((0 : Nat) : Int) : Int))] 44 0) [] 128 ⟨.ret, mkF [(1, Value.slice (some { block := 3, off := 0, spot := some 2 }) ls.length 0), (4, Value.int IntKind.i64 2)] 44 0, [], 193, []⟩ := by
  refine loop_ind callW_spec mixed (LF := 10) (F := 100) (nxb := 129) (keys := [0, 1, 5]) (keysE := [1, 4]) x (fun x => mkF [(0, .int .i64 (n : Int)), (1, .slice (some ⟨3, 0, some 2⟩) ls.length 0), (5, .int .i64 (x : Int))] 44 0) (fun _ => []) (by decide) (by simp) rfl ?_ ?_ (fun h => by cases h)
  · intro y hy
    obtain ⟨a1, a2, a3⟩ := badP_no (hb y hy)
    exact am_go hl h80 (by omega) a1 a2 a3
  · rcases Bool.eq_false_or_eq_true (decide (ls.getD x 0 < 0)) with h1 | h1
    · exact am_1 hl h80 hx h1
    · rcases Bool.eq_false_or_eq_true (decide (ls.getD x 0 ≥ (n : Int))) with h2 | h2
      · exact am_2 hl h80 hx h1 h2
      · unfold badP at he
        rw [h1, h2, Bool.false_or, Bool.false_or, Bool.and_eq_true] at he
        exact am_3 hl h80 hx h1 h2 (of_decide_eq_true he.1) (by simpa using he.2)
theorem am_none {ls : List Int} {n : Nat} (hl : CL ls) (h80 : ls.length ≤ 1000) (hb : ∀ y, y < ls.length → badP ls n y = false) : LoopOK Try.prog (loopN Try.prog 40 0) (mkF [(0, .int .i64 (n : Int)), (1, .slice (some ⟨3, 0, some 2⟩) ls.length 0), (5, .int .i64 (((0 : Nat) : Int) : Int))] 44 0) [] 128 ⟨(.exit 0), mkF [(1, Value.slice (some { block := 3, off := 0, spot := some 2 }) ls.length 0)] 44 0, [], 193, []⟩ := by
  refine loop_ind callW_spec mixed (LF := 10) (F := 100) (nxb := 129) (keys := [0, 1, 5]) (keysE := [1]) ls.length (fun x => mkF [(0, .int .i64 (n : Int)), (1, .slice (some ⟨3, 0, some 2⟩) ls.length 0), (5, .int .i64 (x : Int))] 44 0) (fun _ => []) (by decide) (by simp) rfl ?_ ?_ (fun h => by cases h)
  · intro y hy
    obtain ⟨a1, a2, a3⟩ := badP_no (hb y hy)
    exact am_go hl h80 hy a1 a2 a3
  · exact am_e rfl
theorem am_ch {ls : List Int} {n : Nat} (hL : LoopOK Try.prog (loopN Try.prog 40 0) (mkF [(0, .int .i64 (n : Int)), (1, .slice (some ⟨3, 0, some 2⟩) ls.length 0), (5, .int .i64 (((0 : Nat) : Int) : Int))] 44 0) [] 128 ⟨.ret, mkF [(1, Value.slice (some { block := 3, off := 0, spot := some 2 }) ls.length 0), (4, Value.int IntKind.i64 2)] 44 0, [], 193, []⟩) : CallOK Try.prog 40 [.int .i64 (n : Int), .slice (some ⟨3, 0, some 2⟩) ls.length 0] [] 0 (.int .i64 2) [] := by
  exact (callOK_keep (call := callW) [] callW_spec mixed (ω := [(129, OV.loop [0, 1, 5] AX.ret (mkF [(1, Value.slice (some { block := 3, off := 0, spot := some 2 }) ls.length 0), (4, Value.int IntKind.i64 2)] 44 0) [] 193)]) (LF := 10) (F := 100) (ps := [LoopOK Try.prog (loopN Try.prog 40 0) (mkF [(0, .int .i64 (n : Int)), (1, .slice (some ⟨3, 0, some 2⟩) ls.length 0), (5, .int .i64 (((0 : Nat) : Int) : Int))] 44 0) [] 128 ⟨.ret, mkF [(1, Value.slice (some { block := 3, off := 0, spot := some 2 }) ls.length 0), (4, Value.int IntKind.i64 2)] 44 0, [], 193, []⟩]) (by kernel_rfl) (ob_cons hL ob_nil))

def amE (ls : List Int) (n : Nat) : Int := bif (plE ls n != 0) then 2 else bif ((ls.length : Int) == 0) then 5 else 0
theorem am_cn {ls : List Int} {n : Nat} (hb : plE ls n = 0) (hL : LoopOK Try.prog (loopN Try.prog 40 0) (mkF [(0, .int .i64 (n : Int)), (1, .slice (some ⟨3, 0, some 2⟩) ls.length 0), (5, .int .i64 (((0 : Nat) : Int) : Int))] 44 0) [] 128 ⟨(.exit 0), mkF [(1, Value.slice (some { block := 3, off := 0, spot := some 2 }) ls.length 0)] 44 0, [], 193, []⟩) : CallOK Try.prog 40 [.int .i64 (n : Int), .slice (some ⟨3, 0, some 2⟩) ls.length 0] [] 0 (.int .i64 (amE ls n)) [] := by
  rcases Bool.eq_false_or_eq_true ((↑ls.length : Int) == 0) with h0 | h0
  · have hv : (.int .i64 (amE ls n)) = Value.int IntKind.i64 5 := by first | (simp only [amE, hb, (rfl : ((0 : Int) != 0) = false), h0, cond_true, cond_false, Bool.true_and, Bool.and_true, Bool.false_and, Bool.and_false, Bool.not_true, Bool.not_false]; done) | (simp only [amE, hb, (rfl : ((0 : Int) != 0) = false), h0, cond_true, cond_false, Bool.true_and, Bool.and_true, Bool.false_and, Bool.and_false, Bool.not_true, Bool.not_false]; rfl) | simp [amE, hb, (rfl : ((0 : Int) != 0) = false), h0]
    rw [hv]
    exact (callOK_keep (call := callW) [] callW_spec mixed (ω := [(129, OV.loop [0, 1, 5] (AX.exit 0) (mkF [(1, Value.slice (some { block := 3, off := 0, spot := some 2 }) ls.length 0)] 44 0) [] 193), (321, OV.soft (Value.bool true))]) (LF := 10) (F := 100) (ps := [LoopOK Try.prog (loopN Try.prog 40 0) (mkF [(0, .int .i64 (n : Int)), (1, .slice (some ⟨3, 0, some 2⟩) ls.length 0), (5, .int .i64 (((0 : Nat) : Int) : Int))] 44 0) [] 128 ⟨(.exit 0), mkF [(1, Value.slice (some { block := 3, off := 0, spot := some 2 }) ls.length 0)] 44 0, [], 193, []⟩, ((↑ls.length : Int) == 0) = true]) (by kernel_rfl) (ob_cons hL (ob_cons h0 ob_nil)))
  · have hv : (.int .i64 (amE ls n)) = Value.int IntKind.i64 0 := by first | (simp only [amE, hb, (rfl : ((0 : Int) != 0) = false), h0, cond_true, cond_false, Bool.true_and, Bool.and_true, Bool.false_and, Bool.and_false, Bool.not_true, Bool.not_false]; done) | (simp only [amE, hb, (rfl : ((0 : Int) != 0) = false), h0, cond_true, cond_false, Bool.true_and, Bool.and_true, Bool.false_and, Bool.and_false, Bool.not_true, Bool.not_false]; rfl) | simp [amE, hb, (rfl : ((0 : Int) != 0) = false), h0]
    rw [hv]
    exact (callOK_keep (call := callW) [] callW_spec mixed (ω := [(129, OV.loop [0, 1, 5] (AX.exit 0) (mkF [(1, Value.slice (some { block := 3, off := 0, spot := some 2 }) ls.length 0)] 44 0) [] 193), (321, OV.soft (Value.bool false))]) (LF := 10) (F := 100) (ps := [LoopOK Try.prog (loopN Try.prog 40 0) (mkF [(0, .int .i64 (n : Int)), (1, .slice (some ⟨3, 0, some 2⟩) ls.length 0), (5, .int .i64 (((0 : Nat) : Int) : Int))] 44 0) [] 128 ⟨(.exit 0), mkF [(1, Value.slice (some { block := 3, off := 0, spot := some 2 }) ls.length 0)] 44 0, [], 193, []⟩, ((↑ls.length : Int) == 0) = false]) (by kernel_rfl) (ob_cons hL (ob_cons h0 ob_nil)))

theorem am_ok {ls : List Int} {n : Nat} (hl : CL ls) (h80 : ls.length ≤ 1000) : CallOK Try.prog 40 [.int .i64 (n : Int), .slice (some ⟨3, 0, some 2⟩) ls.length 0] [] 0 (.int .i64 (amE ls n)) [] := by
  rcases first_or (badP ls n) ls.length with ⟨x, hx, he, hb⟩ | hb
  · rw [show amE ls n = 2 by unfold amE; rw [show plE ls n = 2 by unfold plE; rw [range_any hx he]; rfl]; rfl]; exact am_ch (am_hit hl h80 hx he hb)
  · exact am_cn (show plE ls n = 0 by unfold plE; rw [range_none hb]; rfl) (am_none hl h80 hb)
end Go.Proofs.Ytbjfckcgpbejkaa
