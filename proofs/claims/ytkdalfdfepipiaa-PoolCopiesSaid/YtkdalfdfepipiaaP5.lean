/- Pool: hosts, its loop; printed by a program of mine. -/
import Derived.Test.YtkdalfdfepipiaaP4
import Derived.KernelRfl
namespace Go.Proofs.Ytkdalfdfepipiaa
open Go.RowKit
set_option linter.unusedSimpArgs false
set_option linter.unusedVariables false
set_option linter.unusedSectionVars false
set_option maxRecDepth 100000
variable [Inhabited RawG]
/-- The texts of a row, each counted once. -/
abbrev onceV (L : List ByteArray) : List (ByteArray × Int) := L.map fun k => (k, (1 : Int))
theorem once_none {x : ByteArray} : ∀ {L : List ByteArray}, x ∉ L → fndV x (onceV L) = none
  | [], h => rfl
  | k :: r, h => by
    have h1 : x ≠ k := fun e => h (by simp [e])
    show fndV x ((k, 1) :: onceV r) = none
    unfold fndV
    rw [if_neg h1, once_none (L := r) (fun e => h (by simp [e]))]
    rfl
theorem once_some {x : ByteArray} : ∀ {L : List ByteArray}, x ∈ L → ∃ j, fndV x (onceV L) = some (j, 1)
  | [], h => by cases h
  | k :: r, h => by
    show ∃ j, fndV x ((k, 1) :: onceV r) = some (j, 1)
    unfold fndV
    by_cases e : x = k
    · exact ⟨0, by rw [if_pos e]⟩
    · obtain ⟨j, hj⟩ := once_some (L := r) (by simpa [e] using h)
      exact ⟨j + 1, by rw [if_neg e, hj]; rfl⟩
theorem once_snoc (L : List ByteArray) (x : ByteArray) : onceV (L ++ [x]) = onceV L ++ [(x, 1)] := by simp [onceV]
theorem raw_str {ih : Nat} {hs : List ByteArray} (hA : rg.cells ih = hs.map Value.string) {x : Nat} (hx : x < hs.length) : (rg.cells ih)[0 + x * 1]? = some (Value.string (hs.getD x default)) := by
  rw [hA, Nat.zero_add, Nat.mul_one, List.getElem?_map, List.getElem?_eq_getElem hx, List.getD_eq_getElem?_getD, List.getElem?_eq_getElem hx]; rfl
theorem ho_go {ih : Nat} {hs : List ByteArray} {x : Nat} {l : List (ByteArray × Int)} (hA : rg.cells ih = hs.map Value.string) (h64 : hs.length ≤ 64) (hx : x < hs.length) (hz : (hs.getD x default).size ≤ 9000000000000) (he : hostE (hs.getD x default) = 0) (hf : fndV (hs.getD x default) l = none) : RoundTo Try.prog callB 10 100 (loopN Try.prog 44 0) 896 897 [3, 15, 16, 17] .normal (mkF [(3, .map (some 576)), (15, .slice (some ⟨ih, 0, some 2⟩) hs.length 0), (16, .int .i64 (hs.length : Int)), (17, .int .i64 (x : Int))] 30 0) [(576, ⟨86, mapV l, 4⟩)] (mkF [(3, Value.map (some 576)), (15, Value.slice (some { block := ih, off := 0, spot := some 2 }) hs.length 0), (16, Value.int IntKind.i64 (↑hs.length : Int)), (17, Value.int IntKind.i64 (↑(x + 1) : Int))] 30 0) [(576, ⟨86, mapV (l ++ [(hs.getD x default, 1)]), 4⟩)] 897 := by
  have k0 : (decide ((↑x : Int) < (↑hs.length : Int))) = true := (decide_eq_true (by omega))
  have k1 : (hostE (hs.getD x default) != 0) = false := (by rw [he]; rfl)
  exact roundTo_of [(897, OV.soft (Value.bool true)), (961, OV.idx x), (1025, OV.ld (Value.string (hs.getD x default))), (1217, OV.call (Value.int IntKind.i64 (hostE (hs.getD x default))) []), (1345, OV.soft (Value.bool false)), (1537, OV.call (Value.bool false) [(0, ⟨86, mapV (l ++ [(hs.getD x default, 1)]), 4⟩)]), (1665, OV.soft (Value.int IntKind.i64 (↑(x + 1) : Int)))] [] (ps := [decide ((↑x : Int) < (↑hs.length : Int)) = true, 0 ≤ (↑x : Int) ∧ (↑x : Int) < (↑hs.length : Int) ∧ (↑x : Int).toNat = x, (rg.cells ih)[0 + x * 1]? = some (Value.string (hs.getD x default)), CallOK Try.prog 17 [Value.string (hs.getD x default)] [] 0 (Value.int IntKind.i64 (hostE (hs.getD x default))) [], (hostE (hs.getD x default) != 0) = false, CallOK Try.prog 45 [Value.map (some 0), Value.string (hs.getD x default)] [(0, ⟨86, mapV l, 4⟩)] 1 (Value.bool false) [(0, ⟨86, mapV (l ++ [(hs.getD x default, 1)]), 4⟩)], IntKind.i64.wrap ((↑x : Int) + 1) = (↑(x + 1) : Int)]) (by kernel_rfl) (ob_cons k0 (ob_cons (by omega) (ob_cons (raw_str hA hx) (ob_cons (host_ok hz) (ob_cons k1 (ob_cons (again_new (j := 0) hf) (ob_cons (up1 (by omega)) ob_nil))))))) (by decide)

theorem ho_hit1 {ih : Nat} {hs : List ByteArray} {x : Nat} {l : List (ByteArray × Int)} (hA : rg.cells ih = hs.map Value.string) (h64 : hs.length ≤ 64) (hx : x < hs.length) (hz : (hs.getD x default).size ≤ 9000000000000) (he : hostE (hs.getD x default) ≠ 0) : RoundTo Try.prog callB 10 100 (loopN Try.prog 44 0) 896 897 [2] .ret (mkF [(3, .map (some 576)), (15, .slice (some ⟨ih, 0, some 2⟩) hs.length 0), (16, .int .i64 (hs.length : Int)), (17, .int .i64 (x : Int))] 30 0) [(576, ⟨86, mapV l, 4⟩)] (mkF [(2, Value.int IntKind.i64 250)] 30 0) [] 960 := by
  have k0 : (decide ((↑x : Int) < (↑hs.length : Int))) = true := (decide_eq_true (by omega))
  have k1 : (hostE (hs.getD x default) != 0) = true := (bne_iff_ne.2 he)
  exact roundTo_of [(897, OV.soft (Value.bool true)), (961, OV.idx x), (1025, OV.ld (Value.string (hs.getD x default))), (1217, OV.call (Value.int IntKind.i64 (hostE (hs.getD x default))) []), (1345, OV.soft (Value.bool true))] [] (ps := [decide ((↑x : Int) < (↑hs.length : Int)) = true, 0 ≤ (↑x : Int) ∧ (↑x : Int) < (↑hs.length : Int) ∧ (↑x : Int).toNat = x, (rg.cells ih)[0 + x * 1]? = some (Value.string (hs.getD x default)), CallOK Try.prog 17 [Value.string (hs.getD x default)] [] 0 (Value.int IntKind.i64 (hostE (hs.getD x default))) [], (hostE (hs.getD x default) != 0) = true]) (by kernel_rfl) (ob_cons k0 (ob_cons (by omega) (ob_cons (raw_str hA hx) (ob_cons (host_ok hz) (ob_cons k1 ob_nil))))) (by decide)

theorem ho_hit2 {ih : Nat} {hs : List ByteArray} {x : Nat} {l : List (ByteArray × Int)} {j : Nat} (hA : rg.cells ih = hs.map Value.string) (h64 : hs.length ≤ 64) (hx : x < hs.length) (hz : (hs.getD x default).size ≤ 9000000000000) (he : hostE (hs.getD x default) = 0) (hf : fndV (hs.getD x default) l = some (j, 1)) : RoundTo Try.prog callB 10 100 (loopN Try.prog 44 0) 896 897 [2] .ret (mkF [(3, .map (some 576)), (15, .slice (some ⟨ih, 0, some 2⟩) hs.length 0), (16, .int .i64 (hs.length : Int)), (17, .int .i64 (x : Int))] 30 0) [(576, ⟨86, mapV l, 4⟩)] (mkF [(2, Value.int IntKind.i64 250)] 30 0) [] 960 := by
  have k0 : (decide ((↑x : Int) < (↑hs.length : Int))) = true := (decide_eq_true (by omega))
  have k1 : (hostE (hs.getD x default) != 0) = false := (by rw [he]; rfl)
  exact roundTo_of [(897, OV.soft (Value.bool true)), (961, OV.idx x), (1025, OV.ld (Value.string (hs.getD x default))), (1217, OV.call (Value.int IntKind.i64 (hostE (hs.getD x default))) []), (1345, OV.soft (Value.bool false)), (1537, OV.call (Value.bool true) [(0, ⟨86, mapV (l.set j (hs.getD x default, 2)), 4⟩)])] [] (ps := [decide ((↑x : Int) < (↑hs.length : Int)) = true, 0 ≤ (↑x : Int) ∧ (↑x : Int) < (↑hs.length : Int) ∧ (↑x : Int).toNat = x, (rg.cells ih)[0 + x * 1]? = some (Value.string (hs.getD x default)), CallOK Try.prog 17 [Value.string (hs.getD x default)] [] 0 (Value.int IntKind.i64 (hostE (hs.getD x default))) [], (hostE (hs.getD x default) != 0) = false, CallOK Try.prog 45 [Value.map (some 0), Value.string (hs.getD x default)] [(0, ⟨86, mapV l, 4⟩)] 1 (Value.bool true) [(0, ⟨86, mapV (l.set j (hs.getD x default, 2)), 4⟩)]]) (by kernel_rfl) (ob_cons k0 (ob_cons (by omega) (ob_cons (raw_str hA hx) (ob_cons (host_ok hz) (ob_cons k1 (ob_cons (again_old hf) ob_nil)))))) (by decide)

theorem ho_end {ih : Nat} {hs : List ByteArray} {x : Nat} {l : List (ByteArray × Int)} (hx : x = hs.length) : RoundTo Try.prog callB 10 100 (loopN Try.prog 44 0) 896 897 [15] (.exit 0) (mkF [(3, .map (some 576)), (15, .slice (some ⟨ih, 0, some 2⟩) hs.length 0), (16, .int .i64 (hs.length : Int)), (17, .int .i64 (x : Int))] 30 0) [(576, ⟨86, mapV l, 4⟩)] (mkF [(15, Value.slice (some { block := ih, off := 0, spot := some 2 }) hs.length 0)] 30 0) [] 960 := by
  have k0 : (decide ((↑x : Int) < (↑hs.length : Int))) = false := (decide_eq_false (by omega))
  exact roundTo_of [(897, OV.soft (Value.bool false))] [] (ps := [decide ((↑x : Int) < (↑hs.length : Int)) = false]) (by kernel_rfl) (ob_cons k0 ob_nil) (by decide)

/-- Is a host of a row as it should be, behind those before it? -/
def okH (hs : List ByteArray) (x : Nat) : Prop := hostE (hs.getD x default) = 0 ∧ hs.getD x default ∉ hs.take x
/-- What 'hosts' answers. -/
noncomputable def hostsE (hs : List ByteArray) : Int := if (hs.length : Int) < 1 then 250 else if (hs.length : Int) > 64 then 250 else @ite Int (∀ x, x < hs.length → okH hs x) (Classical.propDecidable _) 0 250
theorem first_badP {p : Nat → Prop} : ∀ {n : Nat}, (¬ ∀ x, x < n → p x) → ∃ x, x < n ∧ ¬ p x ∧ ∀ y, y < x → p y
  | 0, h => absurd (fun x hx => absurd hx (Nat.not_lt_zero x)) h
  | n + 1, h => by
    by_cases h1 : ∀ x, x < n → p x
    · exact ⟨n, Nat.lt_succ_self n, fun hp => h (fun x hx => (Nat.lt_succ_iff_lt_or_eq.1 hx).elim (h1 x) (fun e => e ▸ hp)), h1⟩
    · obtain ⟨x, h2, h3, h4⟩ := first_badP h1
      exact ⟨x, by omega, h3, h4⟩
theorem ho_step {ih : Nat} {hs : List ByteArray} {x : Nat} (hA : rg.cells ih = hs.map Value.string) (h64 : hs.length ≤ 64) (hz : ∀ h ∈ hs, h.size ≤ 9000000000000) (hx : x < hs.length) (hok : okH hs x) :
    RoundTo Try.prog callB 10 100 (loopN Try.prog 44 0) 896 897 [3, 15, 16, 17] .normal (mkF [(3, .map (some 576)), (15, .slice (some ⟨ih, 0, some 2⟩) hs.length 0), (16, .int .i64 (hs.length : Int)), (17, .int .i64 (x : Int))] 30 0) [(576, ⟨86, mapV (onceV (hs.take x)), 4⟩)] (mkF [(3, .map (some 576)), (15, .slice (some ⟨ih, 0, some 2⟩) hs.length 0), (16, .int .i64 (hs.length : Int)), (17, .int .i64 ((x + 1 : Nat) : Int))] 30 0) [(576, ⟨86, mapV (onceV (hs.take (x + 1))), 4⟩)] 897 := by
  have hm : hs.getD x default ∈ hs := by rw [List.getD_eq_getElem?_getD, List.getElem?_eq_getElem hx]; exact List.getElem_mem hx
  have e : hs.take (x + 1) = hs.take x ++ [hs.getD x default] := by rw [List.take_add_one, List.getElem?_eq_getElem hx, List.getD_eq_getElem?_getD, List.getElem?_eq_getElem hx]; rfl
  rw [e, once_snoc]
  exact ho_go hA h64 hx (hz _ hm) hok.1 (once_none hok.2)
theorem ho_loop0 {ih : Nat} {hs : List ByteArray} (hA : rg.cells ih = hs.map Value.string) (h64 : hs.length ≤ 64) (hz : ∀ h ∈ hs, h.size ≤ 9000000000000) (hok : ∀ x, x < hs.length → okH hs x) : LoopOK Try.prog (loopN Try.prog 44 0) (mkF [(3, .map (some 576)), (15, .slice (some ⟨ih, 0, some 2⟩) hs.length 0), (16, .int .i64 (hs.length : Int)), (17, .int .i64 ((0 : Nat) : Int))] 30 0) [(576, ⟨86, [], 4⟩)] 896 ⟨.exit 0, mkF [(15, .slice (some ⟨ih, 0, some 2⟩) hs.length 0)] 30 0, [], 960, []⟩ := by
  refine loop_ind callB_spec mixed (LF := 10) (F := 100) (nxb := 897) (keys := [3, 15, 16, 17]) (keysE := [15]) hs.length (fun x => mkF [(3, .map (some 576)), (15, .slice (some ⟨ih, 0, some 2⟩) hs.length 0), (16, .int .i64 (hs.length : Int)), (17, .int .i64 (x : Int))] 30 0) (fun x => [(576, ⟨86, mapV (onceV (hs.take x)), 4⟩)]) (by decide) (by simp) rfl ?_ ?_ (fun h => by cases h)
  · intro x hx
    exact ho_step hA h64 hz hx (hok x hx)
  · exact ho_end rfl
theorem ho_loop1 {ih : Nat} {hs : List ByteArray} (hA : rg.cells ih = hs.map Value.string) (h64 : hs.length ≤ 64) (hz : ∀ h ∈ hs, h.size ≤ 9000000000000) {x : Nat} (hx : x < hs.length) (hb : ¬ okH hs x) (hok : ∀ y, y < x → okH hs y) : LoopOK Try.prog (loopN Try.prog 44 0) (mkF [(3, .map (some 576)), (15, .slice (some ⟨ih, 0, some 2⟩) hs.length 0), (16, .int .i64 (hs.length : Int)), (17, .int .i64 ((0 : Nat) : Int))] 30 0) [(576, ⟨86, [], 4⟩)] 896 ⟨.ret, mkF [(2, Value.int IntKind.i64 250)] 30 0, [], 960, []⟩ := by
  refine loop_ind callB_spec mixed (LF := 10) (F := 100) (nxb := 897) (keys := [3, 15, 16, 17]) (keysE := [2]) x (fun x => mkF [(3, .map (some 576)), (15, .slice (some ⟨ih, 0, some 2⟩) hs.length 0), (16, .int .i64 (hs.length : Int)), (17, .int .i64 (x : Int))] 30 0) (fun x => [(576, ⟨86, mapV (onceV (hs.take x)), 4⟩)]) (by decide) (by simp) rfl ?_ ?_ (fun h => by cases h)
  · intro y hy
    exact ho_step hA h64 hz (by omega) (hok y hy)
  · have hm : hs.getD x default ∈ hs := by rw [List.getD_eq_getElem?_getD, List.getElem?_eq_getElem hx]; exact List.getElem_mem hx
    by_cases h1 : hostE (hs.getD x default) = 0
    · have h2 : hs.getD x default ∈ hs.take x := Classical.byContradiction fun h => hb ⟨h1, h⟩
      obtain ⟨j, hj⟩ := once_some h2
      exact ho_hit2 hA h64 hx (hz _ hm) h1 hj
    · exact ho_hit1 hA h64 hx (hz _ hm) h1
theorem hosts_h {ih : Nat} {hs : List ByteArray} (g1 : ¬ (hs.length : Int) < 1) (g2 : ¬ (hs.length : Int) > 64) (hL : LoopOK Try.prog (loopN Try.prog 44 0) (mkF [(3, .map (some 576)), (15, .slice (some ⟨ih, 0, some 2⟩) hs.length 0), (16, .int .i64 (hs.length : Int)), (17, .int .i64 ((0 : Nat) : Int))] 30 0) [(576, ⟨86, [], 4⟩)] 896 ⟨.ret, mkF [(2, Value.int IntKind.i64 250)] 30 0, [], 960, []⟩) : CallOK Try.prog 44 [.slice (some ⟨ih, 0, some 2⟩) hs.length 0] [] 0 (.int .i64 250) [] := by
  have k0 : (decide ((↑hs.length : Int) < 1)) = false := (decide_eq_false g1)
  have k1 : (decide ((↑hs.length : Int) > 64)) = false := (decide_eq_false g2)
  exact callOK_keep (call := callB) [] callB_spec mixed (ω := [(256, OV.soft (Value.bool false)), (512, OV.soft (Value.bool false)), (897, OV.loop [3, 15, 16, 17] AX.ret (mkF [(2, Value.int IntKind.i64 250)] 30 0) [] 960)]) (LF := 10) (F := 100) (ps := [decide ((↑hs.length : Int) < 1) = false, decide ((↑hs.length : Int) > 64) = false, LoopOK Try.prog (loopN Try.prog 44 0) (mkF [(3, .map (some 576)), (15, .slice (some ⟨ih, 0, some 2⟩) hs.length 0), (16, .int .i64 (hs.length : Int)), (17, .int .i64 ((0 : Nat) : Int))] 30 0) [(576, ⟨86, [], 4⟩)] 896 ⟨.ret, mkF [(2, Value.int IntKind.i64 250)] 30 0, [], 960, []⟩]) (by kernel_rfl) (ob_cons k0 (ob_cons k1 (ob_cons hL ob_nil)))

theorem hosts_n {ih : Nat} {hs : List ByteArray} (g1 : ¬ (hs.length : Int) < 1) (g2 : ¬ (hs.length : Int) > 64) (hL : LoopOK Try.prog (loopN Try.prog 44 0) (mkF [(3, .map (some 576)), (15, .slice (some ⟨ih, 0, some 2⟩) hs.length 0), (16, .int .i64 (hs.length : Int)), (17, .int .i64 ((0 : Nat) : Int))] 30 0) [(576, ⟨86, [], 4⟩)] 896 ⟨.exit 0, mkF [(15, .slice (some ⟨ih, 0, some 2⟩) hs.length 0)] 30 0, [], 960, []⟩) : CallOK Try.prog 44 [.slice (some ⟨ih, 0, some 2⟩) hs.length 0] [] 0 (.int .i64 0) [] := by
  have k0 : (decide ((↑hs.length : Int) < 1)) = false := (decide_eq_false g1)
  have k1 : (decide ((↑hs.length : Int) > 64)) = false := (decide_eq_false g2)
  exact callOK_keep (call := callB) [] callB_spec mixed (ω := [(256, OV.soft (Value.bool false)), (512, OV.soft (Value.bool false)), (897, OV.loop [3, 15, 16, 17] (AX.exit 0) (mkF [(15, Value.slice (some { block := ih, off := 0, spot := some 2 }) hs.length 0)] 30 0) [] 960)]) (LF := 10) (F := 100) (ps := [decide ((↑hs.length : Int) < 1) = false, decide ((↑hs.length : Int) > 64) = false, LoopOK Try.prog (loopN Try.prog 44 0) (mkF [(3, .map (some 576)), (15, .slice (some ⟨ih, 0, some 2⟩) hs.length 0), (16, .int .i64 (hs.length : Int)), (17, .int .i64 ((0 : Nat) : Int))] 30 0) [(576, ⟨86, [], 4⟩)] 896 ⟨.exit 0, mkF [(15, .slice (some ⟨ih, 0, some 2⟩) hs.length 0)] 30 0, [], 960, []⟩]) (by kernel_rfl) (ob_cons k0 (ob_cons k1 (ob_cons hL ob_nil)))

theorem hosts_a {ih : Nat} {hs : List ByteArray} (g1 : (hs.length : Int) < 1) : CallOK Try.prog 44 [.slice (some ⟨ih, 0, some 2⟩) hs.length 0] [] 0 (.int .i64 250) [] := by
  have k0 : (decide ((↑hs.length : Int) < 1)) = true := (decide_eq_true g1)
  exact callOK_keep (call := callB) [] callB_spec mixed (ω := [(256, OV.soft (Value.bool true))]) (LF := 10) (F := 100) (ps := [decide ((↑hs.length : Int) < 1) = true]) (by kernel_rfl) (ob_cons k0 ob_nil)

theorem hosts_b {ih : Nat} {hs : List ByteArray} (g1 : ¬ (hs.length : Int) < 1) (g2 : (hs.length : Int) > 64) : CallOK Try.prog 44 [.slice (some ⟨ih, 0, some 2⟩) hs.length 0] [] 0 (.int .i64 250) [] := by
  have k0 : (decide ((↑hs.length : Int) < 1)) = false := (decide_eq_false g1)
  have k1 : (decide ((↑hs.length : Int) > 64)) = true := (decide_eq_true g2)
  exact callOK_keep (call := callB) [] callB_spec mixed (ω := [(256, OV.soft (Value.bool false)), (512, OV.soft (Value.bool true))]) (LF := 10) (F := 100) (ps := [decide ((↑hs.length : Int) < 1) = false, decide ((↑hs.length : Int) > 64) = true]) (by kernel_rfl) (ob_cons k0 (ob_cons k1 ob_nil))

theorem hosts_ok {ih : Nat} {hs : List ByteArray} (hA : rg.cells ih = hs.map Value.string) (hz : ∀ h ∈ hs, h.size ≤ 9000000000000) : CallOK Try.prog 44 [.slice (some ⟨ih, 0, some 2⟩) hs.length 0] [] 0 (.int .i64 (hostsE hs)) [] := by
  unfold hostsE
  by_cases g1 : (hs.length : Int) < 1
  · rw [if_pos g1]; exact hosts_a g1
  · rw [if_neg g1]
    by_cases g2 : (hs.length : Int) > 64
    · rw [if_pos g2]; exact hosts_b g1 g2
    · rw [if_neg g2]
      by_cases g3 : ∀ x, x < hs.length → okH hs x
      · rw [if_pos g3]; exact hosts_n g1 g2 (ho_loop0 hA (by omega) hz g3)
      · rw [if_neg g3]
        obtain ⟨x, hx, hb, hok⟩ := first_badP g3
        exact hosts_h g1 g2 (ho_loop1 hA (by omega) hz hx hb hok)
end Go.Proofs.Ytkdalfdfepipiaa
