/- Pool: the hosts of all pools, each once; printed by a program of mine. -/
import Derived.Test.YtkdalfdfepipiaaP7
import Derived.KernelRfl
namespace Go.Proofs.Ytkdalfdfepipiaa
open Go.RowKit
set_option linter.unusedSimpArgs false
set_option linter.unusedVariables false
set_option linter.unusedSectionVars false
set_option maxRecDepth 100000
variable [Inhabited RawG]
/-- A pool, with the numbers of its rows. -/
structure PoolT where
  nm : ByteArray
  ih : Nat
  hs : List ByteArray
  ib : Nat
  bk : List (ByteArray × Nat)
  po : Int
  b1 : Int
  b2 : Int
  b3 : Int
  b4 : Int
  e1 : Int
  e2 : Int
  e3 : Int
  e4 : Int
  p1 : Int
  p2 : Int
  p3 : Int
  p4 : Int
instance : Inhabited PoolT := ⟨⟨default, 0, [], 0, [], 0, 0, 0, 0, 0, 0, 0, 0, 0, 0, 0, 0, 0⟩⟩
abbrev poolF : PoolT → List Value := fun p => [.string p.nm, .slice (some ⟨p.ih, 0, some 2⟩) p.hs.length 0, .slice (some ⟨p.ib, 0, some 2⟩) p.bk.length 0, .int .i64 p.po, .int .i64 p.b1, .int .i64 p.b2, .int .i64 p.b3, .int .i64 p.b4, .int .i64 p.e1, .int .i64 p.e2, .int .i64 p.e3, .int .i64 p.e4, .int .i64 p.p1, .int .i64 p.p2, .int .i64 p.p3, .int .i64 p.p4]
theorem ix_go {ih : Nat} {hs : List ByteArray} {x j : Nat} {l : List (ByteArray × Int)} (hA : rg.cells ih = hs.map Value.string) (h64 : hs.length ≤ 9000000000000) (hx : x < hs.length) (hf : fndV (hs.getD x default) l = none) : RoundTo Try.prog callC 10 100 (loopN Try.prog 62 0) 257 258 [0, 1, 7, 8] .normal (mkF [(0, .slice (some ⟨ih, 0, some 2⟩) hs.length 0), (1, .func (.func 45) #[.map (some 0)] #[]), (7, .int .i64 (hs.length : Int)), (8, .int .i64 (x : Int))] 19 0) [(0, ⟨86, mapV l, 4⟩)] (mkF [(0, Value.slice (some { block := ih, off := 0, spot := some 2 }) hs.length 0), (1, Value.func (Fn.func 45) #[Value.map (some 0)] #[]), (7, Value.int IntKind.i64 (↑hs.length : Int)), (8, Value.int IntKind.i64 (↑(x + 1) : Int))] 19 0) [(0, ⟨86, mapV (l ++ [(hs.getD x default, 1)]), 4⟩)] 258 := by
  have k0 : (decide ((↑x : Int) < (↑hs.length : Int))) = true := (decide_eq_true (by omega))
  exact roundTo_of [(258, OV.soft (Value.bool true)), (642, OV.idx x), (706, OV.ld (Value.string (hs.getD x default))), (770, OV.call (Value.bool false) [(0, ⟨86, mapV (l ++ [(hs.getD x default, 1)]), 4⟩)]), (834, OV.soft (Value.int IntKind.i64 (↑(x + 1) : Int)))] [] (ps := [decide ((↑x : Int) < (↑hs.length : Int)) = true, 0 ≤ (↑x : Int) ∧ (↑x : Int) < (↑hs.length : Int) ∧ (↑x : Int).toNat = x, (rg.cells ih)[0 + x * 1]? = some (Value.string (hs.getD x default)), CallOK Try.prog 45 [Value.map (some 0), Value.string (hs.getD x default)] [(0, ⟨86, mapV l, 4⟩)] 1 (Value.bool false) [(0, ⟨86, mapV (l ++ [(hs.getD x default, 1)]), 4⟩)], IntKind.i64.wrap ((↑x : Int) + 1) = (↑(x + 1) : Int)]) (by kernel_rfl) (ob_cons k0 (ob_cons (by omega) (ob_cons (raw_str hA hx) (ob_cons (again_new (j := 0) hf) (ob_cons (up1 (by omega)) ob_nil))))) (by decide)

theorem ix_hit {ih : Nat} {hs : List ByteArray} {x j : Nat} {l : List (ByteArray × Int)} (hA : rg.cells ih = hs.map Value.string) (h64 : hs.length ≤ 9000000000000) (hx : x < hs.length) (hf : fndV (hs.getD x default) l = some (j, 1)) : RoundTo Try.prog callC 10 100 (loopN Try.prog 62 0) 257 258 [1, 4] .ret (mkF [(0, .slice (some ⟨ih, 0, some 2⟩) hs.length 0), (1, .func (.func 45) #[.map (some 0)] #[]), (7, .int .i64 (hs.length : Int)), (8, .int .i64 (x : Int))] 19 0) [(0, ⟨86, mapV l, 4⟩)] (mkF [(1, Value.func (Fn.func 45) #[Value.map (some 0)] #[]), (4, Value.int IntKind.i64 (↑x : Int))] 19 0) [(0, ⟨86, mapV (l.set j (hs.getD x default, 2)), 4⟩)] 321 := by
  have k0 : (decide ((↑x : Int) < (↑hs.length : Int))) = true := (decide_eq_true (by omega))
  exact roundTo_of [(258, OV.soft (Value.bool true)), (642, OV.idx x), (706, OV.ld (Value.string (hs.getD x default))), (770, OV.call (Value.bool true) [(0, ⟨86, mapV (l.set j (hs.getD x default, 2)), 4⟩)])] [] (ps := [decide ((↑x : Int) < (↑hs.length : Int)) = true, 0 ≤ (↑x : Int) ∧ (↑x : Int) < (↑hs.length : Int) ∧ (↑x : Int).toNat = x, (rg.cells ih)[0 + x * 1]? = some (Value.string (hs.getD x default)), CallOK Try.prog 45 [Value.map (some 0), Value.string (hs.getD x default)] [(0, ⟨86, mapV l, 4⟩)] 1 (Value.bool true) [(0, ⟨86, mapV (l.set j (hs.getD x default, 2)), 4⟩)]]) (by kernel_rfl) (ob_cons k0 (ob_cons (by omega) (ob_cons (raw_str hA hx) (ob_cons (again_old hf) ob_nil)))) (by decide)

theorem ix_end {ih : Nat} {hs : List ByteArray} {x j : Nat} {l : List (ByteArray × Int)} (hx : x = hs.length) : RoundTo Try.prog callC 10 100 (loopN Try.prog 62 0) 257 258 [1] (.exit 0) (mkF [(0, .slice (some ⟨ih, 0, some 2⟩) hs.length 0), (1, .func (.func 45) #[.map (some 0)] #[]), (7, .int .i64 (hs.length : Int)), (8, .int .i64 (x : Int))] 19 0) [(0, ⟨86, mapV l, 4⟩)] (mkF [(1, Value.func (Fn.func 45) #[Value.map (some 0)] #[])] 19 0) [(0, ⟨86, mapV l, 4⟩)] 321 := by
  have k0 : (decide ((↑x : Int) < (↑hs.length : Int))) = false := (decide_eq_false (by omega))
  exact roundTo_of [(258, OV.soft (Value.bool false))] [] (ps := [decide ((↑x : Int) < (↑hs.length : Int)) = false]) (by kernel_rfl) (ob_cons k0 ob_nil) (by decide)

/-- Is a host new, behind those before it? -/
def newH (L hs : List ByteArray) (x : Nat) : Prop := (hs.getD x default) ∉ L ++ hs.take x
theorem take_up {hs : List ByteArray} {x : Nat} (hx : x < hs.length) : hs.take (x + 1) = hs.take x ++ [(hs.getD x default)] := by rw [List.take_add_one, List.getElem?_eq_getElem hx, List.getD_eq_getElem?_getD, List.getElem?_eq_getElem hx]; rfl
theorem ix_step {ih : Nat} {L hs : List ByteArray} {x : Nat} (hA : rg.cells ih = hs.map Value.string) (h64 : hs.length ≤ 9000000000000) (hx : x < hs.length) (hok : newH L hs x) : RoundTo Try.prog callC 10 100 (loopN Try.prog 62 0) 257 258 [0, 1, 7, 8] .normal (mkF [(0, .slice (some ⟨ih, 0, some 2⟩) hs.length 0), (1, .func (.func 45) #[.map (some 0)] #[]), (7, .int .i64 (hs.length : Int)), (8, .int .i64 (x : Int))] 19 0) [(0, ⟨86, mapV (onceV (L ++ hs.take x)), 4⟩)] (mkF [(0, .slice (some ⟨ih, 0, some 2⟩) hs.length 0), (1, .func (.func 45) #[.map (some 0)] #[]), (7, .int .i64 (hs.length : Int)), (8, .int .i64 ((x + 1 : Nat) : Int))] 19 0) [(0, ⟨86, mapV (onceV (L ++ hs.take (x + 1))), 4⟩)] 258 := by
  rw [take_up hx, ← List.append_assoc, once_snoc]
  exact ix_go (j := 0) hA h64 hx (once_none hok)
theorem ix_loopX {ih : Nat} {L hs : List ByteArray} (hA : rg.cells ih = hs.map Value.string) (h64 : hs.length ≤ 9000000000000) (hok : ∀ x, x < hs.length → newH L hs x) : LoopOK Try.prog (loopN Try.prog 62 0) (mkF [(0, .slice (some ⟨ih, 0, some 2⟩) hs.length 0), (1, .func (.func 45) #[.map (some 0)] #[]), (7, .int .i64 (hs.length : Int)), (8, .int .i64 ((0 : Nat) : Int))] 19 0) [(0, ⟨86, mapV (onceV L), 4⟩)] 257 ⟨.exit 0, mkF [(1, .func (.func 45) #[.map (some 0)] #[])] 19 0, [(0, ⟨86, mapV (onceV (L ++ hs)), 4⟩)], 321, []⟩ := by
  have h9 := loop_ind callC_spec mixed (LF := 10) (F := 100) (x := loopN Try.prog 62 0) (nx0 := 257) (o := ⟨.exit 0, mkF [(1, .func (.func 45) #[.map (some 0)] #[])] 19 0, [(0, ⟨86, mapV (onceV (L ++ hs.take hs.length)), 4⟩)], 321, []⟩) (nxb := 258) (keys := [0, 1, 7, 8]) (keysE := [1]) hs.length (fun x => mkF [(0, .slice (some ⟨ih, 0, some 2⟩) hs.length 0), (1, .func (.func 45) #[.map (some 0)] #[]), (7, .int .i64 (hs.length : Int)), (8, .int .i64 (x : Int))] 19 0) (fun x => [(0, ⟨86, mapV (onceV (L ++ hs.take x)), 4⟩)]) (by decide) (by simp) rfl (fun x hx => ix_step hA h64 hx (hok x hx)) (ix_end (j := 0) rfl) (fun h => by cases h)
  rw [List.take_length, List.take_zero, List.append_nil] at h9
  exact h9
theorem ix_loopH {ih : Nat} {L hs : List ByteArray} {x j : Nat} (hA : rg.cells ih = hs.map Value.string) (h64 : hs.length ≤ 9000000000000) (hx : x < hs.length) (hj : fndV (hs.getD x default) (onceV (L ++ hs.take x)) = some (j, 1)) (hok : ∀ y, y < x → newH L hs y) : LoopOK Try.prog (loopN Try.prog 62 0) (mkF [(0, .slice (some ⟨ih, 0, some 2⟩) hs.length 0), (1, .func (.func 45) #[.map (some 0)] #[]), (7, .int .i64 (hs.length : Int)), (8, .int .i64 ((0 : Nat) : Int))] 19 0) [(0, ⟨86, mapV (onceV L), 4⟩)] 257 ⟨.ret, mkF [(1, .func (.func 45) #[.map (some 0)] #[]), (4, .int .i64 (x : Int))] 19 0, [(0, ⟨86, mapV ((onceV (L ++ hs.take x)).set j ((hs.getD x default), 2)), 4⟩)], 321, []⟩ := by
  have h9 := loop_ind callC_spec mixed (LF := 10) (F := 100) (x := loopN Try.prog 62 0) (nx0 := 257) (o := ⟨.ret, mkF [(1, .func (.func 45) #[.map (some 0)] #[]), (4, .int .i64 (x : Int))] 19 0, [(0, ⟨86, mapV ((onceV (L ++ hs.take x)).set j ((hs.getD x default), 2)), 4⟩)], 321, []⟩) (nxb := 258) (keys := [0, 1, 7, 8]) (keysE := [1, 4]) x (fun x => mkF [(0, .slice (some ⟨ih, 0, some 2⟩) hs.length 0), (1, .func (.func 45) #[.map (some 0)] #[]), (7, .int .i64 (hs.length : Int)), (8, .int .i64 (x : Int))] 19 0) (fun x => [(0, ⟨86, mapV (onceV (L ++ hs.take x)), 4⟩)]) (by decide) (by simp) rfl (fun y hy => ix_step hA h64 (by omega) (hok y hy)) (ix_hit hA h64 hx hj) (fun h => by cases h)
  rw [List.take_zero, List.append_nil] at h9
  exact h9
theorem idxf_n {ih : Nat} {L hs : List ByteArray} {x j : Nat} (hL : LoopOK Try.prog (loopN Try.prog 62 0) (mkF [(0, .slice (some ⟨ih, 0, some 2⟩) hs.length 0), (1, .func (.func 45) #[.map (some 0)] #[]), (7, .int .i64 (hs.length : Int)), (8, .int .i64 ((0 : Nat) : Int))] 19 0) [(0, ⟨86, mapV (onceV L), 4⟩)] 257 ⟨.exit 0, mkF [(1, .func (.func 45) #[.map (some 0)] #[])] 19 0, [(0, ⟨86, mapV (onceV (L ++ hs)), 4⟩)], 321, []⟩) : CallOK Try.prog 62 [.slice (some ⟨ih, 0, some 2⟩) hs.length 0, .func (.func 45) #[.map (some 0)] #[]] [(0, ⟨86, mapV (onceV L), 4⟩)] 1 (.int .i64 (-1)) [(0, ⟨86, mapV (onceV (L ++ hs)), 4⟩)] := by
  exact callOK_keep (call := callC) [0] callC_spec mixed (ω := [(258, OV.loop [0, 1, 7, 8] (AX.exit 0) (mkF [(1, Value.func (Fn.func 45) #[Value.map (some 0)] #[])] 19 0) [(0, ⟨86, mapV (onceV (L ++ hs)), 4⟩)] 321)]) (LF := 10) (F := 100) (ps := [LoopOK Try.prog (loopN Try.prog 62 0) (mkF [(0, .slice (some ⟨ih, 0, some 2⟩) hs.length 0), (1, .func (.func 45) #[.map (some 0)] #[]), (7, .int .i64 (hs.length : Int)), (8, .int .i64 ((0 : Nat) : Int))] 19 0) [(0, ⟨86, mapV (onceV L), 4⟩)] 257 ⟨.exit 0, mkF [(1, .func (.func 45) #[.map (some 0)] #[])] 19 0, [(0, ⟨86, mapV (onceV (L ++ hs)), 4⟩)], 321, []⟩]) (by kernel_rfl) (ob_cons hL ob_nil)

theorem confb_n {ih : Nat} {L hs : List ByteArray} {x j : Nat} (hL : LoopOK Try.prog (loopN Try.prog 62 0) (mkF [(0, .slice (some ⟨ih, 0, some 2⟩) hs.length 0), (1, .func (.func 45) #[.map (some 0)] #[]), (7, .int .i64 (hs.length : Int)), (8, .int .i64 ((0 : Nat) : Int))] 19 0) [(0, ⟨86, mapV (onceV L), 4⟩)] 257 ⟨.exit 0, mkF [(1, .func (.func 45) #[.map (some 0)] #[])] 19 0, [(0, ⟨86, mapV (onceV (L ++ hs)), 4⟩)], 321, []⟩) : CallOK Try.prog 49 [.slice (some ⟨ih, 0, some 2⟩) hs.length 0, .func (.func 45) #[.map (some 0)] #[]] [(0, ⟨86, mapV (onceV L), 4⟩)] 1 (.bool false) [(0, ⟨86, mapV (onceV (L ++ hs)), 4⟩)] := by
  exact callOK_keep (call := callC) [0] callC_spec mixed (ω := [(193, OV.call (Value.int IntKind.i64 (-1)) [(0, ⟨86, mapV (onceV (L ++ hs)), 4⟩)])]) (LF := 10) (F := 100) (ps := [CallOK Try.prog 62 [Value.slice (some { block := ih, off := 0, spot := some 2 }) hs.length 0, Value.func (Fn.func 45) #[Value.map (some 0)] #[]] [(0, ⟨86, mapV (onceV L), 4⟩)] 1 (Value.int IntKind.i64 (-1)) [(0, ⟨86, mapV (onceV (L ++ hs)), 4⟩)]]) (by kernel_rfl) (ob_cons (idxf_n (x := x) (j := j) hL) ob_nil)

theorem idxf_s {ih : Nat} {L hs : List ByteArray} {x j : Nat} (hL : LoopOK Try.prog (loopN Try.prog 62 0) (mkF [(0, .slice (some ⟨ih, 0, some 2⟩) hs.length 0), (1, .func (.func 45) #[.map (some 0)] #[]), (7, .int .i64 (hs.length : Int)), (8, .int .i64 ((0 : Nat) : Int))] 19 0) [(0, ⟨86, mapV (onceV L), 4⟩)] 257 ⟨.ret, mkF [(1, .func (.func 45) #[.map (some 0)] #[]), (4, .int .i64 (x : Int))] 19 0, [(0, ⟨86, mapV ((onceV (L ++ hs.take x)).set j ((hs.getD x default), 2)), 4⟩)], 321, []⟩) : CallOK Try.prog 62 [.slice (some ⟨ih, 0, some 2⟩) hs.length 0, .func (.func 45) #[.map (some 0)] #[]] [(0, ⟨86, mapV (onceV L), 4⟩)] 1 (.int .i64 (x : Int)) [(0, ⟨86, mapV ((onceV (L ++ hs.take x)).set j ((hs.getD x default), 2)), 4⟩)] := by
  exact callOK_keep (call := callC) [0] callC_spec mixed (ω := [(258, OV.loop [0, 1, 7, 8] AX.ret (mkF [(1, Value.func (Fn.func 45) #[Value.map (some 0)] #[]), (4, Value.int IntKind.i64 (↑x : Int))] 19 0) [(0, ⟨86, mapV ((onceV (L ++ List.take x hs)).set j (hs.getD x default, 2)), 4⟩)] 321)]) (LF := 10) (F := 100) (ps := [LoopOK Try.prog (loopN Try.prog 62 0) (mkF [(0, .slice (some ⟨ih, 0, some 2⟩) hs.length 0), (1, .func (.func 45) #[.map (some 0)] #[]), (7, .int .i64 (hs.length : Int)), (8, .int .i64 ((0 : Nat) : Int))] 19 0) [(0, ⟨86, mapV (onceV L), 4⟩)] 257 ⟨.ret, mkF [(1, .func (.func 45) #[.map (some 0)] #[]), (4, .int .i64 (x : Int))] 19 0, [(0, ⟨86, mapV ((onceV (L ++ hs.take x)).set j ((hs.getD x default), 2)), 4⟩)], 321, []⟩]) (by kernel_rfl) (ob_cons hL ob_nil)

theorem confb_s {ih : Nat} {L hs : List ByteArray} {x j : Nat} (hL : LoopOK Try.prog (loopN Try.prog 62 0) (mkF [(0, .slice (some ⟨ih, 0, some 2⟩) hs.length 0), (1, .func (.func 45) #[.map (some 0)] #[]), (7, .int .i64 (hs.length : Int)), (8, .int .i64 ((0 : Nat) : Int))] 19 0) [(0, ⟨86, mapV (onceV L), 4⟩)] 257 ⟨.ret, mkF [(1, .func (.func 45) #[.map (some 0)] #[]), (4, .int .i64 (x : Int))] 19 0, [(0, ⟨86, mapV ((onceV (L ++ hs.take x)).set j ((hs.getD x default), 2)), 4⟩)], 321, []⟩) : CallOK Try.prog 49 [.slice (some ⟨ih, 0, some 2⟩) hs.length 0, .func (.func 45) #[.map (some 0)] #[]] [(0, ⟨86, mapV (onceV L), 4⟩)] 1 (.bool true) [(0, ⟨86, mapV ((onceV (L ++ hs.take x)).set j ((hs.getD x default), 2)), 4⟩)] := by
  have hv : (.bool true) = Value.bool true := by simp [id]
  rw [hv]
  exact callOK_keep (call := callC) [0] callC_spec mixed (ω := [(193, OV.call (Value.int IntKind.i64 (↑x : Int)) [(0, ⟨86, mapV ((onceV (L ++ List.take x hs)).set j (hs.getD x default, 2)), 4⟩)])]) (LF := 10) (F := 100) (ps := [CallOK Try.prog 62 [Value.slice (some { block := ih, off := 0, spot := some 2 }) hs.length 0, Value.func (Fn.func 45) #[Value.map (some 0)] #[]] [(0, ⟨86, mapV (onceV L), 4⟩)] 1 (Value.int IntKind.i64 (↑x : Int)) [(0, ⟨86, mapV ((onceV (L ++ List.take x hs)).set j (hs.getD x default, 2)), 4⟩)]]) (by kernel_rfl) (ob_cons (idxf_s hL) ob_nil)

end Go.Proofs.Ytkdalfdfepipiaa
