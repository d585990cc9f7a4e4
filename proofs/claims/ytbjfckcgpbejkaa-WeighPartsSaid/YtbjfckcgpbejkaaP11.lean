/- WeighSums: the law; printed by a program of mine. -/
import Derived.Test.YtbjfckcgpbejkaaP10
import Derived.KernelRfl
namespace Go.Proofs.Ytbjfckcgpbejkaa
open Go.RowKit
set_option linter.unusedSimpArgs false
set_option linter.unusedVariables false
set_option maxRecDepth 100000
set_option linter.unusedSectionVars false
variable [Inhabited RawG]
theorem li_go {ll : LL} {x : Nat} (hl : CLL ll) (hm : ll.length ≤ 9223372036854775807) (hx : x < ll.length) (he : (decide (((ll.getD x []).length : Int) > 80)) = false) : RoundTo Try.prog callW 10 100 (loopN Try.prog 15 0) 128 129 [0, 1, 5] .normal (mkF [(0, .slice none 0 0), (1, .slice (some ⟨1, 0, some 2⟩) ll.length 0), (5, .int .i64 (x : Int))] 26 0) [] (mkF [(0, Value.slice none 0 0), (1, Value.slice (some { block := 1, off := 0, spot := some 2 }) (List.length ll) 0), (5, Value.int IntKind.i64 (↑(x + 1) : Int))] 26 0) [] 129 := by
  have k0 : (decide ((↑x : Int) < (↑(List.length ll) : Int))) = true := (decide_eq_true (by omega))
  have k1 : (decide ((↑(List.getD ll x []).length : Int) > 80)) = false := he
  exact roundTo_of [(321, OV.soft (Value.bool true)), (513, OV.idx x), (577, OV.ld (Value.slice (some { block := 2 + x, off := 0, spot := some 2 }) (List.getD ll x []).length 0)), (705, OV.soft (Value.bool false)), (833, OV.soft (Value.int IntKind.i64 (↑(x + 1) : Int)))] [] (ps := [decide ((↑x : Int) < (↑(List.length ll) : Int)) = true, 0 ≤ (↑x : Int) ∧ (↑x : Int) < (↑(List.length ll) : Int) ∧ (↑x : Int).toNat = x, (rg.cells 1)[0 + x * 1]? = some (Value.slice (some { block := 2 + x, off := 0, spot := some 2 }) (List.getD ll x []).length 0), decide ((↑(List.getD ll x []).length : Int) > 80) = false, IntKind.i64.wrap ((↑x : Int) + 1) = (↑(x + 1) : Int)]) (by kernel_rfl) (ob_cons k0 (ob_cons (by omega) (ob_cons (at_ll hl hx) (ob_cons k1 (ob_cons (up1 (by omega)) ob_nil))))) (by decide)

theorem li_hit {ll : LL} {x : Nat} (hl : CLL ll) (hm : ll.length ≤ 9223372036854775807) (hx : x < ll.length) (he : (decide (((ll.getD x []).length : Int) > 80)) = true) : RoundTo Try.prog callW 10 100 (loopN Try.prog 15 0) 128 129 [4] .ret (mkF [(0, .slice none 0 0), (1, .slice (some ⟨1, 0, some 2⟩) ll.length 0), (5, .int .i64 (x : Int))] 26 0) [] (mkF [(4, Value.bool false)] 26 0) [] 192 := by
  have k0 : (decide ((↑x : Int) < (↑(List.length ll) : Int))) = true := (decide_eq_true (by omega))
  have k1 : (decide ((↑(List.getD ll x []).length : Int) > 80)) = true := he
  exact roundTo_of [(321, OV.soft (Value.bool true)), (513, OV.idx x), (577, OV.ld (Value.slice (some { block := 2 + x, off := 0, spot := some 2 }) (List.getD ll x []).length 0)), (705, OV.soft (Value.bool true))] [] (ps := [decide ((↑x : Int) < (↑(List.length ll) : Int)) = true, 0 ≤ (↑x : Int) ∧ (↑x : Int) < (↑(List.length ll) : Int) ∧ (↑x : Int).toNat = x, (rg.cells 1)[0 + x * 1]? = some (Value.slice (some { block := 2 + x, off := 0, spot := some 2 }) (List.getD ll x []).length 0), decide ((↑(List.getD ll x []).length : Int) > 80) = true]) (by kernel_rfl) (ob_cons k0 (ob_cons (by omega) (ob_cons (at_ll hl hx) (ob_cons k1 ob_nil)))) (by decide)

theorem li_end {ll : LL} {x : Nat} (hl : CLL ll) (hm : ll.length ≤ 9223372036854775807) (hx : x = ll.length) : RoundTo Try.prog callW 10 100 (loopN Try.prog 15 0) 128 129 [0, 1] (.exit 0) (mkF [(0, .slice none 0 0), (1, .slice (some ⟨1, 0, some 2⟩) ll.length 0), (5, .int .i64 (x : Int))] 26 0) [] (mkF [(0, Value.slice none 0 0), (1, Value.slice (some { block := 1, off := 0, spot := some 2 }) (List.length ll) 0)] 26 0) [] 192 := by
  have k0 : (decide ((↑x : Int) < (↑(List.length ll) : Int))) = false := (decide_eq_false (by omega))
  exact roundTo_of [(321, OV.soft (Value.bool false))] [] (ps := [decide ((↑x : Int) < (↑(List.length ll) : Int)) = false]) (by kernel_rfl) (ob_cons k0 ob_nil) (by decide)

theorem li_lhit {ll : LL} {x : Nat} (hl : CLL ll) (hm : ll.length ≤ 9223372036854775807) (_h9 : ll.length ≤ 9223372036854775807) (hx : x < ll.length) (he : (decide (((ll.getD x []).length : Int) > 80)) = true) (hb : ∀ y, y < x → (decide (((ll.getD y []).length : Int) > 80)) = false) : LoopOK Try.prog (loopN Try.prog 15 0) (mkF [(0, .slice none 0 0), (1, .slice (some ⟨1, 0, some 2⟩) ll.length 0), (5, .int .i64 ((0 : Nat) : Int))] 26 0) [] 128 ⟨.ret, mkF [(4, Value.bool false)] 26 0, [], 192, []⟩ := by
  refine loop_ind callW_spec mixed (LF := 10) (F := 100) (nxb := 129) (keys := [0, 1, 5]) (keysE := [4]) x (fun x => mkF [(0, .slice none 0 0), (1, .slice (some ⟨1, 0, some 2⟩) ll.length 0), (5, .int .i64 (x : Int))] 26 0) (fun _ => []) (by decide) (by simp) rfl ?_ ?_ (fun h => by cases h)
  · intro y hy
    exact li_go hl hm (by omega) (hb y hy)
  · exact li_hit hl hm hx he
theorem li_lnone {ll : LL} (hl : CLL ll) (hm : ll.length ≤ 9223372036854775807) (_h9 : ll.length ≤ 9223372036854775807) (hb : ∀ y, y < ll.length → (decide (((ll.getD y []).length : Int) > 80)) = false) : LoopOK Try.prog (loopN Try.prog 15 0) (mkF [(0, .slice none 0 0), (1, .slice (some ⟨1, 0, some 2⟩) ll.length 0), (5, .int .i64 ((0 : Nat) : Int))] 26 0) [] 128 ⟨(.exit 0), mkF [(0, Value.slice none 0 0), (1, Value.slice (some { block := 1, off := 0, spot := some 2 }) (List.length ll) 0)] 26 0, [], 192, []⟩ := by
  refine loop_ind callW_spec mixed (LF := 10) (F := 100) (nxb := 129) (keys := [0, 1, 5]) (keysE := [0, 1]) ll.length (fun x => mkF [(0, .slice none 0 0), (1, .slice (some ⟨1, 0, some 2⟩) ll.length 0), (5, .int .i64 (x : Int))] 26 0) (fun _ => []) (by decide) (by simp) rfl ?_ ?_ (fun h => by cases h)
  · intro y hy
    exact li_go hl hm hy (hb y hy)
  · exact li_end hl hm rfl
def lightL (ll : LL) : Bool := bif (List.range ll.length).any (fun x => decide (((ll.getD x []).length : Int) > 80)) then false else decide ((ll.length : Int) ≤ 60)
theorem li_hitc {ll : LL} {x : Nat} (hl : CLL ll) (hm : ll.length ≤ 9223372036854775807) (hx : x < ll.length) (he : (decide (((ll.getD x []).length : Int) > 80)) = true) (hb : ∀ y, y < x → (decide (((ll.getD y []).length : Int) > 80)) = false) : CallOK Try.prog 15 [.slice none 0 0, .slice (some ⟨1, 0, some 2⟩) ll.length 0] [] 0 (.bool false) [] := by
  exact (callOK_keep (call := callW) [] callW_spec mixed (ω := [(129, OV.loop [0, 1, 5] AX.ret (mkF [(4, Value.bool false)] 26 0) [] 192)]) (LF := 10) (F := 100) (ps := [LoopOK Try.prog (loopN Try.prog 15 0) (mkF [(0, .slice none 0 0), (1, .slice (some ⟨1, 0, some 2⟩) ll.length 0), (5, .int .i64 ((0 : Nat) : Int))] 26 0) [] 128 ⟨.ret, mkF [(4, Value.bool false)] 26 0, [], 192, []⟩]) (by kernel_rfl) (ob_cons (li_lhit hl hm hm hx he hb) ob_nil))

theorem li_nonec {ll : LL} {x : Nat} (hl : CLL ll) (hm : ll.length ≤ 9223372036854775807) (hb : ∀ y, y < ll.length → (decide (((ll.getD y []).length : Int) > 80)) = false) : CallOK Try.prog 15 [.slice none 0 0, .slice (some ⟨1, 0, some 2⟩) ll.length 0] [] 0 (.bool (decide ((ll.length : Int) ≤ 60))) [] := by
  exact (callOK_keep (call := callW) [] callW_spec mixed (ω := [(129, OV.loop [0, 1, 5] (AX.exit 0) (mkF [(0, Value.slice none 0 0), (1, Value.slice (some { block := 1, off := 0, spot := some 2 }) (List.length ll) 0)] 26 0) [] 192)]) (LF := 10) (F := 100) (ps := [LoopOK Try.prog (loopN Try.prog 15 0) (mkF [(0, .slice none 0 0), (1, .slice (some ⟨1, 0, some 2⟩) ll.length 0), (5, .int .i64 ((0 : Nat) : Int))] 26 0) [] 128 ⟨(.exit 0), mkF [(0, Value.slice none 0 0), (1, Value.slice (some { block := 1, off := 0, spot := some 2 }) (List.length ll) 0)] 26 0, [], 192, []⟩]) (by kernel_rfl) (ob_cons (li_lnone hl hm hm hb) ob_nil))

theorem light_ll {ll : LL} (hl : CLL ll) (hm : ll.length ≤ 9223372036854775807) : CallOK Try.prog 15 [.slice none 0 0, .slice (some ⟨1, 0, some 2⟩) ll.length 0] [] 0 (.bool (lightL ll)) [] := by
  rcases first_or (fun x => (decide (((ll.getD x []).length : Int) > 80))) ll.length with ⟨x, hx, he, hb⟩ | hb
  · have h := li_hitc hl hm hx he hb
    unfold lightL; rw [range_any hx he]; exact h
  · have h := li_nonec (x := 0) hl hm hb
    unfold lightL; rw [range_none hb]; exact h
theorem lightL_le {ll : LL} (h : lightL ll = true) : ll.length ≤ 60 ∧ ∀ i, i < ll.length → (ll.getD i []).length ≤ 80 := by
  unfold lightL at h
  cases hr : (List.range ll.length).any (fun x => (decide (((ll.getD x []).length : Int) > 80))) with
  | true => rw [hr] at h; cases h
  | false =>
    rw [hr] at h
    have h1 : decide ((ll.length : Int) ≤ 60) = true := h
    have h2 := of_decide_eq_true h1
    refine ⟨by omega, fun i hi => ?_⟩
    rw [List.any_eq_false] at hr
    have h3 := hr i (List.mem_range.2 hi)
    simp only [decide_eq_true_eq] at h3
    omega
theorem ws_all {us : List U8} {ll : LL} {ws : List Nat} {n : Nat} (hl : CLL ll) (hm : ll.length ≤ 9223372036854775807) (hlt : lightL ll = true) (c10 : CallOK Try.prog 10 [Value.slice (some { block := 0, off := 0 }) n n] [(0, { elem := 25, cells := List.map (fun e => Value.float FloatKind.f64 e) ws, mode := 3 })] 1 (Value.tuple #[Value.pointer (some { block := 1, off := 0 }), Value.int IntKind.i64 0]) [(0, { elem := 25, cells := List.map (fun e => Value.float FloatKind.f64 e) ws, mode := 3 }), (2, { elem := 25, cells := List.map (fun e => Value.float FloatKind.f64 e) ws, mode := 3 }), (3, { elem := 25, cells := List.map (fun e => Value.float FloatKind.f64 e) (List.replicate n 0), mode := 3 }), (1, { elem := 57, cells := [Value.slice (some { block := 2, off := 0 }) n n, Value.slice (some { block := 3, off := 0 }) n n], mode := 0 })]) (hL0 : LoopOK Try.prog (loopN Try.prog 4 0) (mkF [(0, .slice (some ⟨0, 0, some 2⟩) us.length 0), (1, .slice (some ⟨1, 0, some 2⟩) ll.length 0), (5, .slice none 0 0), (6, .int .i64 (0 : Int))] 189 0) [] 1152 ⟨.exit 0, mkF [(0, .slice (some ⟨0, 0, some 2⟩) us.length 0), (1, .slice (some ⟨1, 0, some 2⟩) ll.length 0), (5, .slice (some ⟨1152, 0, none⟩) n n)] 189 0, [(1152, ⟨25, ws.map fun e : Nat => Value.float .f64 e, 3⟩)], 1216, []⟩) (hL1 : LoopOK Try.prog (loopN Try.prog 4 1) (mkF [(1, .slice (some ⟨1, 0, some 2⟩) ll.length 0), (5, .slice (some ⟨1152, 0, none⟩) n n), (7, .pointer (some ⟨1280, 0, none⟩)), (9, .int .i64 ((0 : Nat) : Int))] 189 0) [(1152, ⟨25, ws.map fun e : Nat => Value.float .f64 e, 3⟩), (1280, ⟨57, [.slice (some ⟨1281, 0, none⟩) n n, .slice (some ⟨1282, 0, none⟩) n n], 0⟩), (1282, ⟨25, ((List.replicate n (0 : Nat))).map fun e : Nat => Value.float .f64 e, 3⟩), (1281, ⟨25, ws.map fun e : Nat => Value.float .f64 e, 3⟩)] 2112 ⟨.exit 2, mkF [(1, .slice (some ⟨1, 0, some 2⟩) ll.length 0)] 189 0, [], 2176, []⟩) : LawOK Try.prog callW 10 100 4 [.slice (some ⟨0, 0, some 2⟩) us.length 0, .slice (some ⟨1, 0, some 2⟩) ll.length 0] [] 0 := by
  rcases Bool.eq_false_or_eq_true (decide ((↑us.length : Int) > 12)) with h0 | h0
  · exact ⟨[(384, OV.soft (Value.bool true))], [decide ((↑us.length : Int) > 12) = true], by kernel_rfl, (ob_cons h0 ob_nil)⟩
  · rcases Bool.eq_false_or_eq_true ((↑us.length : Int) == 0) with h1 | h1
    · exact ⟨[(384, OV.soft (Value.bool false)), (704, OV.soft (Value.bool true))], [decide ((↑us.length : Int) > 12) = false, ((↑us.length : Int) == 0) = true], by kernel_rfl, (ob_cons h0 (ob_cons h1 ob_nil))⟩
    · exact ⟨[(384, OV.soft (Value.bool false)), (704, OV.soft (Value.bool false)), (832, OV.call (Value.bool true) []), (1153, OV.loop [0, 1, 5, 6] (AX.exit 0) (mkF [(0, Value.slice (some { block := 0, off := 0, spot := some 2 }) us.length 0), (1, Value.slice (some { block := 1, off := 0, spot := some 2 }) (List.length ll) 0), (5, Value.slice (some { block := 1152, off := 0 }) n n)] 189 0) [(1152, { elem := 25, cells := List.map (fun e => Value.float FloatKind.f64 e) ws, mode := 3 })] 1216), (1280, OV.call (Value.tuple #[Value.pointer (some { block := 1, off := 0 }), Value.int IntKind.i64 0]) [(0, { elem := 25, cells := List.map (fun e => Value.float FloatKind.f64 e) ws, mode := 3 }), (2, { elem := 25, cells := List.map (fun e => Value.float FloatKind.f64 e) ws, mode := 3 }), (3, { elem := 25, cells := List.map (fun e => Value.float FloatKind.f64 e) (List.replicate n 0), mode := 3 }), (1, { elem := 57, cells := [Value.slice (some { block := 2, off := 0 }) n n, Value.slice (some { block := 3, off := 0 }) n n], mode := 0 })]), (2113, OV.loop [1, 5, 7, 9] (AX.exit 2) (mkF [(1, Value.slice (some { block := 1, off := 0, spot := some 2 }) (List.length ll) 0)] 189 0) [] 2176)], [decide ((↑us.length : Int) > 12) = false, ((↑us.length : Int) == 0) = false, CallOK Try.prog 15 [Value.slice none 0 0, Value.slice (some { block := 1, off := 0, spot := some 2 }) (List.length ll) 0] [] 0 (Value.bool true) [], LoopOK Try.prog (loopN Try.prog 4 0) (mkF [(0, .slice (some ⟨0, 0, some 2⟩) us.length 0), (1, .slice (some ⟨1, 0, some 2⟩) ll.length 0), (5, .slice none 0 0), (6, .int .i64 (0 : Int))] 189 0) [] 1152 ⟨.exit 0, mkF [(0, .slice (some ⟨0, 0, some 2⟩) us.length 0), (1, .slice (some ⟨1, 0, some 2⟩) ll.length 0), (5, .slice (some ⟨1152, 0, none⟩) n n)] 189 0, [(1152, ⟨25, ws.map fun e : Nat => Value.float .f64 e, 3⟩)], 1216, []⟩, CallOK Try.prog 10 [Value.slice (some { block := 0, off := 0 }) n n] [(0, { elem := 25, cells := List.map (fun e => Value.float FloatKind.f64 e) ws, mode := 3 })] 1 (Value.tuple #[Value.pointer (some { block := 1, off := 0 }), Value.int IntKind.i64 0]) [(0, { elem := 25, cells := List.map (fun e => Value.float FloatKind.f64 e) ws, mode := 3 }), (2, { elem := 25, cells := List.map (fun e => Value.float FloatKind.f64 e) ws, mode := 3 }), (3, { elem := 25, cells := List.map (fun e => Value.float FloatKind.f64 e) (List.replicate n 0), mode := 3 }), (1, { elem := 57, cells := [Value.slice (some { block := 2, off := 0 }) n n, Value.slice (some { block := 3, off := 0 }) n n], mode := 0 })], LoopOK Try.prog (loopN Try.prog 4 1) (mkF [(1, .slice (some ⟨1, 0, some 2⟩) ll.length 0), (5, .slice (some ⟨1152, 0, none⟩) n n), (7, .pointer (some ⟨1280, 0, none⟩)), (9, .int .i64 ((0 : Nat) : Int))] 189 0) [(1152, ⟨25, ws.map fun e : Nat => Value.float .f64 e, 3⟩), (1280, ⟨57, [.slice (some ⟨1281, 0, none⟩) n n, .slice (some ⟨1282, 0, none⟩) n n], 0⟩), (1282, ⟨25, ((List.replicate n (0 : Nat))).map fun e : Nat => Value.float .f64 e, 3⟩), (1281, ⟨25, ws.map fun e : Nat => Value.float .f64 e, 3⟩)] 2112 ⟨.exit 2, mkF [(1, .slice (some ⟨1, 0, some 2⟩) ll.length 0)] 189 0, [], 2176, []⟩], by kernel_rfl, (ob_cons h0 (ob_cons h1 (ob_cons (by have h := light_ll hl hm; rw [hlt] at h; exact h) (ob_cons hL0 (ob_cons c10 (ob_cons hL1 ob_nil))))))⟩

theorem ws_dark {us : List U8} {ll : LL} (hl : CLL ll) (hm : ll.length ≤ 9223372036854775807) (hlt : lightL ll = false) : LawOK Try.prog callW 10 100 4 [.slice (some ⟨0, 0, some 2⟩) us.length 0, .slice (some ⟨1, 0, some 2⟩) ll.length 0] [] 0 := by
  rcases Bool.eq_false_or_eq_true (decide ((↑us.length : Int) > 12)) with h0 | h0
  · exact ⟨[(384, OV.soft (Value.bool true))], [decide ((↑us.length : Int) > 12) = true], by kernel_rfl, (ob_cons h0 ob_nil)⟩
  · rcases Bool.eq_false_or_eq_true ((↑us.length : Int) == 0) with h1 | h1
    · exact ⟨[(384, OV.soft (Value.bool false)), (704, OV.soft (Value.bool true))], [decide ((↑us.length : Int) > 12) = false, ((↑us.length : Int) == 0) = true], by kernel_rfl, (ob_cons h0 (ob_cons h1 ob_nil))⟩
    · exact ⟨[(384, OV.soft (Value.bool false)), (704, OV.soft (Value.bool false)), (832, OV.call (Value.bool false) [])], [decide ((↑us.length : Int) > 12) = false, ((↑us.length : Int) == 0) = false, CallOK Try.prog 15 [Value.slice none 0 0, Value.slice (some { block := 1, off := 0, spot := some 2 }) (List.length ll) 0] [] 0 (Value.bool false) []], by kernel_rfl, (ob_cons h0 (ob_cons h1 (ob_cons (by have h := light_ll hl hm; rw [hlt] at h; exact h) ob_nil)))⟩

theorem ws_big {us : List U8} {ll : LL} (hl : CLL ll) (hm : ll.length ≤ 9223372036854775807) (hlt : lightL ll = true) (hbig : ¬ (us.length ≤ 12 ∧ 0 < us.length)) : LawOK Try.prog callW 10 100 4 [.slice (some ⟨0, 0, some 2⟩) us.length 0, .slice (some ⟨1, 0, some 2⟩) ll.length 0] [] 0 := by
  rcases Bool.eq_false_or_eq_true (decide ((↑us.length : Int) > 12)) with h0 | h0
  · exact ⟨[(384, OV.soft (Value.bool true))], [decide ((↑us.length : Int) > 12) = true], by kernel_rfl, (ob_cons h0 ob_nil)⟩
  · rcases Bool.eq_false_or_eq_true ((↑us.length : Int) == 0) with h1 | h1
    · exact ⟨[(384, OV.soft (Value.bool false)), (704, OV.soft (Value.bool true))], [decide ((↑us.length : Int) > 12) = false, ((↑us.length : Int) == 0) = true], by kernel_rfl, (ob_cons h0 (ob_cons h1 ob_nil))⟩
    · exact absurd ⟨by have := of_decide_eq_false h0; omega, by have := h1; rw [beq_eq_false_iff_ne] at this; omega⟩ hbig

theorem wt_getD (us : List U8) (j : Nat) : 0 ≤ (us.map wtI).getD j 0 ∧ (us.map wtI).getD j 0 ≤ 40 := by
  by_cases h : j < us.length
  · rw [List.getD_eq_getElem?_getD, List.getElem?_map, List.getElem?_eq_getElem h]
    have := wtI_rng us[j]
    simp only [Option.map_some, Option.getD_some]; omega
  · rw [List.getD_eq_getElem?_getD, List.getElem?_eq_none (by simp; omega)]
    simp
theorem wtL_enc (us : List U8) : wtL us = (us.map wtI).map encI := by
  unfold wtL
  rw [List.map_map]
  exact List.map_congr_left fun u _ => wtF_enc u
theorem wtL_check (us : List U8) : ∀ y, y < (wtL us).length → (checkW ((wtL us).getD y 0) != 0) = false := by
  intro y hy
  rw [wtL_len] at hy
  have e : (wtL us).getD y 0 = encI (wtI (us.getD y default)) := by
    unfold wtL
    rw [List.getD_eq_getElem?_getD, List.getElem?_map, List.getElem?_eq_getElem hy, List.getD_eq_getElem?_getD, List.getElem?_eq_getElem hy]
    exact wtF_enc _
  have hr := wtI_rng (us.getD y default)
  rw [e]
  obtain ⟨m, hm⟩ : ∃ m : Nat, wtI (us.getD y default) = (m : Int) := ⟨(wtI (us.getD y default)).toNat, by omega⟩
  rw [hm, check_enc m (by omega) (by omega)]
  rfl
theorem law_any (us : List U8) (ll : LL) (hu : CU us) (hl : CLL ll) (hm : ll.length ≤ 9223372036854775807) : LawOK Try.prog callW 10 100 4 [.slice (some ⟨0, 0, some 2⟩) us.length 0, .slice (some ⟨1, 0, some 2⟩) ll.length 0] [] 0 := by
  cases hlt : lightL ll with
  | false => exact ws_dark hl hm hlt
  | true =>
    by_cases hbig : us.length ≤ 12 ∧ 0 < us.length
    · obtain ⟨h12, hp⟩ := hbig
      obtain ⟨h60, h80⟩ := lightL_le hlt
      have hL0 := sl_loop (ll := ll) hu (by omega)
      have hne : wtL us ≠ [] := fun h => by have := wtL_len (us := us); rw [h] at this; simp at this; omega
      have c10 := new_ok (ws := wtL us) (by rw [wtL_len]; exact hp) (by rw [wtL_len]; omega) (wtL_check us)
      have hL1 := so_loop (ns := us.map wtI) hl (n := us.length) (by simp) (wt_getD us) hp (by omega) h60 h80
      have e0 : (gTs (us.map wtI) ll us.length 0).map encI = List.replicate us.length (0 : Nat) := by
        simp only [gTs, List.map_replicate, enc_zero]
      rw [e0, ← wtL_enc] at hL1
      rw [rowV_pos hne, rowH_pos hne, wtL_len] at hL0
      rw [wtL_len] at c10
      exact ws_all hl hm hlt c10 hL0 hL1
    · exact ws_big hl hm hlt hbig
end Go.Proofs.Ytbjfckcgpbejkaa
