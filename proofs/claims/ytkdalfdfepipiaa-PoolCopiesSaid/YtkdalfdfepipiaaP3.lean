/- Pool: every byte; printed by a program of mine. -/
import Derived.Test.YtkdalfdfepipiaaP2
import Derived.KernelRfl
namespace Go.Proofs.Ytkdalfdfepipiaa
open Go.RowKit
set_option linter.unusedSimpArgs false
set_option linter.unusedVariables false
set_option linter.unusedSectionVars false
set_option maxRecDepth 100000
variable [Inhabited RawG]
noncomputable def callB : CallF := aCall Try.prog ΨnameB 10 100 6
theorem callB_spec : CallSpec Try.prog callB := call_spec ΨnameB_spec mixed 6
/-- A byte of a text. -/
abbrev bAt (s : ByteArray) (x : Nat) : Int := ((s.data.toList.getD x default).toNat : Int)
theorem byte_at {s : ByteArray} {x : Nat} (h : x < s.size) : (byteCells s)[0 + x * 1]? = some (Value.int IntKind.u8 (bAt s x)) := by
  have h' : x < s.data.toList.length := by simpa using h
  rw [Nat.zero_add, Nat.mul_one]
  unfold byteCells
  show _ = some (Value.int IntKind.u8 ((s.data.toList.getD x default).toNat : Int))
  rw [List.getElem?_map, List.getD_eq_getElem?_getD, List.getElem?_eq_getElem h']; rfl
/-- Are all bytes such? -/
def allB (p : Int → Bool) (s : ByteArray) : Bool := (List.range s.size).all fun x => p (bAt s x)
theorem allB_iff {p : Int → Bool} {s : ByteArray} : allB p s = true ↔ ∀ x, x < s.size → p (bAt s x) = true := by
  unfold allB; rw [List.all_eq_true]; exact ⟨fun h x hx => h x (List.mem_range.2 hx), fun h x hx => h x (List.mem_range.1 hx)⟩
/-- The first one that is not. -/
theorem first_bad {p : Nat → Bool} : ∀ {n : Nat}, (¬ ∀ x, x < n → p x = true) → ∃ x, x < n ∧ p x = false ∧ ∀ y, y < x → p y = true
  | 0, h => absurd (fun x hx => absurd hx (Nat.not_lt_zero x)) h
  | n + 1, h => by
    by_cases h1 : ∀ x, x < n → p x = true
    · refine ⟨n, Nat.lt_succ_self n, ?_, h1⟩
      cases hp : p n with
      | false => rfl
      | true => exact absurd (fun x hx => (Nat.lt_succ_iff_lt_or_eq.1 hx).elim (h1 x) (fun e => e ▸ hp)) h
    · obtain ⟨x, h2, h3, h4⟩ := first_bad h1
      exact ⟨x, by omega, h3, h4⟩
/-- What 'every' answers. -/
def everyE (p : Int → Bool) (m : Int) (s : ByteArray) : Int := if (s.size : Int) < 1 then 250 else if (s.size : Int) > m then 250 else bif allB p s then 0 else 250
theorem ev40_go {s : ByteArray} {x : Nat} (h0 : s.size ≤ 9000000000000) (hx : x < s.size) (he : (!hostB ((s.data.toList.getD x default).toNat : Int)) = false) : RoundTo Try.prog callB 10 100 (loopN Try.prog 39 0) 896 897 [2, 19, 20, 21] .normal (mkF [(2, .func (.func 40) #[] #[]), (19, .slice (some ⟨704, 0, none⟩) s.size s.size), (20, .int .i64 (s.size : Int)), (21, .int .i64 (x : Int))] 30 0) [(704, ⟨5, byteCells s, 3⟩)] (mkF [(2, Value.func (Fn.func 40) #[] #[]), (19, Value.slice (some ⟨704, 0, none⟩) s.size s.size), (20, Value.int IntKind.i64 (↑s.size : Int)), (21, Value.int IntKind.i64 (↑(x + 1) : Int))] 30 0) [(704, ⟨5, byteCells s, 3⟩)] 897 := by
  have k0 : (decide ((↑x : Int) < (↑s.size : Int))) = true := (decide_eq_true (by omega))
  have k1 : (!hostB (↑(s.data.toList.getD x default).toNat : Int)) = false := he
  exact roundTo_of [(897, OV.soft (Value.bool true)), (961, OV.idx x), (1025, OV.ld (Value.int IntKind.u8 (↑(s.data.toList.getD x default).toNat : Int))), (1345, OV.soft (Value.bool false)), (1409, OV.soft (Value.int IntKind.i64 (↑(x + 1) : Int)))] [] (ps := [decide ((↑x : Int) < (↑s.size : Int)) = true, 0 ≤ (↑x : Int) ∧ (↑x : Int) < (↑s.size : Int) ∧ (↑x : Int).toNat = x, (byteCells s)[0 + x * 1]? = some (Value.int IntKind.u8 (↑(s.data.toList.getD x default).toNat : Int)), (!hostB (↑(s.data.toList.getD x default).toNat : Int)) = false, IntKind.i64.wrap ((↑x : Int) + 1) = (↑(x + 1) : Int)]) (by kernel_rfl) (ob_cons k0 (ob_cons (by omega) (ob_cons (byte_at hx) (ob_cons k1 (ob_cons (up1 (by omega)) ob_nil))))) (by decide)

theorem ev40_hit {s : ByteArray} {x : Nat} (h0 : s.size ≤ 9000000000000) (hx : x < s.size) (he : (!hostB ((s.data.toList.getD x default).toNat : Int)) = true) : RoundTo Try.prog callB 10 100 (loopN Try.prog 39 0) 896 897 [6] .ret (mkF [(2, .func (.func 40) #[] #[]), (19, .slice (some ⟨704, 0, none⟩) s.size s.size), (20, .int .i64 (s.size : Int)), (21, .int .i64 (x : Int))] 30 0) [(704, ⟨5, byteCells s, 3⟩)] (mkF [(6, Value.int IntKind.i64 250)] 30 0) [] 960 := by
  have k0 : (decide ((↑x : Int) < (↑s.size : Int))) = true := (decide_eq_true (by omega))
  have k1 : (!hostB (↑(s.data.toList.getD x default).toNat : Int)) = true := he
  exact roundTo_of [(897, OV.soft (Value.bool true)), (961, OV.idx x), (1025, OV.ld (Value.int IntKind.u8 (↑(s.data.toList.getD x default).toNat : Int))), (1345, OV.soft (Value.bool true))] [] (ps := [decide ((↑x : Int) < (↑s.size : Int)) = true, 0 ≤ (↑x : Int) ∧ (↑x : Int) < (↑s.size : Int) ∧ (↑x : Int).toNat = x, (byteCells s)[0 + x * 1]? = some (Value.int IntKind.u8 (↑(s.data.toList.getD x default).toNat : Int)), (!hostB (↑(s.data.toList.getD x default).toNat : Int)) = true]) (by kernel_rfl) (ob_cons k0 (ob_cons (by omega) (ob_cons (byte_at hx) (ob_cons k1 ob_nil)))) (by decide)

theorem ev40_end {s : ByteArray} {x : Nat} (h0 : s.size ≤ 9000000000000) (hx : x = s.size) : RoundTo Try.prog callB 10 100 (loopN Try.prog 39 0) 896 897 [2] (.exit 0) (mkF [(2, .func (.func 40) #[] #[]), (19, .slice (some ⟨704, 0, none⟩) s.size s.size), (20, .int .i64 (s.size : Int)), (21, .int .i64 (x : Int))] 30 0) [(704, ⟨5, byteCells s, 3⟩)] (mkF [(2, Value.func (Fn.func 40) #[] #[])] 30 0) [] 960 := by
  have k0 : (decide ((↑x : Int) < (↑s.size : Int))) = false := (decide_eq_false (by omega))
  exact roundTo_of [(897, OV.soft (Value.bool false))] [] (ps := [decide ((↑x : Int) < (↑s.size : Int)) = false]) (by kernel_rfl) (ob_cons k0 ob_nil) (by decide)

theorem ev40_lhit {s : ByteArray} {x : Nat} (h0 : s.size ≤ 9000000000000) (hl : s.size ≤ 9000000000000) (hx : x < s.size) (he : (!hostB ((s.data.toList.getD x default).toNat : Int)) = true) (hb : ∀ y, y < x → (!hostB ((s.data.toList.getD y default).toNat : Int)) = false) : LoopOK Try.prog (loopN Try.prog 39 0) (mkF [(2, .func (.func 40) #[] #[]), (19, .slice (some ⟨704, 0, none⟩) s.size s.size), (20, .int .i64 (s.size : Int)), (21, .int .i64 ((0 : Nat) : Int))] 30 0) [(704, ⟨5, byteCells s, 3⟩)] 896 ⟨.ret, mkF [(6, Value.int IntKind.i64 250)] 30 0, [], 960, []⟩ := by
  refine loop_ind callB_spec mixed (LF := 10) (F := 100) (nxb := 897) (keys := [2, 19, 20, 21]) (keysE := [6]) x (fun x => mkF [(2, .func (.func 40) #[] #[]), (19, .slice (some ⟨704, 0, none⟩) s.size s.size), (20, .int .i64 (s.size : Int)), (21, .int .i64 (x : Int))] 30 0) (fun _ => [(704, ⟨5, byteCells s, 3⟩)]) (by decide) (by simp) rfl ?_ ?_ (fun h => by cases h)
  · intro y hy
    exact ev40_go h0 (by omega) (hb y hy)
  · exact ev40_hit h0 hx he
theorem ev40_lnone {s : ByteArray} (h0 : s.size ≤ 9000000000000) (hl : s.size ≤ 9000000000000) (hb : ∀ y, y < s.size → (!hostB ((s.data.toList.getD y default).toNat : Int)) = false) : LoopOK Try.prog (loopN Try.prog 39 0) (mkF [(2, .func (.func 40) #[] #[]), (19, .slice (some ⟨704, 0, none⟩) s.size s.size), (20, .int .i64 (s.size : Int)), (21, .int .i64 ((0 : Nat) : Int))] 30 0) [(704, ⟨5, byteCells s, 3⟩)] 896 ⟨(.exit 0), mkF [(2, Value.func (Fn.func 40) #[] #[])] 30 0, [], 960, []⟩ := by
  refine loop_ind callB_spec mixed (LF := 10) (F := 100) (nxb := 897) (keys := [2, 19, 20, 21]) (keysE := [2]) s.size (fun x => mkF [(2, .func (.func 40) #[] #[]), (19, .slice (some ⟨704, 0, none⟩) s.size s.size), (20, .int .i64 (s.size : Int)), (21, .int .i64 (x : Int))] 30 0) (fun _ => [(704, ⟨5, byteCells s, 3⟩)]) (by decide) (by simp) rfl ?_ ?_ (fun h => by cases h)
  · intro y hy
    exact ev40_go h0 hy (hb y hy)
  · exact ev40_end h0 rfl
theorem ev40c_hit {s : ByteArray} {m : Int} (h1 : ¬ (s.size : Int) < 1) (h2 : ¬ (s.size : Int) > m) (hL : LoopOK Try.prog (loopN Try.prog 39 0) (mkF [(2, .func (.func 40) #[] #[]), (19, .slice (some ⟨704, 0, none⟩) s.size s.size), (20, .int .i64 (s.size : Int)), (21, .int .i64 ((0 : Nat) : Int))] 30 0) [(704, ⟨5, byteCells s, 3⟩)] 896 ⟨.ret, mkF [(6, Value.int IntKind.i64 250)] 30 0, [], 960, []⟩) : CallOK Try.prog 39 [.string s, .int .i64 m, .func (.func 40) #[] #[]] [] 0 (.int .i64 250) [] := by
  have k0 : (decide ((↑s.size : Int) < 1)) = false := (decide_eq_false h1)
  have k1 : (decide ((↑s.size : Int) > m)) = false := (decide_eq_false h2)
  exact callOK_keep (call := callB) [] callB_spec mixed (ω := [(256, OV.soft (Value.bool false)), (576, OV.soft (Value.bool false)), (897, OV.loop [2, 19, 20, 21] AX.ret (mkF [(6, Value.int IntKind.i64 250)] 30 0) [] 960)]) (LF := 10) (F := 100) (ps := [decide ((↑s.size : Int) < 1) = false, decide ((↑s.size : Int) > m) = false, LoopOK Try.prog (loopN Try.prog 39 0) (mkF [(2, .func (.func 40) #[] #[]), (19, .slice (some ⟨704, 0, none⟩) s.size s.size), (20, .int .i64 (s.size : Int)), (21, .int .i64 ((0 : Nat) : Int))] 30 0) [(704, ⟨5, byteCells s, 3⟩)] 896 ⟨.ret, mkF [(6, Value.int IntKind.i64 250)] 30 0, [], 960, []⟩]) (by kernel_rfl) (ob_cons k0 (ob_cons k1 (ob_cons hL ob_nil)))

theorem ev40c_none {s : ByteArray} {m : Int} (h1 : ¬ (s.size : Int) < 1) (h2 : ¬ (s.size : Int) > m) (hL : LoopOK Try.prog (loopN Try.prog 39 0) (mkF [(2, .func (.func 40) #[] #[]), (19, .slice (some ⟨704, 0, none⟩) s.size s.size), (20, .int .i64 (s.size : Int)), (21, .int .i64 ((0 : Nat) : Int))] 30 0) [(704, ⟨5, byteCells s, 3⟩)] 896 ⟨(.exit 0), mkF [(2, Value.func (Fn.func 40) #[] #[])] 30 0, [], 960, []⟩) : CallOK Try.prog 39 [.string s, .int .i64 m, .func (.func 40) #[] #[]] [] 0 (.int .i64 0) [] := by
  have k0 : (decide ((↑s.size : Int) < 1)) = false := (decide_eq_false h1)
  have k1 : (decide ((↑s.size : Int) > m)) = false := (decide_eq_false h2)
  exact callOK_keep (call := callB) [] callB_spec mixed (ω := [(256, OV.soft (Value.bool false)), (576, OV.soft (Value.bool false)), (897, OV.loop [2, 19, 20, 21] (AX.exit 0) (mkF [(2, Value.func (Fn.func 40) #[] #[])] 30 0) [] 960)]) (LF := 10) (F := 100) (ps := [decide ((↑s.size : Int) < 1) = false, decide ((↑s.size : Int) > m) = false, LoopOK Try.prog (loopN Try.prog 39 0) (mkF [(2, .func (.func 40) #[] #[]), (19, .slice (some ⟨704, 0, none⟩) s.size s.size), (20, .int .i64 (s.size : Int)), (21, .int .i64 ((0 : Nat) : Int))] 30 0) [(704, ⟨5, byteCells s, 3⟩)] 896 ⟨(.exit 0), mkF [(2, Value.func (Fn.func 40) #[] #[])] 30 0, [], 960, []⟩]) (by kernel_rfl) (ob_cons k0 (ob_cons k1 (ob_cons hL ob_nil)))

theorem ev40_a {s : ByteArray} {m : Int} (h1 : (s.size : Int) < 1) : CallOK Try.prog 39 [.string s, .int .i64 m, .func (.func 40) #[] #[]] [] 0 (.int .i64 250) [] := by
  have k0 : (decide ((↑s.size : Int) < 1)) = true := (decide_eq_true h1)
  exact callOK_keep (call := callB) [] callB_spec mixed (ω := [(256, OV.soft (Value.bool true))]) (LF := 10) (F := 100) (ps := [decide ((↑s.size : Int) < 1) = true]) (by kernel_rfl) (ob_cons k0 ob_nil)

theorem ev40_b {s : ByteArray} {m : Int} (h1 : ¬ (s.size : Int) < 1) (h2 : (s.size : Int) > m) : CallOK Try.prog 39 [.string s, .int .i64 m, .func (.func 40) #[] #[]] [] 0 (.int .i64 250) [] := by
  have k0 : (decide ((↑s.size : Int) < 1)) = false := (decide_eq_false h1)
  have k1 : (decide ((↑s.size : Int) > m)) = true := (decide_eq_true h2)
  exact callOK_keep (call := callB) [] callB_spec mixed (ω := [(256, OV.soft (Value.bool false)), (576, OV.soft (Value.bool true))]) (LF := 10) (F := 100) (ps := [decide ((↑s.size : Int) < 1) = false, decide ((↑s.size : Int) > m) = true]) (by kernel_rfl) (ob_cons k0 (ob_cons k1 ob_nil))

theorem ev40_ok {s : ByteArray} {m : Int} (h0 : s.size ≤ 9000000000000) : CallOK Try.prog 39 [.string s, .int .i64 m, .func (.func 40) #[] #[]] [] 0 (.int .i64 (everyE hostB m s)) [] := by
  unfold everyE
  by_cases h1 : (s.size : Int) < 1
  · rw [if_pos h1]; exact ev40_a h1
  · rw [if_neg h1]
    by_cases h2 : (s.size : Int) > m
    · rw [if_pos h2]; exact ev40_b h1 h2
    · rw [if_neg h2]
      by_cases h3 : ∀ x, x < s.size → hostB (bAt s x) = true
      · rw [allB_iff.2 h3]
        exact ev40c_none h1 h2 (ev40_lnone h0 h0 (fun y hy => by rw [h3 y hy]; rfl))
      · obtain ⟨x, hx, hf, hb⟩ := first_bad h3
        rw [show allB hostB s = false by rw [← Bool.not_eq_true, allB_iff]; exact h3]
        exact ev40c_hit h1 h2 (ev40_lhit h0 h0 hx (by rw [hf]; rfl) (fun y hy => by rw [hb y hy]; rfl))
theorem ev43_go {s : ByteArray} {x : Nat} (h0 : s.size ≤ 9000000000000) (hx : x < s.size) (he : (!nameB ((s.data.toList.getD x default).toNat : Int)) = false) : RoundTo Try.prog callB 10 100 (loopN Try.prog 39 0) 896 897 [2, 19, 20, 21] .normal (mkF [(2, .func (.func 43) #[] #[]), (19, .slice (some ⟨704, 0, none⟩) s.size s.size), (20, .int .i64 (s.size : Int)), (21, .int .i64 (x : Int))] 30 0) [(704, ⟨5, byteCells s, 3⟩)] (mkF [(2, Value.func (Fn.func 43) #[] #[]), (19, Value.slice (some ⟨704, 0, none⟩) s.size s.size), (20, Value.int IntKind.i64 (↑s.size : Int)), (21, Value.int IntKind.i64 (↑(x + 1) : Int))] 30 0) [(704, ⟨5, byteCells s, 3⟩)] 897 := by
  have k0 : (decide ((↑x : Int) < (↑s.size : Int))) = true := (decide_eq_true (by omega))
  have k1 : (!nameB (↑(s.data.toList.getD x default).toNat : Int)) = false := he
  exact roundTo_of [(897, OV.soft (Value.bool true)), (961, OV.idx x), (1025, OV.ld (Value.int IntKind.u8 (↑(s.data.toList.getD x default).toNat : Int))), (1345, OV.soft (Value.bool false)), (1409, OV.soft (Value.int IntKind.i64 (↑(x + 1) : Int)))] [] (ps := [decide ((↑x : Int) < (↑s.size : Int)) = true, 0 ≤ (↑x : Int) ∧ (↑x : Int) < (↑s.size : Int) ∧ (↑x : Int).toNat = x, (byteCells s)[0 + x * 1]? = some (Value.int IntKind.u8 (↑(s.data.toList.getD x default).toNat : Int)), (!nameB (↑(s.data.toList.getD x default).toNat : Int)) = false, IntKind.i64.wrap ((↑x : Int) + 1) = (↑(x + 1) : Int)]) (by kernel_rfl) (ob_cons k0 (ob_cons (by omega) (ob_cons (byte_at hx) (ob_cons k1 (ob_cons (up1 (by omega)) ob_nil))))) (by decide)

theorem ev43_hit {s : ByteArray} {x : Nat} (h0 : s.size ≤ 9000000000000) (hx : x < s.size) (he : (!nameB ((s.data.toList.getD x default).toNat : Int)) = true) : RoundTo Try.prog callB 10 100 (loopN Try.prog 39 0) 896 897 [6] .ret (mkF [(2, .func (.func 43) #[] #[]), (19, .slice (some ⟨704, 0, none⟩) s.size s.size), (20, .int .i64 (s.size : Int)), (21, .int .i64 (x : Int))] 30 0) [(704, ⟨5, byteCells s, 3⟩)] (mkF [(6, Value.int IntKind.i64 250)] 30 0) [] 960 := by
  have k0 : (decide ((↑x : Int) < (↑s.size : Int))) = true := (decide_eq_true (by omega))
  have k1 : (!nameB (↑(s.data.toList.getD x default).toNat : Int)) = true := he
  exact roundTo_of [(897, OV.soft (Value.bool true)), (961, OV.idx x), (1025, OV.ld (Value.int IntKind.u8 (↑(s.data.toList.getD x default).toNat : Int))), (1345, OV.soft (Value.bool true))] [] (ps := [decide ((↑x : Int) < (↑s.size : Int)) = true, 0 ≤ (↑x : Int) ∧ (↑x : Int) < (↑s.size : Int) ∧ (↑x : Int).toNat = x, (byteCells s)[0 + x * 1]? = some (Value.int IntKind.u8 (↑(s.data.toList.getD x default).toNat : Int)), (!nameB (↑(s.data.toList.getD x default).toNat : Int)) = true]) (by kernel_rfl) (ob_cons k0 (ob_cons (by omega) (ob_cons (byte_at hx) (ob_cons k1 ob_nil)))) (by decide)

theorem ev43_end {s : ByteArray} {x : Nat} (h0 : s.size ≤ 9000000000000) (hx : x = s.size) : RoundTo Try.prog callB 10 100 (loopN Try.prog 39 0) 896 897 [2] (.exit 0) (mkF [(2, .func (.func 43) #[] #[]), (19, .slice (some ⟨704, 0, none⟩) s.size s.size), (20, .int .i64 (s.size : Int)), (21, .int .i64 (x : Int))] 30 0) [(704, ⟨5, byteCells s, 3⟩)] (mkF [(2, Value.func (Fn.func 43) #[] #[])] 30 0) [] 960 := by
  have k0 : (decide ((↑x : Int) < (↑s.size : Int))) = false := (decide_eq_false (by omega))
  exact roundTo_of [(897, OV.soft (Value.bool false))] [] (ps := [decide ((↑x : Int) < (↑s.size : Int)) = false]) (by kernel_rfl) (ob_cons k0 ob_nil) (by decide)

theorem ev43_lhit {s : ByteArray} {x : Nat} (h0 : s.size ≤ 9000000000000) (hl : s.size ≤ 9000000000000) (hx : x < s.size) (he : (!nameB ((s.data.toList.getD x default).toNat : Int)) = true) (hb : ∀ y, y < x → (!nameB ((s.data.toList.getD y default).toNat : Int)) = false) : LoopOK Try.prog (loopN Try.prog 39 0) (mkF [(2, .func (.func 43) #[] #[]), (19, .slice (some ⟨704, 0, none⟩) s.size s.size), (20, .int .i64 (s.size : Int)), (21, .int .i64 ((0 : Nat) : Int))] 30 0) [(704, ⟨5, byteCells s, 3⟩)] 896 ⟨.ret, mkF [(6, Value.int IntKind.i64 250)] 30 0, [], 960, []⟩ := by
  refine loop_ind callB_spec mixed (LF := 10) (F := 100) (nxb := 897) (keys := [2, 19, 20, 21]) (keysE := [6]) x (fun x => mkF [(2, .func (.func 43) #[] #[]), (19, .slice (some ⟨704, 0, none⟩) s.size s.size), (20, .int .i64 (s.size : Int)), (21, .int .i64 (x : Int))] 30 0) (fun _ => [(704, ⟨5, byteCells s, 3⟩)]) (by decide) (by simp) rfl ?_ ?_ (fun h => by cases h)
  · intro y hy
    exact ev43_go h0 (by omega) (hb y hy)
  · exact ev43_hit h0 hx he
theorem ev43_lnone {s : ByteArray} (h0 : s.size ≤ 9000000000000) (hl : s.size ≤ 9000000000000) (hb : ∀ y, y < s.size → (!nameB ((s.data.toList.getD y default).toNat : Int)) = false) : LoopOK Try.prog (loopN Try.prog 39 0) (mkF [(2, .func (.func 43) #[] #[]), (19, .slice (some ⟨704, 0, none⟩) s.size s.size), (20, .int .i64 (s.size : Int)), (21, .int .i64 ((0 : Nat) : Int))] 30 0) [(704, ⟨5, byteCells s, 3⟩)] 896 ⟨(.exit 0), mkF [(2, Value.func (Fn.func 43) #[] #[])] 30 0, [], 960, []⟩ := by
  refine loop_ind callB_spec mixed (LF := 10) (F := 100) (nxb := 897) (keys := [2, 19, 20, 21]) (keysE := [2]) s.size (fun x => mkF [(2, .func (.func 43) #[] #[]), (19, .slice (some ⟨704, 0, none⟩) s.size s.size), (20, .int .i64 (s.size : Int)), (21, .int .i64 (x : Int))] 30 0) (fun _ => [(704, ⟨5, byteCells s, 3⟩)]) (by decide) (by simp) rfl ?_ ?_ (fun h => by cases h)
  · intro y hy
    exact ev43_go h0 hy (hb y hy)
  · exact ev43_end h0 rfl
theorem ev43c_hit {s : ByteArray} {m : Int} (h1 : ¬ (s.size : Int) < 1) (h2 : ¬ (s.size : Int) > m) (hL : LoopOK Try.prog (loopN Try.prog 39 0) (mkF [(2, .func (.func 43) #[] #[]), (19, .slice (some ⟨704, 0, none⟩) s.size s.size), (20, .int .i64 (s.size : Int)), (21, .int .i64 ((0 : Nat) : Int))] 30 0) [(704, ⟨5, byteCells s, 3⟩)] 896 ⟨.ret, mkF [(6, Value.int IntKind.i64 250)] 30 0, [], 960, []⟩) : CallOK Try.prog 39 [.string s, .int .i64 m, .func (.func 43) #[] #[]] [] 0 (.int .i64 250) [] := by
  have k0 : (decide ((↑s.size : Int) < 1)) = false := (decide_eq_false h1)
  have k1 : (decide ((↑s.size : Int) > m)) = false := (decide_eq_false h2)
  exact callOK_keep (call := callB) [] callB_spec mixed (ω := [(256, OV.soft (Value.bool false)), (576, OV.soft (Value.bool false)), (897, OV.loop [2, 19, 20, 21] AX.ret (mkF [(6, Value.int IntKind.i64 250)] 30 0) [] 960)]) (LF := 10) (F := 100) (ps := [decide ((↑s.size : Int) < 1) = false, decide ((↑s.size : Int) > m) = false, LoopOK Try.prog (loopN Try.prog 39 0) (mkF [(2, .func (.func 43) #[] #[]), (19, .slice (some ⟨704, 0, none⟩) s.size s.size), (20, .int .i64 (s.size : Int)), (21, .int .i64 ((0 : Nat) : Int))] 30 0) [(704, ⟨5, byteCells s, 3⟩)] 896 ⟨.ret, mkF [(6, Value.int IntKind.i64 250)] 30 0, [], 960, []⟩]) (by kernel_rfl) (ob_cons k0 (ob_cons k1 (ob_cons hL ob_nil)))

theorem ev43c_none {s : ByteArray} {m : Int} (h1 : ¬ (s.size : Int) < 1) (h2 : ¬ (s.size : Int) > m) (hL : LoopOK Try.prog (loopN Try.prog 39 0) (mkF [(2, .func (.func 43) #[] #[]), (19, .slice (some ⟨704, 0, none⟩) s.size s.size), (20, .int .i64 (s.size : Int)), (21, .int .i64 ((0 : Nat) : Int))] 30 0) [(704, ⟨5, byteCells s, 3⟩)] 896 ⟨(.exit 0), mkF [(2, Value.func (Fn.func 43) #[] #[])] 30 0, [], 960, []⟩) : CallOK Try.prog 39 [.string s, .int .i64 m, .func (.func 43) #[] #[]] [] 0 (.int .i64 0) [] := by
  have k0 : (decide ((↑s.size : Int) < 1)) = false := (decide_eq_false h1)
  have k1 : (decide ((↑s.size : Int) > m)) = false := (decide_eq_false h2)
  exact callOK_keep (call := callB) [] callB_spec mixed (ω := [(256, OV.soft (Value.bool false)), (576, OV.soft (Value.bool false)), (897, OV.loop [2, 19, 20, 21] (AX.exit 0) (mkF [(2, Value.func (Fn.func 43) #[] #[])] 30 0) [] 960)]) (LF := 10) (F := 100) (ps := [decide ((↑s.size : Int) < 1) = false, decide ((↑s.size : Int) > m) = false, LoopOK Try.prog (loopN Try.prog 39 0) (mkF [(2, .func (.func 43) #[] #[]), (19, .slice (some ⟨704, 0, none⟩) s.size s.size), (20, .int .i64 (s.size : Int)), (21, .int .i64 ((0 : Nat) : Int))] 30 0) [(704, ⟨5, byteCells s, 3⟩)] 896 ⟨(.exit 0), mkF [(2, Value.func (Fn.func 43) #[] #[])] 30 0, [], 960, []⟩]) (by kernel_rfl) (ob_cons k0 (ob_cons k1 (ob_cons hL ob_nil)))

theorem ev43_a {s : ByteArray} {m : Int} (h1 : (s.size : Int) < 1) : CallOK Try.prog 39 [.string s, .int .i64 m, .func (.func 43) #[] #[]] [] 0 (.int .i64 250) [] := by
  have k0 : (decide ((↑s.size : Int) < 1)) = true := (decide_eq_true h1)
  exact callOK_keep (call := callB) [] callB_spec mixed (ω := [(256, OV.soft (Value.bool true))]) (LF := 10) (F := 100) (ps := [decide ((↑s.size : Int) < 1) = true]) (by kernel_rfl) (ob_cons k0 ob_nil)

theorem ev43_b {s : ByteArray} {m : Int} (h1 : ¬ (s.size : Int) < 1) (h2 : (s.size : Int) > m) : CallOK Try.prog 39 [.string s, .int .i64 m, .func (.func 43) #[] #[]] [] 0 (.int .i64 250) [] := by
  have k0 : (decide ((↑s.size : Int) < 1)) = false := (decide_eq_false h1)
  have k1 : (decide ((↑s.size : Int) > m)) = true := (decide_eq_true h2)
  exact callOK_keep (call := callB) [] callB_spec mixed (ω := [(256, OV.soft (Value.bool false)), (576, OV.soft (Value.bool true))]) (LF := 10) (F := 100) (ps := [decide ((↑s.size : Int) < 1) = false, decide ((↑s.size : Int) > m) = true]) (by kernel_rfl) (ob_cons k0 (ob_cons k1 ob_nil))

theorem ev43_ok {s : ByteArray} {m : Int} (h0 : s.size ≤ 9000000000000) : CallOK Try.prog 39 [.string s, .int .i64 m, .func (.func 43) #[] #[]] [] 0 (.int .i64 (everyE nameB m s)) [] := by
  unfold everyE
  by_cases h1 : (s.size : Int) < 1
  · rw [if_pos h1]; exact ev43_a h1
  · rw [if_neg h1]
    by_cases h2 : (s.size : Int) > m
    · rw [if_pos h2]; exact ev43_b h1 h2
    · rw [if_neg h2]
      by_cases h3 : ∀ x, x < s.size → nameB (bAt s x) = true
      · rw [allB_iff.2 h3]
        exact ev43c_none h1 h2 (ev43_lnone h0 h0 (fun y hy => by rw [h3 y hy]; rfl))
      · obtain ⟨x, hx, hf, hb⟩ := first_bad h3
        rw [show allB nameB s = false by rw [← Bool.not_eq_true, allB_iff]; exact h3]
        exact ev43c_hit h1 h2 (ev43_lhit h0 h0 hx (by rw [hf]; rfl) (fun y hy => by rw [hb y hy]; rfl))
end Go.Proofs.Ytkdalfdfepipiaa
