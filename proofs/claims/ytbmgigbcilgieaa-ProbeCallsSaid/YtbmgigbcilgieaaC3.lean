/- ProbeCalls: what the two functions Run yield. -/
import Derived.Test.YtbmgigbcilgieaaC2
namespace Go.Proofs.Ytbmgigbcilgieaa
open Go.RowKit
set_option linter.unusedVariables false
set_option maxRecDepth 100000
structure PrS where
  up : Bool
  run : Int
  nxt : Int
  out : Bool
  since : Int
section
variable (ce cw cr cf : Int) (l : List Bool)
def prStep (p : PrS) (w : Bool) : PrS := ⟨pend_0 ce cw cr cf p.up p.run p.nxt true p.since w 0, pend_1 ce cw cr cf p.up p.run p.nxt true p.since w 0, pend_2 ce cw cr cf p.up p.run p.nxt true p.since w 0, pend_3 ce cw cr cf p.up p.run p.nxt true p.since w 0, pend_4 ce cw cr cf p.up p.run p.nxt true p.since w 0⟩
def prAt : Nat → PrS
  | 0 => ⟨true, 0, 0, false, 0⟩
  | k + 1 => prStep ce cw cr cf (prAt k) (l.getD k false)
def prOuts : Nat → List Value
  | 0 => []
  | k + 1 => prOuts k ++ [.bool (prAt ce cw cr cf l (k + 1)).up]
theorem prOuts_length (k : Nat) : (prOuts ce cw cr cf l k).length = k := by
  induction k with
  | zero => rfl
  | succ k ih => simp [prOuts, ih]
def prH (a0 b : Nat) (k : Nat) : Heap := [(0, ⟨a0, l.map Value.bool, 2⟩), (1, ⟨23, [.int .i64 ce, .int .i64 cw, .int .i64 cr, .int .i64 cf], 0⟩), (385, ⟨32, [.bool (prAt ce cw cr cf l k).up, .int .i64 (prAt ce cw cr cf l k).run, .int .i64 (prAt ce cw cr cf l k).nxt, .bool (prAt ce cw cr cf l k).out, .int .i64 (prAt ce cw cr cf l k).since], 0⟩), (b, ⟨4, prOuts ce cw cr cf l k, 3⟩)]
def prHp (a0 b : Nat) : Nat → Heap
  | 0 => [(0, ⟨a0, l.map Value.bool, 2⟩), (1, ⟨23, [.int .i64 ce, .int .i64 cw, .int .i64 cr, .int .i64 cf], 0⟩), (385, ⟨32, [.bool true, .int .i64 0, .int .i64 0, .bool false, .int .i64 0], 0⟩)]
  | k + 1 => prH ce cw cr cf l a0 b (k + 1)
def frA (n c : Nat) (out : Value) (k : Nat) : List Value := mkF [(2, .pointer (some ⟨1, 0, none⟩)), (5, .pointer (some ⟨385, 0, none⟩)), (6, .func (.func 25) #[] #[.pointer (some ⟨385, 0, none⟩), .pointer (some ⟨1, 0, none⟩)]), (7, out), (15, .slice (some ⟨0, 0, none⟩) n c), (16, .int .i64 (n : Int)), (17, .int .i64 (k : Int))] 29 0
def frB (n c : Nat) (out : Value) (k : Nat) : List Value := mkF [(1, .slice (some ⟨0, 0, none⟩) n c), (2, .pointer (some ⟨1, 0, none⟩)), (5, .pointer (some ⟨385, 0, none⟩)), (6, out), (7, .int .i64 (k : Int))] 35 0
def outA (b : Nat) : Nat → Value
  | 0 => .slice none 0 0
  | k + 1 => .slice (some ⟨b, 0, none⟩) (k + 1) (k + 1)
theorem loopA (c a0 : Nat) (hl : l.length ≤ 200) (hp : 0 < l.length) : LoopOK Try.prog (loopN Try.prog 10 0) (frA l.length c (.slice none 0 0) 0) (prHp ce cw cr cf l a0 897 0) 897 ⟨.exit 0, frA l.length c (.slice (some ⟨897, 0, none⟩) l.length l.length) l.length, prH ce cw cr cf l a0 897 l.length, 961, []⟩ := by
  refine loop_ind callR_spec mixed (LF := 10) (F := 100) (nxb := 898) (keys := [2, 5, 6, 7, 15, 16, 17]) (keysE := [2, 5, 6, 7, 15, 16, 17]) l.length (fun k => frA l.length c (outA 897 k) k) (prHp ce cw cr cf l a0 897) (by decide) (by simp) rfl ?_ ?_ (fun h => by cases h)
  · intro k hk
    cases k with
    | zero => exact f10z_round (outs := []) hk hl
    | succ k => exact f10s_round hk hl (prOuts_length ce cw cr cf l (k + 1))
  · obtain ⟨m, hm⟩ : ∃ m, l.length = m + 1 := ⟨l.length - 1, by omega⟩
    have e1 : outA 897 l.length = .slice (some ⟨897, 0, none⟩) l.length l.length := by rw [hm]; rfl
    have e2 : prHp ce cw cr cf l a0 897 l.length = prH ce cw cr cf l a0 897 l.length := by rw [hm]; rfl
    simp only [e1, e2]
    exact f10s_last rfl
theorem loopB (c a0 : Nat) (hl : l.length ≤ 200) (hp : 0 < l.length) : LoopOK Try.prog (loopN Try.prog 23 0) (frB l.length c (.slice none 0 0) 0) (prHp ce cw cr cf l a0 641 0) 641 ⟨.exit 0, frB l.length c (.slice (some ⟨641, 0, none⟩) l.length l.length) l.length, prH ce cw cr cf l a0 641 l.length, 705, []⟩ := by
  refine loop_ind callR_spec mixed (LF := 10) (F := 100) (nxb := 642) (keys := [1, 2, 5, 6, 7]) (keysE := [1, 2, 5, 6, 7]) l.length (fun k => frB l.length c (outA 641 k) k) (prHp ce cw cr cf l a0 641) (by decide) (by simp) rfl ?_ ?_ (fun h => by cases h)
  · intro k hk
    cases k with
    | zero =>
      have := f23z_round (ce := ce) (cw := cw) (cr := cr) (cf := cf) (c := c) (a0 := a0) (outs := []) (up := true) (run := 0) (nxt := 0) (o := false) (since := 0) hk hl
      simp only [rend0_eq, rend1_eq, rend2_eq, rend3_eq, rend4_eq] at this
      exact this
    | succ k =>
      have := f23s_round (ce := ce) (cw := cw) (cr := cr) (cf := cf) (c := c) (a0 := a0) (up := (prAt ce cw cr cf l (k + 1)).up) (run := (prAt ce cw cr cf l (k + 1)).run) (nxt := (prAt ce cw cr cf l (k + 1)).nxt) (o := (prAt ce cw cr cf l (k + 1)).out) (since := (prAt ce cw cr cf l (k + 1)).since) hk hl (prOuts_length ce cw cr cf l (k + 1))
      simp only [rend0_eq, rend1_eq, rend2_eq, rend3_eq, rend4_eq] at this
      exact this
  · obtain ⟨m, hm⟩ : ∃ m, l.length = m + 1 := ⟨l.length - 1, by omega⟩
    have e1 : outA 641 l.length = .slice (some ⟨641, 0, none⟩) l.length l.length := by rw [hm]; rfl
    have e2 : prHp ce cw cr cf l a0 641 l.length = prH ce cw cr cf l a0 641 l.length := by rw [hm]; rfl
    simp only [e1, e2]
    exact f23s_last rfl
abbrev cfV : Value := .agg #[.int .i64 ce, .int .i64 cw, .int .i64 cr, .int .i64 cf]
theorem runA (c a0 : Nat) (hl : l.length ≤ 200) (hp : 0 < l.length) (hc : (check_0 ce cw cr cf != 0) = false) : CallOK Try.prog 10 [cfV ce cw cr cf, .slice (some ⟨0, 0, none⟩) l.length c] [(0, ⟨a0, l.map Value.bool, 2⟩)] 1 (.slice (some ⟨897, 0, none⟩) l.length l.length) [(0, ⟨a0, l.map Value.bool, 2⟩), (897, ⟨4, prOuts ce cw cr cf l l.length, 3⟩)] :=
  callOK_of callR_spec mixed (ω := [(257, .soft (.bool false)), (898, .loop [2, 5, 6, 7, 15, 16, 17] (.exit 0) (frA l.length c (.slice (some ⟨897, 0, none⟩) l.length l.length) l.length) (prH ce cw cr cf l a0 897 l.length) 961)]) (LF := 10) (F := 100)
    (ps := [(check_0 ce cw cr cf != 0) = false, LoopOK Try.prog (loopN Try.prog 10 0) (frA l.length c (.slice none 0 0) 0) (prHp ce cw cr cf l a0 897 0) 897 ⟨.exit 0, frA l.length c (.slice (some ⟨897, 0, none⟩) l.length l.length) l.length, prH ce cw cr cf l a0 897 l.length, 961, []⟩])
    (by kernel_rfl) (ob_cons hc (ob_cons (loopA ce cw cr cf l c a0 hl hp) ob_nil))
end
end Go.Proofs.Ytbmgigbcilgieaa
