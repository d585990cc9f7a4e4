import Derived.Test.YtbmgigbcilgieaaProg
import Derived.Test.YtbmgigbcilgieaaU
import Derived.WalkKit
import Derived.WalkLawsBesides
import Derived.WalkSpells
import Derived.Outline
import Derived.Deep.QuietTactic
import Derived.BigQuiet
import Derived.Below
import Derived.Lib.Hide
import Derived.Deep.RegionWith
import Derived.RegionTactic
import Derived.ChangeAlike
namespace Go.Proofs.Ytbmgigbcilgieaa
open Go.RowKit
set_option maxHeartbeats 1000000
set_option maxRecDepth 100000
structure PC where
  every : Int
  wait : Int
  rise : Int
  fall : Int
structure PP where
  up : Bool
  run : Int
  next : Int
  out : Bool
  since : Int
def PC.v (c : PC) : Value := .agg #[.int .i64 c.every, .int .i64 c.wait, .int .i64 c.rise, .int .i64 c.fall]
def PP.v (p : PP) : Value := .agg #[.bool p.up, .int .i64 p.run, .int .i64 p.next, .bool p.out, .int .i64 p.since]
def inB (n most : Int) : Bool := decide (1 ≤ n) && decide (n ≤ most)
theorem within_any (n most : Int) (w : World) : Calls Try.prog 24 #[.int .i64 n, .int .i64 most] w fun e w' => e = .returned (.bool (inB n most)) ∧ w = w' := by
  go_enter Try.func24, Try.ntmps24
  go_wp2_with fail
  all_goals
    go_ret
    refine ⟨?_, rfl⟩
    first | (simp [inB, *]; done) | (simp [inB, *]; omega)
def chkB (c : PC) : Bool := inB c.every 253402300799 && inB c.wait 253402300799 && inB c.rise 1048576 && inB c.fall 1048576
def chkE (c : PC) : Int := if chkB c then 0 else 210
theorem chkE_ok {c : PC} (h : chkB c = true) : chkE c = 0 := by simp [chkE, h]
theorem chkE_no {c : PC} (h : chkB c = false) : chkE c = 210 := by simp [chkE, h]
theorem check_any (c : PC) (w : World) : Calls Try.prog 9 #[c.v] w fun e w' => e = .returned (.int .i64 (chkE c)) ∧ Up w w' := by
  obtain ⟨a, b, r, f⟩ := c
  simp only [PC.v]
  cases h1 : inB a 253402300799
  case false =>
    have H := Lib.hid (chkE_no (c := ⟨a, b, r, f⟩) (by simp [chkB, h1]))
    go_enter Try.func9, Try.ntmps9
    go_wp2_with (go_at_call 24; refine (within_any _ _ _).mono ?_; rintro e w' ⟨rfl, rfl⟩)
    go_ret
    exact ⟨by rw [H.out]; rfl, Up.alloc _ _⟩
  case true =>
    cases h2 : inB b 253402300799
    case false =>
      have H := Lib.hid (chkE_no (c := ⟨a, b, r, f⟩) (by simp [chkB, h2]))
      go_enter Try.func9, Try.ntmps9
      go_wp2_with (go_at_call 24; refine (within_any _ _ _).mono ?_; rintro e w' ⟨rfl, rfl⟩)
      go_ret
      exact ⟨by rw [H.out]; rfl, Up.alloc _ _⟩
    case true =>
      cases h3 : inB r 1048576
      case false =>
        have H := Lib.hid (chkE_no (c := ⟨a, b, r, f⟩) (by simp [chkB, h3]))
        go_enter Try.func9, Try.ntmps9
        go_wp2_with (go_at_call 24; refine (within_any _ _ _).mono ?_; rintro e w' ⟨rfl, rfl⟩)
        go_ret
        exact ⟨by rw [H.out]; rfl, Up.alloc _ _⟩
      case true =>
        cases h4 : inB f 1048576
        case false =>
          have H := Lib.hid (chkE_no (c := ⟨a, b, r, f⟩) (by simp [chkB, h4]))
          go_enter Try.func9, Try.ntmps9
          go_wp2_with (go_at_call 24; refine (within_any _ _ _).mono ?_; rintro e w' ⟨rfl, rfl⟩)
          go_ret
          exact ⟨by rw [H.out]; rfl, Up.alloc _ _⟩
        case true =>
          have H := Lib.hid (chkE_ok (c := ⟨a, b, r, f⟩) (by simp [chkB, h1, h2, h3, h4]))
          go_enter Try.func9, Try.ntmps9
          go_wp2_with (go_at_call 24; refine (within_any _ _ _).mono ?_; rintro e w' ⟨rfl, rfl⟩)
          go_ret
          exact ⟨by rw [H.out]; rfl, Up.alloc _ _⟩
def timeB (now : Int) : Bool := decide (0 ≤ now) && decide (now ≤ 253402300799)
def mayE (c : PC) (now : Int) : Int := if chkB c then (if timeB now then 0 else 2) else 210
theorem may_any (c : PC) (now : Int) (w : World) : Calls Try.prog 26 #[c.v, .int .i64 now] w fun e w' => e = .returned (.int .i64 (mayE c now)) ∧ Up w w' := by
  obtain ⟨a, b, r, f⟩ := c
  simp only [PC.v]
  cases hc : chkB ⟨a, b, r, f⟩
  case false =>
    have H := Lib.hid (show mayE ⟨a, b, r, f⟩ now = 210 by simp [mayE, hc])
    have HC := Lib.hid (chkE_no hc)
    go_enter Try.func26, Try.ntmps26
    go_wp2_with (go_at_call 9; refine (check_any ⟨a, b, r, f⟩ _).mono ?_; rw [HC.out]; rintro e w' ⟨rfl, hb⟩)
    go_ret
    exact ⟨by rw [H.out]; rfl, (Up.alloc _ _).trans hb⟩
  case true =>
    have HC := Lib.hid (chkE_ok hc)
    by_cases ht : 0 ≤ now ∧ now ≤ 253402300799
    · have H := Lib.hid (show mayE ⟨a, b, r, f⟩ now = 0 by simp [mayE, hc, timeB, ht])
      obtain ⟨t1, t2⟩ := ht
      go_enter Try.func26, Try.ntmps26
      go_wp2_with (go_at_call 9; refine (check_any ⟨a, b, r, f⟩ _).mono ?_; rw [HC.out]; rintro e w' ⟨rfl, hb⟩)
      go_ret
      exact ⟨by rw [H.out]; rfl, (Up.alloc _ _).trans hb⟩
    · have H := Lib.hid (show mayE ⟨a, b, r, f⟩ now = 2 by simp [mayE, hc, timeB]; omega)
      go_enter Try.func26, Try.ntmps26
      go_wp2_with (go_at_call 9; refine (check_any ⟨a, b, r, f⟩ _).mono ?_; rw [HC.out]; rintro e w' ⟨rfl, hb⟩)
      all_goals first | omega | skip
      all_goals
        go_ret
        exact ⟨by rw [H.out]; rfl, (Up.alloc _ _).trans hb⟩
end Go.Proofs.Ytbmgigbcilgieaa
