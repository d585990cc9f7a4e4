import Derived.Test.YtbmgigbcilgieaaA
namespace Go.Proofs.Ytbmgigbcilgieaa
open Go.RowKit
set_option maxHeartbeats 1000000
set_option maxRecDepth 100000
theorem new_any (w : World) : Calls Try.prog 12 #[] w fun e w' => e = .returned (.agg #[.bool true, .int .i64 0, .int .i64 0, .bool false, .int .i64 0]) ∧ Up w w' := by
  go_enter Try.func12, Try.ntmps12
  go_wp2_with fail
  exact bodyPost_ret (v := .agg #[.bool true, .int .i64 0, .int .i64 0, .bool false, .int .i64 0]) (by simp [results, Try.results12, go_sem]) rfl ⟨rfl, Up.alloc _ _⟩
theorem conf_any (w : World) : Calls Try.prog 11 #[] w fun e w' => e = .returned (.agg #[.int .i64 10, .int .i64 3, .int .i64 2, .int .i64 1]) ∧ Up w w' := by
  go_enter Try.func11, Try.ntmps11
  go_wp2_with fail
  exact bodyPost_ret (v := .agg #[.int .i64 10, .int .i64 3, .int .i64 2, .int .i64 1]) (by simp [results, Try.results11, go_sem]) rfl ⟨rfl, Up.alloc _ _⟩
theorem number_any (b : Bool) (w : World) : Calls Try.prog 27 #[.bool b] w fun e w' => e = .returned (.int .i64 (cond b 1 0)) ∧ w = w' := by
  cases b
  all_goals
    go_enter Try.func27, Try.ntmps27
    go_wp2_with fail
    go_ret
    exact ⟨rfl, rfl⟩
def dueB (p : PP) (now : Int) : Bool := !p.out && decide (p.next ≤ now)
theorem due_any (p : PP) (now : Int) (w : World) : Calls Try.prog 15 #[p.v, .int .i64 now] w fun e w' => e = .returned (.bool (dueB p now)) ∧ Up w w' := by
  obtain ⟨up, run, next, out, since⟩ := p
  simp only [PP.v]
  cases out
  all_goals
    go_enter Try.func15, Try.ntmps15
    go_wp2_with fail
    all_goals
      go_ret
      refine ⟨?_, Up.alloc _ _⟩
      first | (simp [dueB, *]; done) | (simp [dueB, *]; omega)
def lateB (c : PC) (p : PP) (now : Int) : Bool := chkB c && p.out && decide (p.since ≤ now - c.wait)
theorem late_any (c : PC) (p : PP) (now : Int) (w : World) (hn : -2305843009213693952 ≤ now) (hn2 : now ≤ 2305843009213693952) : Calls Try.prog 16 #[c.v, p.v, .int .i64 now] w fun e w' => e = .returned (.bool (lateB c p now)) ∧ Up w w' := by
  obtain ⟨up, run, next, out, since⟩ := p
  obtain ⟨a, b, r, f⟩ := c
  simp only [PP.v, PC.v]
  cases hc : chkB ⟨a, b, r, f⟩
  case false =>
    have HC := Lib.hid (chkE_no hc)
    have H := Lib.hid (show lateB ⟨a, b, r, f⟩ ⟨up, run, next, out, since⟩ now = false by simp [lateB, hc])
    go_enter Try.func16, Try.ntmps16
    go_wp2_with (go_at_call 9; refine (check_any ⟨a, b, r, f⟩ _).mono ?_; rw [HC.out]; rintro e w' ⟨rfl, hb⟩)
    go_ret
    exact ⟨by rw [H.out]; rfl, ((Up.alloc _ _).trans (Up.alloc _ _)).trans hb⟩
  case true =>
    have HC := Lib.hid (chkE_ok hc)
    have hb : 1 ≤ b ∧ b ≤ 253402300799 := by simp [chkB, inB] at hc; omega
    obtain ⟨b1, b2⟩ := hb
    cases out
    · have H := Lib.hid (show lateB ⟨a, b, r, f⟩ ⟨up, run, next, false, since⟩ now = false by simp [lateB])
      go_enter Try.func16, Try.ntmps16
      go_wp2_with fail
      refine (check_any ⟨a, b, r, f⟩ _).mono ?_; rw [HC.out]; rintro e w1 ⟨rfl, hb⟩
      have hU := ((Up.alloc w (.cells #[.int .i64 a, .int .i64 b, .int .i64 r, .int .i64 f] 23)).trans (Up.alloc _ (.cells #[.bool up, .int .i64 run, .int .i64 next, .bool false, .int .i64 since] 32))).trans hb
      have f0 : w1.cell? ⟨w.heap.size + 1, 3, none⟩ = some (.bool false) := Up.cell hb (by simp)
      go_wp2_with fail
      go_ret
      exact ⟨by rw [H.out]; rfl, hU⟩
    · have H := Lib.hid (show lateB ⟨a, b, r, f⟩ ⟨up, run, next, true, since⟩ now = decide (since ≤ now - b) by simp [lateB, hc])
      go_enter Try.func16, Try.ntmps16
      go_wp2_with fail
      refine (check_any ⟨a, b, r, f⟩ _).mono ?_; rw [HC.out]; rintro e w1 ⟨rfl, hb⟩
      have hU := ((Up.alloc w (.cells #[.int .i64 a, .int .i64 b, .int .i64 r, .int .i64 f] 23)).trans (Up.alloc _ (.cells #[.bool up, .int .i64 run, .int .i64 next, .bool true, .int .i64 since] 32))).trans hb
      have f0 : w1.cell? ⟨w.heap.size + 1, 3, none⟩ = some (.bool true) := Up.cell hb (by simp)
      have f1 : w1.cell? ⟨w.heap.size + 1, 4, none⟩ = some (.int .i64 since) := Up.cell hb (by simp)
      have f2 : w1.cell? ⟨w.heap.size, 1, none⟩ = some (.int .i64 b) := Up.cell hb (by simp)
      go_wp2_with fail
      all_goals
        go_ret
        refine ⟨?_, hU⟩
        rw [H.out]
        first | (simp [*]; done) | (simp [*]; omega)
end Go.Proofs.Ytbmgigbcilgieaa
