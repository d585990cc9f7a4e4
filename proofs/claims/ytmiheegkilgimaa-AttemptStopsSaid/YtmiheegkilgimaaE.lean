import Derived.Test.YtmiheegkilgimaaC
import Derived.Test.YtmiheegkilgimaaD
namespace Go.Proofs.Ytmiheegkilgimaa
open Go.RowKit
set_option maxHeartbeats 1000000
set_option maxRecDepth 100000
attribute [local go_sem] Gives givesUpon
theorem fails_any (n : Int) (w : World) : Calls Try.prog 22 #[.int .i64 n] w fun e w' => e = .returned (.bool (decide (2 ≤ n) && decide (n ≤ 6))) ∧ w = w' := by
  go_enter Try.func22, Try.ntmps22
  go_wp2_with fail
  all_goals
    go_ret
    exact ⟨by first | (simp [*]; done) | (simp [*]; omega), rfl⟩
theorem one_any (again : Bool) (A : Option Addr) (n c : Nat) (w : World) : Calls Try.prog 21 #[.bool again, .slice A n c] w fun e w' => e = .returned (.agg #[.bool again, .int .i64 3, .slice A n c]) ∧ Up w w' := by
  go_enter Try.func21, Try.ntmps21
  go_wp2_with fail
  exact bodyPost_ret (v := .agg #[.bool again, .int .i64 3, .slice A n c]) (by simp [results, Try.results21, go_sem]) rfl ⟨rfl, Up.alloc _ _⟩
theorem TAt.up {w w' : World} {n : Nat} {A : Option Addr} {ts : List T} (h : TAt w w.heap.size A n ts) (hb : Up w w') : TAt w' w'.heap.size A n ts := h.below hb hb.size
theorem TAt.one (w : World) (b e : Int) (s : Bool) : TAt (w.alloc (.cells #[.int .i64 b, .bool s, .int .i64 e] 39)) (w.alloc (.cells #[.int .i64 b, .bool s, .int .i64 e] 39)).heap.size (some ⟨w.heap.size, 0, none⟩) 1 [⟨b, s, e⟩] := by
  refine ⟨rfl, by omega, fun _ => ⟨_, _, rfl, by simp, fun j t hj => ?_⟩⟩
  match j, hj with
  | 0, hj => simp at hj; subst hj; simp
theorem lives_any (w : World) : Calls Try.prog 8 #[] w fun e w' => e = .returned (.bool true) ∧ Up w w' := by
  go_enter Try.func8, Try.ntmps8
  go_wp2_with fail
  have t1 := TAt.one w 0 2 false
  refine (one_any _ _ _ _ _).mono ?_; rintro e w1 ⟨rfl, h1⟩
  replace t1 := t1.up h1
  have u1 := (Up.alloc w (.cells #[.int .i64 0, .bool false, .int .i64 2] 39)).trans h1
  clear h1
  go_wp2_with fail
  have t2 := t1.up (Up.alloc w1 (.cells #[.int .i64 1] 3))
  have e1 : firstOf 0 (reasons false true 3 1 1 [⟨0, false, 2⟩]) = 0 := by decide
  have s1 := stop_any false true 3 _ (some ⟨w1.heap.size, 0, none⟩) 1 1 1 1 _ _ t2
  rw [e1] at s1
  refine s1.mono ?_; rintro e w2 ⟨rfl, h2⟩
  have u2 := (u1.trans (Up.alloc w1 _)).trans h2
  clear t1 t2 h2 u1 s1 e1
  have t1 := TAt.one w2 0 3 true
  go_wp2_with fail
  refine (one_any _ _ _ _ _).mono ?_; rintro e w3 ⟨rfl, h3⟩
  replace t1 := t1.up h3
  have u3 := (u2.trans (Up.alloc w2 (.cells #[.int .i64 0, .bool true, .int .i64 3] 39))).trans h3
  clear h3 u2
  have t2 := t1.up (Up.alloc w3 (.cells #[.int .i64 1] 3))
  have e1 : firstOf 0 (reasons false true 3 1 1 [⟨0, true, 3⟩]) = 4 := by decide
  have s1 := stop_any false true 3 _ (some ⟨w3.heap.size, 0, none⟩) 1 1 1 1 _ _ t2
  rw [e1] at s1
  clear e1 t1 t2
  have S1 := Lib.hid s1
  clear s1
  go_wp2_with fail
  refine S1.out.mono ?_; rintro e w4 ⟨rfl, h4⟩
  have u4 := (u3.trans (Up.alloc w3 _)).trans h4
  clear h4 u3 S1
  go_wp2_with (go_at_call 22; refine (fails_any _ _).mono ?_; rintro e w5 ⟨rfl, rfl⟩)
  go_ret
  exact ⟨rfl, u4⟩
end Go.Proofs.Ytmiheegkilgimaa
