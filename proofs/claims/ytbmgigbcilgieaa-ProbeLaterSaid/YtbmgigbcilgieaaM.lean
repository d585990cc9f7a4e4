import Derived.Test.YtbmgigbcilgieaaJ
namespace Go.Proofs.Ytbmgigbcilgieaa
open Go.RowKit
set_option maxHeartbeats 1000000
set_option maxRecDepth 100000
theorem chkB_parts {a b r f : Int} (h : chkB ⟨a, b, r, f⟩ = true) : 1 ≤ a ∧ a ≤ 253402300799 ∧ 1 ≤ b ∧ b ≤ 253402300799 ∧ 1 ≤ r ∧ r ≤ 1048576 ∧ 1 ≤ f ∧ f ≤ 1048576 := by
  simp [chkB, inB] at h
  omega
theorem mayE_of {c : PC} {now : Int} (h : chkB c = true) (h1 : 0 ≤ now) (h2 : now ≤ 253402300799) : mayE c now = 0 := by
  simp [mayE, h, timeB, h1, h2]
theorem endP_later (a b r f now more : Int) (up well : Bool) (h1 : now + b + a ≤ 253402300799) (h2 : now + more + b + a ≤ 253402300799) :
    ∃ (u : Bool) (k : Int), endP ⟨a, b, r, f⟩ ⟨up, 0, now, true, now⟩ well (now + b) = ⟨u, k, (now + b + a), false, 0⟩ ∧ endP ⟨a, b, r, f⟩ ⟨up, 0, (now + more), true, (now + more)⟩ well (now + more + b) = ⟨u, k, (now + more + b + a), false, 0⟩ := by
  have n1 : nextOf (now + b) a = now + b + a := nextOf_lt (by omega)
  have n2 : nextOf (now + more + b) a = now + more + b + a := nextOf_lt (by omega)
  unfold endP
  dsimp only
  rw [n1, n2]
  by_cases hs : well = up
  · rw [if_pos hs, if_pos hs]; exact ⟨up, 0, rfl, rfl⟩
  · rw [if_neg hs, if_neg hs]
    by_cases hk : limOf ⟨a, b, r, f⟩ up ≤ 0 + 1
    · rw [if_pos hk, if_pos hk]; exact ⟨well, 0, rfl, rfl⟩
    · rw [if_neg hk, if_neg hk]; exact ⟨up, _, rfl, rfl⟩
theorem later_ok (a b r f now more : Int) (well up : Bool) (w : World) (hc : chkB ⟨a, b, r, f⟩ = true) (n1 : 0 ≤ now) (n2 : now ≤ 1000000000) (m1 : 0 ≤ more) (m2 : more ≤ 1000000000) (a2 : a ≤ 1000000000) (b2 : b ≤ 1000000000) :
    Calls Try.prog 7 #[.agg #[.int .i64 a, .int .i64 b, .int .i64 r, .int .i64 f], .int .i64 now, .int .i64 more, .bool well, .bool up] w fun e w' => e = .returned (.bool true) ∧ Up w w' := by
  obtain ⟨a1, _, b1, _, _, _, _, _⟩ := chkB_parts hc
  obtain ⟨u, k, hx, hy⟩ := endP_later a b r f now more up well (by omega) (by omega)
  have CK : Hid (∀ v, Calls Try.prog 9 #[.agg #[.int .i64 a, .int .i64 b, .int .i64 r, .int .i64 f]] v fun e w' => e = .returned (.int .i64 0) ∧ Up v w') := fun v => by rw [← chkE_ok hc]; exact check_any ⟨a, b, r, f⟩ v
  have S1 : Hid (∀ v, Calls Try.prog 13 #[.agg #[.int .i64 a, .int .i64 b, .int .i64 r, .int .i64 f], .agg #[.bool up, .int .i64 0, .int .i64 now, .bool false, .int .i64 0], .int .i64 now] v fun e w' => e = .returned (.tuple #[.agg #[.bool up, .int .i64 0, .int .i64 now, .bool true, .int .i64 now], .int .i64 0]) ∧ Up v w') := fun v => begin_ok ⟨a, b, r, f⟩ ⟨up, 0, now, false, 0⟩ now v (mayE_of hc n1 (by omega)) (by simp [dueB])
  have S2 : Hid (∀ v, Calls Try.prog 13 #[.agg #[.int .i64 a, .int .i64 b, .int .i64 r, .int .i64 f], .agg #[.bool up, .int .i64 0, .int .i64 (now + more), .bool false, .int .i64 0], .int .i64 (now + more)] v fun e w' => e = .returned (.tuple #[.agg #[.bool up, .int .i64 0, .int .i64 (now + more), .bool true, .int .i64 (now + more)], .int .i64 0]) ∧ Up v w') := fun v => begin_ok ⟨a, b, r, f⟩ ⟨up, 0, (now + more), false, 0⟩ (now + more) v (mayE_of hc (by omega) (by omega)) (by simp [dueB])
  have S3 : Hid (∀ v, Calls Try.prog 14 #[.agg #[.int .i64 a, .int .i64 b, .int .i64 r, .int .i64 f], .agg #[.bool up, .int .i64 0, .int .i64 now, .bool true, .int .i64 now], .bool well, .int .i64 (now + b)] v fun e w' => e = .returned (.tuple #[.agg #[.bool u, .int .i64 k, .int .i64 (now + b + a), .bool false, .int .i64 0], .int .i64 0]) ∧ Up v w') := fun v => by have := end_ok ⟨a, b, r, f⟩ ⟨up, 0, now, true, now⟩ well (now + b) v (mayE_of hc (by omega) (by omega)) rfl (by dsimp only; omega) (by dsimp only; omega); rw [hx] at this; exact this
  have S4 : Hid (∀ v, Calls Try.prog 14 #[.agg #[.int .i64 a, .int .i64 b, .int .i64 r, .int .i64 f], .agg #[.bool up, .int .i64 0, .int .i64 (now + more), .bool true, .int .i64 (now + more)], .bool well, .int .i64 (now + more + b)] v fun e w' => e = .returned (.tuple #[.agg #[.bool u, .int .i64 k, .int .i64 (now + more + b + a), .bool false, .int .i64 0], .int .i64 0]) ∧ Up v w') := fun v => by have := end_ok ⟨a, b, r, f⟩ ⟨up, 0, (now + more), true, (now + more)⟩ well (now + more + b) v (mayE_of hc (by omega) (by omega)) rfl (by dsimp only; omega) (by dsimp only; omega); rw [hy] at this; exact this
  have L1 : Hid (∀ v, Calls Try.prog 16 #[.agg #[.int .i64 a, .int .i64 b, .int .i64 r, .int .i64 f], .agg #[.bool up, .int .i64 0, .int .i64 now, .bool true, .int .i64 now], .int .i64 (now + b)] v fun e w' => e = .returned (.bool true) ∧ Up v w') := fun v => by have h := late_any ⟨a, b, r, f⟩ ⟨up, 0, now, true, now⟩ (now + b) v (by omega) (by omega); rw [show lateB ⟨a, b, r, f⟩ ⟨up, 0, now, true, now⟩ (now + b) = true by simp [lateB, hc]; try omega] at h; exact h
  have L2 : Hid (∀ v, Calls Try.prog 16 #[.agg #[.int .i64 a, .int .i64 b, .int .i64 r, .int .i64 f], .agg #[.bool up, .int .i64 0, .int .i64 (now + more), .bool true, .int .i64 (now + more)], .int .i64 (now + more + b)] v fun e w' => e = .returned (.bool true) ∧ Up v w') := fun v => by have h := late_any ⟨a, b, r, f⟩ ⟨up, 0, (now + more), true, (now + more)⟩ (now + more + b) v (by omega) (by omega); rw [show lateB ⟨a, b, r, f⟩ ⟨up, 0, (now + more), true, (now + more)⟩ (now + more + b) = true by simp [lateB, hc]; try omega] at h; exact h
  have L3 : Hid (∀ v, Calls Try.prog 16 #[.agg #[.int .i64 a, .int .i64 b, .int .i64 r, .int .i64 f], .agg #[.bool up, .int .i64 0, .int .i64 now, .bool true, .int .i64 now], .int .i64 (now + b - 1)] v fun e w' => e = .returned (.bool false) ∧ Up v w') := fun v => by have h := late_any ⟨a, b, r, f⟩ ⟨up, 0, now, true, now⟩ (now + b - 1) v (by omega) (by omega); rw [show lateB ⟨a, b, r, f⟩ ⟨up, 0, now, true, now⟩ (now + b - 1) = false by simp [lateB, hc]; try omega] at h; exact h
  have D1 : Hid (∀ v, Calls Try.prog 15 #[.agg #[.bool u, .int .i64 k, .int .i64 (now + b + a), .bool false, .int .i64 0], .int .i64 (now + b + a - 1)] v fun e w' => e = .returned (.bool false) ∧ Up v w') := fun v => by have h := due_any ⟨u, k, (now + b + a), false, 0⟩ (now + b + a - 1) v; rw [show dueB ⟨u, k, (now + b + a), false, 0⟩ (now + b + a - 1) = false by simp [dueB]; try omega] at h; exact h
  have D2 : Hid (∀ v, Calls Try.prog 15 #[.agg #[.bool u, .int .i64 k, .int .i64 (now + b + a), .bool false, .int .i64 0], .int .i64 (now + b + a)] v fun e w' => e = .returned (.bool true) ∧ Up v w') := fun v => by have h := due_any ⟨u, k, (now + b + a), false, 0⟩ (now + b + a) v; rw [show dueB ⟨u, k, (now + b + a), false, 0⟩ (now + b + a) = true by simp [dueB]; try omega] at h; exact h
  have D3 : Hid (∀ v, Calls Try.prog 15 #[.agg #[.bool up, .int .i64 0, .int .i64 now, .bool true, .int .i64 now], .int .i64 (now + more)] v fun e w' => e = .returned (.bool false) ∧ Up v w') := fun v => by have h := due_any ⟨up, 0, now, true, now⟩ (now + more) v; rw [show dueB ⟨up, 0, now, true, now⟩ (now + more) = false by simp [dueB]; try omega] at h; exact h
  have hq : ((now + more + b + a) != (now + b + a + more)) = false := by rw [bne_eq_false_iff_eq]; omega
  clear hc hx hy
  go_enter Try.func7, Try.ntmps7
  have hU := Up.refl w
  go_wp2_with fail
  refine (lives_any _).mono ?_; rintro e w1 ⟨rfl, hh1⟩
  have Bc := (Blk.new w 23 #[.int .i64 a, .int .i64 b, .int .i64 r, .int .i64 f]).up hh1
  replace hU := (hU.new _).trans hh1
  clear hh1
  obtain ⟨Bcx1_0, Bcx1_1, Bcx1_2, Bcx1_3, Bcx1_f⟩ := Bc.c4
  have Bcl1 := Bc.lt
  go_wp2_with fail
  refine (CK.out _).mono ?_; rintro e w2 ⟨rfl, hh2⟩
  clear Bcx1_0 Bcx1_1 Bcx1_2 Bcx1_3 Bcx1_f Bcl1
  replace Bc := Bc.up hh2
  replace hU := hU.trans hh2
  clear hh2
  obtain ⟨Bcx2_0, Bcx2_1, Bcx2_2, Bcx2_3, Bcx2_f⟩ := Bc.c4
  have Bcl2 := Bc.lt
  go_wp2_with fail
  refine (S1.out _).mono ?_; rintro e w3 ⟨rfl, hh3⟩
  clear Bcx2_0 Bcx2_1 Bcx2_2 Bcx2_3 Bcx2_f Bcl2
  replace Bc := ((Bc.alloc _).alloc _).up hh3
  have Bp := ((Blk.new w2 32 #[.bool up, .int .i64 0, .int .i64 now, .bool false, .int .i64 0]).alloc _).up hh3
  have Bq := (Blk.new_at (g := w2.heap.size + 1) ((w2.alloc _)) 32 #[.bool up, .int .i64 0, .int .i64 (now + more), .bool false, .int .i64 0] (by simp)).up hh3
  replace hU := ((hU.new _).new _).trans hh3
  clear hh3
  obtain ⟨Bcx3_0, Bcx3_1, Bcx3_2, Bcx3_3, Bcx3_f⟩ := Bc.c4
  have Bcl3 := Bc.lt
  obtain ⟨Bqx3_0, Bqx3_1, Bqx3_2, Bqx3_3, Bqx3_4, Bqx3_f⟩ := Bq.c5
  have Bql3 := Bq.lt
  go_wp2_with fail
  refine (S2.out _).mono ?_; rintro e w4 ⟨rfl, hh4⟩
  clear Bcx3_0 Bcx3_1 Bcx3_2 Bcx3_3 Bcx3_f Bcl3 Bqx3_0 Bqx3_1 Bqx3_2 Bqx3_3 Bqx3_4 Bqx3_f Bql3
  replace Bc := (Bc.alloc _).up hh4
  replace Bp := (Bp.alloc _).up hh4
  replace Bq := (Bq.alloc _).up hh4
  have Ba := (Blk.new w3 32 #[.bool up, .int .i64 0, .int .i64 now, .bool true, .int .i64 now]).up hh4
  replace hU := (hU.new _).trans hh4
  clear hh4
  obtain ⟨Bcx4_0, Bcx4_1, Bcx4_2, Bcx4_3, Bcx4_f⟩ := Bc.c4
  have Bcl4 := Bc.lt
  obtain ⟨Bax4_0, Bax4_1, Bax4_2, Bax4_3, Bax4_4, Bax4_f⟩ := Ba.c5
  have Bal4 := Ba.lt
  go_wp2_with fail
  refine (S3.out _).mono ?_; rintro e w5 ⟨rfl, hh5⟩
  clear Bcx4_0 Bcx4_1 Bcx4_2 Bcx4_3 Bcx4_f Bcl4 Bax4_0 Bax4_1 Bax4_2 Bax4_3 Bax4_4 Bax4_f Bal4
  replace Bc := (Bc.alloc _).up hh5
  replace Bp := (Bp.alloc _).up hh5
  replace Bq := (Bq.alloc _).up hh5
  replace Ba := (Ba.alloc _).up hh5
  have Bb := (Blk.new w4 32 #[.bool up, .int .i64 0, .int .i64 (now + more), .bool true, .int .i64 (now + more)]).up hh5
  replace hU := (hU.new _).trans hh5
  clear hh5
  obtain ⟨Bcx5_0, Bcx5_1, Bcx5_2, Bcx5_3, Bcx5_f⟩ := Bc.c4
  have Bcl5 := Bc.lt
  obtain ⟨Bbx5_0, Bbx5_1, Bbx5_2, Bbx5_3, Bbx5_4, Bbx5_f⟩ := Bb.c5
  have Bbl5 := Bb.lt
  go_wp2_with fail
  refine (S4.out _).mono ?_; rintro e w6 ⟨rfl, hh6⟩
  clear Bcx5_0 Bcx5_1 Bcx5_2 Bcx5_3 Bcx5_f Bcl5 Bbx5_0 Bbx5_1 Bbx5_2 Bbx5_3 Bbx5_4 Bbx5_f Bbl5
  replace Bc := (Bc.alloc _).up hh6
  replace Bp := (Bp.alloc _).up hh6
  replace Bq := (Bq.alloc _).up hh6
  replace Ba := (Ba.alloc _).up hh6
  replace Bb := (Bb.alloc _).up hh6
  have Bx := (Blk.new w5 32 #[.bool u, .int .i64 k, .int .i64 (now + b + a), .bool false, .int .i64 0]).up hh6
  replace hU := (hU.new _).trans hh6
  clear hh6
  obtain ⟨Bcx6_0, Bcx6_1, Bcx6_2, Bcx6_3, Bcx6_f⟩ := Bc.c4
  have Bcl6 := Bc.lt
  obtain ⟨Bax6_0, Bax6_1, Bax6_2, Bax6_3, Bax6_4, Bax6_f⟩ := Ba.c5
  have Bal6 := Ba.lt
  obtain ⟨Bbx6_0, Bbx6_1, Bbx6_2, Bbx6_3, Bbx6_4, Bbx6_f⟩ := Bb.c5
  have Bbl6 := Bb.lt
  obtain ⟨Bxx6_0, Bxx6_1, Bxx6_2, Bxx6_3, Bxx6_4, Bxx6_f⟩ := Bx.c5
  have Bxl6 := Bx.lt
  go_wp2_with fail
  refine (L1.out _).mono ?_; rintro e w7 ⟨rfl, hh7⟩
  clear Bcx6_0 Bcx6_1 Bcx6_2 Bcx6_3 Bcx6_f Bcl6 Bax6_0 Bax6_1 Bax6_2 Bax6_3 Bax6_4 Bax6_f Bal6 Bbx6_0 Bbx6_1 Bbx6_2 Bbx6_3 Bbx6_4 Bbx6_f Bbl6 Bxx6_0 Bxx6_1 Bxx6_2 Bxx6_3 Bxx6_4 Bxx6_f Bxl6
  replace Bc := (Bc.alloc _).up hh7
  replace Bp := (Bp.alloc _).up hh7
  replace Bq := (Bq.alloc _).up hh7
  replace Ba := (Ba.alloc _).up hh7
  replace Bb := (Bb.alloc _).up hh7
  replace Bx := (Bx.alloc _).up hh7
  have By := (Blk.new w6 32 #[.bool u, .int .i64 k, .int .i64 (now + more + b + a), .bool false, .int .i64 0]).up hh7
  replace hU := (hU.new _).trans hh7
  clear hh7
  obtain ⟨Bcx7_0, Bcx7_1, Bcx7_2, Bcx7_3, Bcx7_f⟩ := Bc.c4
  have Bcl7 := Bc.lt
  obtain ⟨Bbx7_0, Bbx7_1, Bbx7_2, Bbx7_3, Bbx7_4, Bbx7_f⟩ := Bb.c5
  have Bbl7 := Bb.lt
  go_wp2_with fail
  refine (L2.out _).mono ?_; rintro e w8 ⟨rfl, hh8⟩
  clear Bcx7_0 Bcx7_1 Bcx7_2 Bcx7_3 Bcx7_f Bcl7 Bbx7_0 Bbx7_1 Bbx7_2 Bbx7_3 Bbx7_4 Bbx7_f Bbl7
  replace Bc := Bc.up hh8
  replace Bp := Bp.up hh8
  replace Bq := Bq.up hh8
  replace Ba := Ba.up hh8
  replace Bb := Bb.up hh8
  replace Bx := Bx.up hh8
  replace By := By.up hh8
  replace hU := hU.trans hh8
  clear hh8
  obtain ⟨Bcx8_0, Bcx8_1, Bcx8_2, Bcx8_3, Bcx8_f⟩ := Bc.c4
  have Bcl8 := Bc.lt
  obtain ⟨Bax8_0, Bax8_1, Bax8_2, Bax8_3, Bax8_4, Bax8_f⟩ := Ba.c5
  have Bal8 := Ba.lt
  go_wp2_with fail
  refine (L3.out _).mono ?_; rintro e w9 ⟨rfl, hh9⟩
  clear Bcx8_0 Bcx8_1 Bcx8_2 Bcx8_3 Bcx8_f Bcl8 Bax8_0 Bax8_1 Bax8_2 Bax8_3 Bax8_4 Bax8_f Bal8
  replace Bc := Bc.up hh9
  replace Bp := Bp.up hh9
  replace Bq := Bq.up hh9
  replace Ba := Ba.up hh9
  replace Bb := Bb.up hh9
  replace Bx := Bx.up hh9
  replace By := By.up hh9
  replace hU := hU.trans hh9
  clear hh9
  obtain ⟨Bcx9_0, Bcx9_1, Bcx9_2, Bcx9_3, Bcx9_f⟩ := Bc.c4
  have Bcl9 := Bc.lt
  obtain ⟨Bxx9_0, Bxx9_1, Bxx9_2, Bxx9_3, Bxx9_4, Bxx9_f⟩ := Bx.c5
  have Bxl9 := Bx.lt
  go_wp2_with fail
  refine (D1.out _).mono ?_; rintro e w10 ⟨rfl, hh10⟩
  clear Bcx9_0 Bcx9_1 Bcx9_2 Bcx9_3 Bcx9_f Bcl9 Bxx9_0 Bxx9_1 Bxx9_2 Bxx9_3 Bxx9_4 Bxx9_f Bxl9
  replace Bc := Bc.up hh10
  replace Bp := Bp.up hh10
  replace Bq := Bq.up hh10
  replace Ba := Ba.up hh10
  replace Bb := Bb.up hh10
  replace Bx := Bx.up hh10
  replace By := By.up hh10
  replace hU := hU.trans hh10
  clear hh10
  obtain ⟨Bxx10_0, Bxx10_1, Bxx10_2, Bxx10_3, Bxx10_4, Bxx10_f⟩ := Bx.c5
  have Bxl10 := Bx.lt
  go_wp2_with fail
  refine (D2.out _).mono ?_; rintro e w11 ⟨rfl, hh11⟩
  clear Bxx10_0 Bxx10_1 Bxx10_2 Bxx10_3 Bxx10_4 Bxx10_f Bxl10
  replace Bc := Bc.up hh11
  replace Bp := Bp.up hh11
  replace Bq := Bq.up hh11
  replace Ba := Ba.up hh11
  replace Bb := Bb.up hh11
  replace Bx := Bx.up hh11
  replace By := By.up hh11
  replace hU := hU.trans hh11
  clear hh11
  obtain ⟨Bax11_0, Bax11_1, Bax11_2, Bax11_3, Bax11_4, Bax11_f⟩ := Ba.c5
  have Bal11 := Ba.lt
  go_wp2_with fail
  refine (D3.out _).mono ?_; rintro e w12 ⟨rfl, hh12⟩
  clear Bax11_0 Bax11_1 Bax11_2 Bax11_3 Bax11_4 Bax11_f Bal11
  replace Bc := Bc.up hh12
  replace Bp := Bp.up hh12
  replace Bq := Bq.up hh12
  replace Ba := Ba.up hh12
  replace Bb := Bb.up hh12
  replace Bx := Bx.up hh12
  replace By := By.up hh12
  replace hU := hU.trans hh12
  clear hh12
  go_wp2_with fail
  go_ret
  exact ⟨rfl, hU⟩
theorem later_no (a b r f now more : Int) (well up : Bool) (w : World) (h : ¬ (chkB ⟨a, b, r, f⟩ = true ∧ 0 ≤ now ∧ now ≤ 1000000000 ∧ 0 ≤ more ∧ more ≤ 1000000000 ∧ a ≤ 1000000000 ∧ b ≤ 1000000000)) :
    Calls Try.prog 7 #[.agg #[.int .i64 a, .int .i64 b, .int .i64 r, .int .i64 f], .int .i64 now, .int .i64 more, .bool well, .bool up] w fun e w' => e = .returned (.bool true) ∧ Up w w' := by
  cases hc : chkB ⟨a, b, r, f⟩
  · have CK : Hid (∀ v, Calls Try.prog 9 #[.agg #[.int .i64 a, .int .i64 b, .int .i64 r, .int .i64 f]] v fun e w' => e = .returned (.int .i64 210) ∧ Up v w') := fun v => by rw [← chkE_no hc]; exact check_any ⟨a, b, r, f⟩ v
    clear h hc
    go_enter Try.func7, Try.ntmps7
    have hU := Up.refl w
    go_wp2_with fail
    refine (lives_any _).mono ?_; rintro e w1 ⟨rfl, hh1⟩
    have Bc := (Blk.new w 23 #[.int .i64 a, .int .i64 b, .int .i64 r, .int .i64 f]).up hh1
    replace hU := (hU.new _).trans hh1
    clear hh1
    obtain ⟨Bcx1_0, Bcx1_1, Bcx1_2, Bcx1_3, Bcx1_f⟩ := Bc.c4
    have Bcl1 := Bc.lt
    go_wp2_with fail
    refine (CK.out _).mono ?_; rintro e w2 ⟨rfl, hh2⟩
    clear Bcx1_0 Bcx1_1 Bcx1_2 Bcx1_3 Bcx1_f Bcl1
    replace Bc := Bc.up hh2
    replace hU := hU.trans hh2
    clear hh2
    go_wp2_with fail
    go_ret
    exact ⟨rfl, hU⟩
  · have CK : Hid (∀ v, Calls Try.prog 9 #[.agg #[.int .i64 a, .int .i64 b, .int .i64 r, .int .i64 f]] v fun e w' => e = .returned (.int .i64 0) ∧ Up v w') := fun v => by rw [← chkE_ok hc]; exact check_any ⟨a, b, r, f⟩ v
    have HH := Lib.hid (show ¬ (0 ≤ now ∧ now ≤ 1000000000 ∧ 0 ≤ more ∧ more ≤ 1000000000 ∧ a ≤ 1000000000 ∧ b ≤ 1000000000) from fun h' => h ⟨hc, h'⟩)
    clear h hc
    go_enter Try.func7, Try.ntmps7
    have hU := Up.refl w
    go_wp2_with fail
    refine (lives_any _).mono ?_; rintro e w1 ⟨rfl, hh1⟩
    have Bc := (Blk.new w 23 #[.int .i64 a, .int .i64 b, .int .i64 r, .int .i64 f]).up hh1
    replace hU := (hU.new _).trans hh1
    clear hh1
    obtain ⟨Bcx1_0, Bcx1_1, Bcx1_2, Bcx1_3, Bcx1_f⟩ := Bc.c4
    have Bcl1 := Bc.lt
    go_wp2_with fail
    refine (CK.out _).mono ?_; rintro e w2 ⟨rfl, hh2⟩
    clear Bcx1_0 Bcx1_1 Bcx1_2 Bcx1_3 Bcx1_f Bcl1
    replace Bc := Bc.up hh2
    replace hU := hU.trans hh2
    clear hh2
    obtain ⟨Bcx2_0, Bcx2_1, Bcx2_2, Bcx2_3, Bcx2_f⟩ := Bc.c4
    have Bcl2 := Bc.lt
    go_wp2_with fail
    all_goals first | (exfalso; have := HH.out; omega) | (go_ret; exact ⟨rfl, hU⟩)
theorem later_any (c : PC) (now more : Int) (well up : Bool) (w : World) :
    Calls Try.prog 7 #[c.v, .int .i64 now, .int .i64 more, .bool well, .bool up] w fun e w' => e = .returned (.bool true) ∧ Up w w' := by
  obtain ⟨a, b, r, f⟩ := c
  by_cases h : chkB ⟨a, b, r, f⟩ = true ∧ 0 ≤ now ∧ now ≤ 1000000000 ∧ 0 ≤ more ∧ more ≤ 1000000000 ∧ a ≤ 1000000000 ∧ b ≤ 1000000000
  · obtain ⟨h0, h1, h2, h3, h4, h5, h6⟩ := h
    exact later_ok a b r f now more well up w h0 h1 h2 h3 h4 h5 h6
  · exact later_no a b r f now more well up w h
end Go.Proofs.Ytbmgigbcilgieaa
