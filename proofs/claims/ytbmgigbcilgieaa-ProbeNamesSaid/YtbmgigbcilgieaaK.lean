import Derived.Test.YtbmgigbcilgieaaJ
namespace Go.Proofs.Ytbmgigbcilgieaa
open Go.RowKit
set_option maxHeartbeats 1000000
set_option maxRecDepth 100000
theorem names_any (w : World) : Calls Try.prog 4 #[] w fun e w' => e = .returned (.bool true) ∧ Up w w' := by
  have S1 : Hid (∀ v, Calls Try.prog 13 #[.agg #[.int .i64 10, .int .i64 3, .int .i64 2, .int .i64 1], .agg #[.bool true, .int .i64 0, .int .i64 0, .bool false, .int .i64 0], .int .i64 5] v fun e w' => e = .returned (.tuple #[.agg #[.bool true, .int .i64 0, .int .i64 0, .bool true, .int .i64 5], .int .i64 0]) ∧ Up v w') := fun v => begin_any ⟨10, 3, 2, 1⟩ ⟨true, 0, 0, false, 0⟩ 5 v
  have S2 : Hid (∀ v, Calls Try.prog 13 #[.agg #[.int .i64 10, .int .i64 3, .int .i64 2, .int .i64 1], .agg #[.bool true, .int .i64 0, .int .i64 0, .bool true, .int .i64 5], .int .i64 6] v fun e w' => e = .returned (.tuple #[.agg #[.bool true, .int .i64 0, .int .i64 0, .bool true, .int .i64 5], .int .i64 8]) ∧ Up v w') := fun v => begin_any ⟨10, 3, 2, 1⟩ ⟨true, 0, 0, true, 5⟩ 6 v
  have S3 : Hid (∀ v, Calls Try.prog 14 #[.agg #[.int .i64 10, .int .i64 3, .int .i64 2, .int .i64 1], .agg #[.bool true, .int .i64 0, .int .i64 0, .bool true, .int .i64 5], .bool false, .int .i64 7] v fun e w' => e = .returned (.tuple #[.agg #[.bool false, .int .i64 0, .int .i64 17, .bool false, .int .i64 0], .int .i64 0]) ∧ Up v w') := fun v => end_any ⟨10, 3, 2, 1⟩ ⟨true, 0, 0, true, 5⟩ false 7 v (by decide) (by decide)
  have S4 : Hid (∀ v, Calls Try.prog 14 #[.agg #[.int .i64 10, .int .i64 3, .int .i64 2, .int .i64 1], .agg #[.bool false, .int .i64 0, .int .i64 17, .bool false, .int .i64 0], .bool true, .int .i64 7] v fun e w' => e = .returned (.tuple #[.agg #[.bool false, .int .i64 0, .int .i64 17, .bool false, .int .i64 0], .int .i64 8]) ∧ Up v w') := fun v => end_any ⟨10, 3, 2, 1⟩ ⟨false, 0, 17, false, 0⟩ true 7 v (by decide) (by decide)
  have S5 : Hid (∀ v, Calls Try.prog 13 #[.agg #[.int .i64 10, .int .i64 3, .int .i64 2, .int .i64 1], .agg #[.bool false, .int .i64 0, .int .i64 17, .bool false, .int .i64 0], .int .i64 16] v fun e w' => e = .returned (.tuple #[.agg #[.bool false, .int .i64 0, .int .i64 17, .bool false, .int .i64 0], .int .i64 8]) ∧ Up v w') := fun v => begin_any ⟨10, 3, 2, 1⟩ ⟨false, 0, 17, false, 0⟩ 16 v
  have S6 : Hid (∀ v, Calls Try.prog 13 #[.agg #[.int .i64 10, .int .i64 3, .int .i64 2, .int .i64 1], .agg #[.bool false, .int .i64 0, .int .i64 17, .bool false, .int .i64 0], .int .i64 17] v fun e w' => e = .returned (.tuple #[.agg #[.bool false, .int .i64 0, .int .i64 17, .bool true, .int .i64 17], .int .i64 0]) ∧ Up v w') := fun v => begin_any ⟨10, 3, 2, 1⟩ ⟨false, 0, 17, false, 0⟩ 17 v
  have S7 : Hid (∀ v, Calls Try.prog 14 #[.agg #[.int .i64 10, .int .i64 3, .int .i64 2, .int .i64 1], .agg #[.bool false, .int .i64 0, .int .i64 17, .bool true, .int .i64 17], .bool true, .int .i64 18] v fun e w' => e = .returned (.tuple #[.agg #[.bool false, .int .i64 1, .int .i64 28, .bool false, .int .i64 0], .int .i64 0]) ∧ Up v w') := fun v => end_any ⟨10, 3, 2, 1⟩ ⟨false, 0, 17, true, 17⟩ true 18 v (by decide) (by decide)
  have S8 : Hid (∀ v, Calls Try.prog 13 #[.agg #[.int .i64 10, .int .i64 3, .int .i64 2, .int .i64 1], .agg #[.bool true, .int .i64 0, .int .i64 0, .bool false, .int .i64 0], .int .i64 (-1)] v fun e w' => e = .returned (.tuple #[.agg #[.bool true, .int .i64 0, .int .i64 0, .bool false, .int .i64 0], .int .i64 2]) ∧ Up v w') := fun v => begin_any ⟨10, 3, 2, 1⟩ ⟨true, 0, 0, false, 0⟩ (-1) v
  have S9 : Hid (∀ v, Calls Try.prog 13 #[.agg #[.int .i64 0, .int .i64 0, .int .i64 0, .int .i64 0], .agg #[.bool true, .int .i64 0, .int .i64 0, .bool false, .int .i64 0], .int .i64 5] v fun e w' => e = .returned (.tuple #[.agg #[.bool true, .int .i64 0, .int .i64 0, .bool false, .int .i64 0], .int .i64 210]) ∧ Up v w') := fun v => begin_any ⟨0, 0, 0, 0⟩ ⟨true, 0, 0, false, 0⟩ 5 v
  have S10 : Hid (∀ v, Calls Try.prog 14 #[.agg #[.int .i64 10, .int .i64 3, .int .i64 2, .int .i64 1], .agg #[.bool true, .int .i64 0, .int .i64 0, .bool true, .int .i64 5], .bool true, .int .i64 253402300799] v fun e w' => e = .returned (.tuple #[.agg #[.bool true, .int .i64 0, .int .i64 253402300799, .bool false, .int .i64 0], .int .i64 0]) ∧ Up v w') := fun v => end_any ⟨10, 3, 2, 1⟩ ⟨true, 0, 0, true, 5⟩ true 253402300799 v (by decide) (by decide)
  have D1 : Hid (∀ v, Calls Try.prog 15 #[.agg #[.bool true, .int .i64 0, .int .i64 0, .bool false, .int .i64 0], .int .i64 0] v fun e w' => e = .returned (.bool true) ∧ Up v w') := fun v => due_any ⟨true, 0, 0, false, 0⟩ 0 v
  have D2 : Hid (∀ v, Calls Try.prog 15 #[.agg #[.bool true, .int .i64 0, .int .i64 0, .bool true, .int .i64 5], .int .i64 9] v fun e w' => e = .returned (.bool false) ∧ Up v w') := fun v => due_any ⟨true, 0, 0, true, 5⟩ 9 v
  have D3 : Hid (∀ v, Calls Try.prog 15 #[.agg #[.bool false, .int .i64 0, .int .i64 17, .bool false, .int .i64 0], .int .i64 16] v fun e w' => e = .returned (.bool false) ∧ Up v w') := fun v => due_any ⟨false, 0, 17, false, 0⟩ 16 v
  have L1 : Hid (∀ v, Calls Try.prog 16 #[.agg #[.int .i64 10, .int .i64 3, .int .i64 2, .int .i64 1], .agg #[.bool true, .int .i64 0, .int .i64 0, .bool true, .int .i64 5], .int .i64 8] v fun e w' => e = .returned (.bool true) ∧ Up v w') := fun v => late_any ⟨10, 3, 2, 1⟩ ⟨true, 0, 0, true, 5⟩ 8 v (by decide) (by decide)
  have L2 : Hid (∀ v, Calls Try.prog 16 #[.agg #[.int .i64 10, .int .i64 3, .int .i64 2, .int .i64 1], .agg #[.bool true, .int .i64 0, .int .i64 0, .bool true, .int .i64 5], .int .i64 7] v fun e w' => e = .returned (.bool false) ∧ Up v w') := fun v => late_any ⟨10, 3, 2, 1⟩ ⟨true, 0, 0, true, 5⟩ 7 v (by decide) (by decide)
  have L3 : Hid (∀ v, Calls Try.prog 16 #[.agg #[.int .i64 10, .int .i64 3, .int .i64 2, .int .i64 1], .agg #[.bool false, .int .i64 0, .int .i64 17, .bool false, .int .i64 0], .int .i64 99] v fun e w' => e = .returned (.bool false) ∧ Up v w') := fun v => late_any ⟨10, 3, 2, 1⟩ ⟨false, 0, 17, false, 0⟩ 99 v (by decide) (by decide)
  have CK : Hid (∀ v, Calls Try.prog 9 #[.agg #[.int .i64 10, .int .i64 3, .int .i64 2, .int .i64 1]] v fun e w' => e = .returned (.int .i64 0) ∧ Up v w') := fun v => check_any ⟨10, 3, 2, 1⟩ v
  have RN : Hid (∀ A n cp v, Calls Try.prog 10 #[.agg #[.int .i64 0, .int .i64 0, .int .i64 0, .int .i64 0], .slice A n cp] v fun e w' => e = .returned (.slice none 0 0) ∧ Up v w') := fun A n cp v => run_no ⟨0, 0, 0, 0⟩ A n cp v (by decide)
  have HEQ := @pp_eql
  go_enter Try.func4, Try.ntmps4
  have hU := Up.refl w
  go_wp2_with fail
  refine (lives_any _).mono ?_; rintro e w1 ⟨rfl, hh1⟩
  replace hU := hU.trans hh1
  clear hh1
  go_wp2_with fail
  refine (conf_any _).mono ?_; rintro e w2 ⟨rfl, hh2⟩
  replace hU := hU.trans hh2
  clear hh2
  go_wp2_with fail
  refine (new_any _).mono ?_; rintro e w3 ⟨rfl, hh3⟩
  have Bc := (Blk.new w2 23 #[.int .i64 10, .int .i64 3, .int .i64 2, .int .i64 1]).up hh3
  replace hU := (hU.new _).trans hh3
  clear hh3
  obtain ⟨Bcx3_0, Bcx3_1, Bcx3_2, Bcx3_3, Bcx3_f⟩ := Bc.c4
  have Bcl3 := Bc.lt
  go_wp2_with fail
  refine (S1.out _).mono ?_; rintro e w4 ⟨rfl, hh4⟩
  clear Bcx3_0 Bcx3_1 Bcx3_2 Bcx3_3 Bcx3_f Bcl3
  replace Bc := (Bc.alloc _).up hh4
  have Bp := (Blk.new w3 32 #[.bool true, .int .i64 0, .int .i64 0, .bool false, .int .i64 0]).up hh4
  replace hU := (hU.new _).trans hh4
  clear hh4
  obtain ⟨Bcx4_0, Bcx4_1, Bcx4_2, Bcx4_3, Bcx4_f⟩ := Bc.c4
  have Bcl4 := Bc.lt
  go_wp2_with fail
  refine (S2.out _).mono ?_; rintro e w5 ⟨rfl, hh5⟩
  clear Bcx4_0 Bcx4_1 Bcx4_2 Bcx4_3 Bcx4_f Bcl4
  replace Bc := (Bc.alloc _).up hh5
  replace Bp := (Bp.alloc _).up hh5
  have Ba := (Blk.new w4 32 #[.bool true, .int .i64 0, .int .i64 0, .bool true, .int .i64 5]).up hh5
  replace hU := (hU.new _).trans hh5
  clear hh5
  obtain ⟨Bcx5_0, Bcx5_1, Bcx5_2, Bcx5_3, Bcx5_f⟩ := Bc.c4
  have Bcl5 := Bc.lt
  obtain ⟨Bax5_0, Bax5_1, Bax5_2, Bax5_3, Bax5_4, Bax5_f⟩ := Ba.c5
  have Bal5 := Ba.lt
  go_wp2_with fail
  refine (S3.out _).mono ?_; rintro e w6 ⟨rfl, hh6⟩
  clear Bcx5_0 Bcx5_1 Bcx5_2 Bcx5_3 Bcx5_f Bcl5 Bax5_0 Bax5_1 Bax5_2 Bax5_3 Bax5_4 Bax5_f Bal5
  replace Bc := (Bc.alloc _).up hh6
  replace Bp := (Bp.alloc _).up hh6
  replace Ba := (Ba.alloc _).up hh6
  replace hU := (hU.new _).trans hh6
  clear hh6
  obtain ⟨Bcx6_0, Bcx6_1, Bcx6_2, Bcx6_3, Bcx6_f⟩ := Bc.c4
  have Bcl6 := Bc.lt
  go_wp2_with fail
  refine (S4.out _).mono ?_; rintro e w7 ⟨rfl, hh7⟩
  clear Bcx6_0 Bcx6_1 Bcx6_2 Bcx6_3 Bcx6_f Bcl6
  replace Bc := (Bc.alloc _).up hh7
  replace Bp := (Bp.alloc _).up hh7
  replace Ba := (Ba.alloc _).up hh7
  have Bb := (Blk.new w6 32 #[.bool false, .int .i64 0, .int .i64 17, .bool false, .int .i64 0]).up hh7
  replace hU := (hU.new _).trans hh7
  clear hh7
  obtain ⟨Bcx7_0, Bcx7_1, Bcx7_2, Bcx7_3, Bcx7_f⟩ := Bc.c4
  have Bcl7 := Bc.lt
  obtain ⟨Bbx7_0, Bbx7_1, Bbx7_2, Bbx7_3, Bbx7_4, Bbx7_f⟩ := Bb.c5
  have Bbl7 := Bb.lt
  go_wp2_with fail
  refine (S5.out _).mono ?_; rintro e w8 ⟨rfl, hh8⟩
  clear Bcx7_0 Bcx7_1 Bcx7_2 Bcx7_3 Bcx7_f Bcl7 Bbx7_0 Bbx7_1 Bbx7_2 Bbx7_3 Bbx7_4 Bbx7_f Bbl7
  replace Bc := (Bc.alloc _).up hh8
  replace Bp := (Bp.alloc _).up hh8
  replace Ba := (Ba.alloc _).up hh8
  replace Bb := (Bb.alloc _).up hh8
  replace hU := (hU.new _).trans hh8
  clear hh8
  obtain ⟨Bcx8_0, Bcx8_1, Bcx8_2, Bcx8_3, Bcx8_f⟩ := Bc.c4
  have Bcl8 := Bc.lt
  obtain ⟨Bbx8_0, Bbx8_1, Bbx8_2, Bbx8_3, Bbx8_4, Bbx8_f⟩ := Bb.c5
  have Bbl8 := Bb.lt
  go_wp2_with fail
  refine (S6.out _).mono ?_; rintro e w9 ⟨rfl, hh9⟩
  clear Bcx8_0 Bcx8_1 Bcx8_2 Bcx8_3 Bcx8_f Bcl8 Bbx8_0 Bbx8_1 Bbx8_2 Bbx8_3 Bbx8_4 Bbx8_f Bbl8
  replace Bc := (Bc.alloc _).up hh9
  replace Bp := (Bp.alloc _).up hh9
  replace Ba := (Ba.alloc _).up hh9
  replace Bb := (Bb.alloc _).up hh9
  replace hU := (hU.new _).trans hh9
  clear hh9
  obtain ⟨Bcx9_0, Bcx9_1, Bcx9_2, Bcx9_3, Bcx9_f⟩ := Bc.c4
  have Bcl9 := Bc.lt
  go_wp2_with fail
  refine (S7.out _).mono ?_; rintro e w10 ⟨rfl, hh10⟩
  clear Bcx9_0 Bcx9_1 Bcx9_2 Bcx9_3 Bcx9_f Bcl9
  replace Bc := (Bc.alloc _).up hh10
  replace Bp := (Bp.alloc _).up hh10
  replace Ba := (Ba.alloc _).up hh10
  replace Bb := (Bb.alloc _).up hh10
  have Bd := (Blk.new w9 32 #[.bool false, .int .i64 0, .int .i64 17, .bool true, .int .i64 17]).up hh10
  replace hU := (hU.new _).trans hh10
  clear hh10
  obtain ⟨Bcx10_0, Bcx10_1, Bcx10_2, Bcx10_3, Bcx10_f⟩ := Bc.c4
  have Bcl10 := Bc.lt
  obtain ⟨Bpx10_0, Bpx10_1, Bpx10_2, Bpx10_3, Bpx10_4, Bpx10_f⟩ := Bp.c5
  have Bpl10 := Bp.lt
  go_wp2_with fail
  refine (S8.out _).mono ?_; rintro e w11 ⟨rfl, hh11⟩
  clear Bcx10_0 Bcx10_1 Bcx10_2 Bcx10_3 Bcx10_f Bcl10 Bpx10_0 Bpx10_1 Bpx10_2 Bpx10_3 Bpx10_4 Bpx10_f Bpl10
  replace Bc := (Bc.alloc _).up hh11
  replace Bp := (Bp.alloc _).up hh11
  replace Ba := (Ba.alloc _).up hh11
  replace Bb := (Bb.alloc _).up hh11
  replace Bd := (Bd.alloc _).up hh11
  have Bx := (Blk.new w10 32 #[.bool false, .int .i64 1, .int .i64 28, .bool false, .int .i64 0]).up hh11
  replace hU := (hU.new _).trans hh11
  clear hh11
  obtain ⟨Bpx11_0, Bpx11_1, Bpx11_2, Bpx11_3, Bpx11_4, Bpx11_f⟩ := Bp.c5
  have Bpl11 := Bp.lt
  go_wp2_with fail
  refine (S9.out _).mono ?_; rintro e w12 ⟨rfl, hh12⟩
  clear Bpx11_0 Bpx11_1 Bpx11_2 Bpx11_3 Bpx11_4 Bpx11_f Bpl11
  replace Bc := (Bc.alloc _).up hh12
  replace Bp := (Bp.alloc _).up hh12
  replace Ba := (Ba.alloc _).up hh12
  replace Bb := (Bb.alloc _).up hh12
  replace Bd := (Bd.alloc _).up hh12
  replace Bx := (Bx.alloc _).up hh12
  replace hU := (hU.new _).trans hh12
  clear hh12
  obtain ⟨Bcx12_0, Bcx12_1, Bcx12_2, Bcx12_3, Bcx12_f⟩ := Bc.c4
  have Bcl12 := Bc.lt
  obtain ⟨Bax12_0, Bax12_1, Bax12_2, Bax12_3, Bax12_4, Bax12_f⟩ := Ba.c5
  have Bal12 := Ba.lt
  go_wp2_with fail
  refine (S10.out _).mono ?_; rintro e w13 ⟨rfl, hh13⟩
  clear Bcx12_0 Bcx12_1 Bcx12_2 Bcx12_3 Bcx12_f Bcl12 Bax12_0 Bax12_1 Bax12_2 Bax12_3 Bax12_4 Bax12_f Bal12
  replace Bc := (Bc.alloc _).up hh13
  replace Bp := (Bp.alloc _).up hh13
  replace Ba := (Ba.alloc _).up hh13
  replace Bb := (Bb.alloc _).up hh13
  replace Bd := (Bd.alloc _).up hh13
  replace Bx := (Bx.alloc _).up hh13
  replace hU := (hU.new _).trans hh13
  clear hh13
  obtain ⟨Bpx13_0, Bpx13_1, Bpx13_2, Bpx13_3, Bpx13_4, Bpx13_f⟩ := Bp.c5
  have Bpl13 := Bp.lt
  obtain ⟨Bax13_0, Bax13_1, Bax13_2, Bax13_3, Bax13_4, Bax13_f⟩ := Ba.c5
  have Bal13 := Ba.lt
  obtain ⟨Bbx13_0, Bbx13_1, Bbx13_2, Bbx13_3, Bbx13_4, Bbx13_f⟩ := Bb.c5
  have Bbl13 := Bb.lt
  obtain ⟨Bxx13_0, Bxx13_1, Bxx13_2, Bxx13_3, Bxx13_4, Bxx13_f⟩ := Bx.c5
  have Bxl13 := Bx.lt
  go_wp2_with fail
  refine (D1.out _).mono ?_; rintro e w14 ⟨rfl, hh14⟩
  clear Bpx13_0 Bpx13_1 Bpx13_2 Bpx13_3 Bpx13_4 Bpx13_f Bpl13 Bax13_0 Bax13_1 Bax13_2 Bax13_3 Bax13_4 Bax13_f Bal13 Bbx13_0 Bbx13_1 Bbx13_2 Bbx13_3 Bbx13_4 Bbx13_f Bbl13 Bxx13_0 Bxx13_1 Bxx13_2 Bxx13_3 Bxx13_4 Bxx13_f Bxl13
  replace Bc := (Bc.alloc _).up hh14
  replace Bp := (Bp.alloc _).up hh14
  replace Ba := (Ba.alloc _).up hh14
  replace Bb := (Bb.alloc _).up hh14
  replace Bd := (Bd.alloc _).up hh14
  replace Bx := (Bx.alloc _).up hh14
  have Bf := (Blk.new w13 32 #[.bool true, .int .i64 0, .int .i64 253402300799, .bool false, .int .i64 0]).up hh14
  replace hU := (hU.new _).trans hh14
  clear hh14
  obtain ⟨Bax14_0, Bax14_1, Bax14_2, Bax14_3, Bax14_4, Bax14_f⟩ := Ba.c5
  have Bal14 := Ba.lt
  go_wp2_with fail
  refine (D2.out _).mono ?_; rintro e w15 ⟨rfl, hh15⟩
  clear Bax14_0 Bax14_1 Bax14_2 Bax14_3 Bax14_4 Bax14_f Bal14
  replace Bc := Bc.up hh15
  replace Bp := Bp.up hh15
  replace Ba := Ba.up hh15
  replace Bb := Bb.up hh15
  replace Bd := Bd.up hh15
  replace Bx := Bx.up hh15
  replace Bf := Bf.up hh15
  replace hU := hU.trans hh15
  clear hh15
  obtain ⟨Bbx15_0, Bbx15_1, Bbx15_2, Bbx15_3, Bbx15_4, Bbx15_f⟩ := Bb.c5
  have Bbl15 := Bb.lt
  go_wp2_with fail
  refine (D3.out _).mono ?_; rintro e w16 ⟨rfl, hh16⟩
  clear Bbx15_0 Bbx15_1 Bbx15_2 Bbx15_3 Bbx15_4 Bbx15_f Bbl15
  replace Bc := Bc.up hh16
  replace Bp := Bp.up hh16
  replace Ba := Ba.up hh16
  replace Bb := Bb.up hh16
  replace Bd := Bd.up hh16
  replace Bx := Bx.up hh16
  replace Bf := Bf.up hh16
  replace hU := hU.trans hh16
  clear hh16
  obtain ⟨Bcx16_0, Bcx16_1, Bcx16_2, Bcx16_3, Bcx16_f⟩ := Bc.c4
  have Bcl16 := Bc.lt
  obtain ⟨Bax16_0, Bax16_1, Bax16_2, Bax16_3, Bax16_4, Bax16_f⟩ := Ba.c5
  have Bal16 := Ba.lt
  go_wp2_with fail
  refine (L1.out _).mono ?_; rintro e w17 ⟨rfl, hh17⟩
  clear Bcx16_0 Bcx16_1 Bcx16_2 Bcx16_3 Bcx16_f Bcl16 Bax16_0 Bax16_1 Bax16_2 Bax16_3 Bax16_4 Bax16_f Bal16
  replace Bc := Bc.up hh17
  replace Bp := Bp.up hh17
  replace Ba := Ba.up hh17
  replace Bb := Bb.up hh17
  replace Bd := Bd.up hh17
  replace Bx := Bx.up hh17
  replace Bf := Bf.up hh17
  replace hU := hU.trans hh17
  clear hh17
  obtain ⟨Bcx17_0, Bcx17_1, Bcx17_2, Bcx17_3, Bcx17_f⟩ := Bc.c4
  have Bcl17 := Bc.lt
  obtain ⟨Bax17_0, Bax17_1, Bax17_2, Bax17_3, Bax17_4, Bax17_f⟩ := Ba.c5
  have Bal17 := Ba.lt
  go_wp2_with fail
  refine (L2.out _).mono ?_; rintro e w18 ⟨rfl, hh18⟩
  clear Bcx17_0 Bcx17_1 Bcx17_2 Bcx17_3 Bcx17_f Bcl17 Bax17_0 Bax17_1 Bax17_2 Bax17_3 Bax17_4 Bax17_f Bal17
  replace Bc := Bc.up hh18
  replace Bp := Bp.up hh18
  replace Ba := Ba.up hh18
  replace Bb := Bb.up hh18
  replace Bd := Bd.up hh18
  replace Bx := Bx.up hh18
  replace Bf := Bf.up hh18
  replace hU := hU.trans hh18
  clear hh18
  obtain ⟨Bcx18_0, Bcx18_1, Bcx18_2, Bcx18_3, Bcx18_f⟩ := Bc.c4
  have Bcl18 := Bc.lt
  obtain ⟨Bbx18_0, Bbx18_1, Bbx18_2, Bbx18_3, Bbx18_4, Bbx18_f⟩ := Bb.c5
  have Bbl18 := Bb.lt
  go_wp2_with fail
  refine (L3.out _).mono ?_; rintro e w19 ⟨rfl, hh19⟩
  clear Bcx18_0 Bcx18_1 Bcx18_2 Bcx18_3 Bcx18_f Bcl18 Bbx18_0 Bbx18_1 Bbx18_2 Bbx18_3 Bbx18_4 Bbx18_f Bbl18
  replace Bc := Bc.up hh19
  replace Bp := Bp.up hh19
  replace Ba := Ba.up hh19
  replace Bb := Bb.up hh19
  replace Bd := Bd.up hh19
  replace Bx := Bx.up hh19
  replace Bf := Bf.up hh19
  replace hU := hU.trans hh19
  clear hh19
  obtain ⟨Bcx19_0, Bcx19_1, Bcx19_2, Bcx19_3, Bcx19_f⟩ := Bc.c4
  have Bcl19 := Bc.lt
  go_wp2_with fail
  refine (CK.out _).mono ?_; rintro e w20 ⟨rfl, hh20⟩
  clear Bcx19_0 Bcx19_1 Bcx19_2 Bcx19_3 Bcx19_f Bcl19
  replace Bc := Bc.up hh20
  replace Bp := Bp.up hh20
  replace Ba := Ba.up hh20
  replace Bb := Bb.up hh20
  replace Bd := Bd.up hh20
  replace Bx := Bx.up hh20
  replace Bf := Bf.up hh20
  replace hU := hU.trans hh20
  clear hh20
  go_wp2_with fail
  refine (RN.out _ _ _ _).mono ?_; rintro e w21 ⟨rfl, hh21⟩
  replace Bc := (Bc.alloc _).up hh21
  replace Bp := (Bp.alloc _).up hh21
  replace Ba := (Ba.alloc _).up hh21
  replace Bb := (Bb.alloc _).up hh21
  replace Bd := (Bd.alloc _).up hh21
  replace Bx := (Bx.alloc _).up hh21
  replace Bf := (Bf.alloc _).up hh21
  replace hU := (hU.new _).trans hh21
  clear hh21
  go_wp2_with fail
  go_ret
  exact ⟨rfl, hU⟩
end Go.Proofs.Ytbmgigbcilgieaa
