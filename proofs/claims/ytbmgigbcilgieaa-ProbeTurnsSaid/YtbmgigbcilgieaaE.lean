import Derived.Test.YtbmgigbcilgieaaD
namespace Go.Proofs.Ytbmgigbcilgieaa
open Go.RowKit
set_option maxHeartbeats 400000
set_option maxRecDepth 100000
theorem number_true (w : World) : Calls Try.prog 27 #[.bool true] w fun e w' => e = .returned (.int .i64 1) ∧ w' = w := (number_any true w).mono fun _ _ ⟨he, hw⟩ => ⟨he, hw.symm⟩
theorem number_false (w : World) : Calls Try.prog 27 #[.bool false] w fun e w' => e = .returned (.int .i64 0) ∧ w' = w := (number_any false w).mono fun _ _ ⟨he, hw⟩ => ⟨he, hw.symm⟩
theorem end_tx (c : PC) (p : PP) (now : Int) (w : World) (h : mayE c now = 0) (ho : p.out = true) (hu : p.up = true) (hr1 : -4611686018427387904 ≤ p.run) (hr2 : p.run ≤ 4611686018427387904) (hk : c.fall ≤ p.run + 1) :
    Calls Try.prog 14 #[c.v, p.v, .bool false, .int .i64 now] w fun e w' => e = .returned (.tuple #[.agg #[.bool false, .int .i64 0, .int .i64 (nextOf now c.every), .bool false, .int .i64 0], .int .i64 0]) ∧ Up w w' := by
  have HM : Hid (∀ v, Calls Try.prog 26 #[c.v, .int .i64 now] v fun e w' => e = .returned (.int .i64 0) ∧ Up v w') := fun v => by rw [← h]; exact may_any c now v
  have hz := mayE_zero h
  clear h
  obtain ⟨up, run, next, out, since⟩ := p
  obtain ⟨a, b, r, f⟩ := c
  dsimp only at ho hz hu hr1 hr2 hk
  subst ho hu
  obtain ⟨⟨a1, a2⟩, _, ⟨rr1, rr2⟩, ⟨ff1, ff2⟩, n1, n2⟩ := hz
  simp only [PP.v, PC.v] at HM ⊢
  by_cases hmn : now ≤ 253402300799 - a
  · have HN := Lib.hid (nextOf_lt hmn)
    go_enter Try.func14, Try.ntmps14
    go_wp2_with fail
    refine (HM.out _).mono ?_; rintro e w1 ⟨rfl, hb⟩
    have B0 := ((((Blk.new_at (g := w.heap.size) w 23 #[.int .i64 a, .int .i64 b, .int .i64 r, .int .i64 f] rfl).alloc _).alloc _).up hb)
    have B1 := (((Blk.new_at (g := w.heap.size + 1) (w.alloc _) 32 #[.bool true, .int .i64 run, .int .i64 next, .bool true, .int .i64 since] (by simp)).alloc _).up hb)
    have B2 := ((Blk.new_at (g := w.heap.size + 1 + 1) ((w.alloc _).alloc _) 32 #[.bool false, .int .i64 0, .int .i64 0, .bool false, .int .i64 0] (by simp)).up hb)
    have hU := ((((Up.refl w).new _).new _).new _).trans hb
    clear hb
    obtain ⟨e0, e1, e2, e3, ef⟩ := B0.c4
    obtain ⟨d0, d1, d2, d3, d4, df⟩ := B1.c5
    go_wp2_with fail
    go_region
    clear e0 e1 e2 e3 ef d0 d1 d2 d3 d4 df
    obtain ⟨W, hW⟩ : ∃ W, W = (((w1.setCell ⟨w.heap.size + 1, 3, none⟩ (.bool false)).setCell ⟨w.heap.size + 1, 4, none⟩ (.int .i64 0)).setCell ⟨w.heap.size + 1, 2, none⟩ (.int .i64 (now + a))) := ⟨_, rfl⟩
    have C0 : Blk W w.heap.size 23 #[.int .i64 a, .int .i64 b, .int .i64 r, .int .i64 f] := by subst hW; exact ((B0.far (by simp) _).far (by simp) _).far (by simp) _
    have C1 : Blk W (w.heap.size + 1) 32 #[.bool true, .int .i64 run, .int .i64 (now + a), .bool false, .int .i64 0] := by subst hW; simpa using ((B1.set_ 3 _).set_ 4 _).set_ 2 _
    have C2 : Blk W (w.heap.size + 1 + 1) 32 #[.bool false, .int .i64 0, .int .i64 0, .bool false, .int .i64 0] := by subst hW; exact ((B2.far (by simp) _).far (by simp) _).far (by simp) _
    have hU2 : Up w W := by subst hW; exact ((hU.set (by dsimp only; omega) _).set (by dsimp only; omega) _).set (by dsimp only; omega) _
    rw [← hW]
    have HW := Lib.hid hW
    clear hW B0 B1 B2 hU
    obtain ⟨e0, e1, e2, e3, ef⟩ := C0.c4
    obtain ⟨d0, d1, d2, d3, d4, df⟩ := C1.c5
    obtain ⟨r0, r1, r2, r3, r4, rf⟩ := C2.c5
    have hw1 := C2.lt
    have hw2 := C1.lt
    have hw3 := C0.lt
    go_wp2_with (go_quiet ((go_at_call 27; exact quiet_add_same (number_true _))))


    refine bodyPost_ret (v := .tuple #[.agg #[.bool false, .int .i64 0, .int .i64 (now + a), .bool false, .int .i64 0], .int .i64 0]) (by simp [results, Try.results14, go_sem, *]) rfl ⟨by rw [HN.out], ?_⟩
    repeat (with_reducible first | exact hU2 | refine Up.drew ?_ | refine Up.drewN ?_ _ | refine Up.set ?_ (by dsimp only; omega) _ | refine Up.new ?_ _)
  · have HN := Lib.hid (nextOf_ge hmn)
    go_enter Try.func14, Try.ntmps14
    go_wp2_with fail
    refine (HM.out _).mono ?_; rintro e w1 ⟨rfl, hb⟩
    have B0 := ((((Blk.new_at (g := w.heap.size) w 23 #[.int .i64 a, .int .i64 b, .int .i64 r, .int .i64 f] rfl).alloc _).alloc _).up hb)
    have B1 := (((Blk.new_at (g := w.heap.size + 1) (w.alloc _) 32 #[.bool true, .int .i64 run, .int .i64 next, .bool true, .int .i64 since] (by simp)).alloc _).up hb)
    have B2 := ((Blk.new_at (g := w.heap.size + 1 + 1) ((w.alloc _).alloc _) 32 #[.bool false, .int .i64 0, .int .i64 0, .bool false, .int .i64 0] (by simp)).up hb)
    have hU := ((((Up.refl w).new _).new _).new _).trans hb
    clear hb
    obtain ⟨e0, e1, e2, e3, ef⟩ := B0.c4
    obtain ⟨d0, d1, d2, d3, d4, df⟩ := B1.c5
    go_wp2_with fail
    go_region
    clear e0 e1 e2 e3 ef d0 d1 d2 d3 d4 df
    obtain ⟨W, hW⟩ : ∃ W, W = (((w1.setCell ⟨w.heap.size + 1, 3, none⟩ (.bool false)).setCell ⟨w.heap.size + 1, 4, none⟩ (.int .i64 0)).setCell ⟨w.heap.size + 1, 2, none⟩ (.int .i64 253402300799)) := ⟨_, rfl⟩
    have C0 : Blk W w.heap.size 23 #[.int .i64 a, .int .i64 b, .int .i64 r, .int .i64 f] := by subst hW; exact ((B0.far (by simp) _).far (by simp) _).far (by simp) _
    have C1 : Blk W (w.heap.size + 1) 32 #[.bool true, .int .i64 run, .int .i64 253402300799, .bool false, .int .i64 0] := by subst hW; simpa using ((B1.set_ 3 _).set_ 4 _).set_ 2 _
    have C2 : Blk W (w.heap.size + 1 + 1) 32 #[.bool false, .int .i64 0, .int .i64 0, .bool false, .int .i64 0] := by subst hW; exact ((B2.far (by simp) _).far (by simp) _).far (by simp) _
    have hU2 : Up w W := by subst hW; exact ((hU.set (by dsimp only; omega) _).set (by dsimp only; omega) _).set (by dsimp only; omega) _
    rw [← hW]
    have HW := Lib.hid hW
    clear hW B0 B1 B2 hU
    obtain ⟨e0, e1, e2, e3, ef⟩ := C0.c4
    obtain ⟨d0, d1, d2, d3, d4, df⟩ := C1.c5
    obtain ⟨r0, r1, r2, r3, r4, rf⟩ := C2.c5
    have hw1 := C2.lt
    have hw2 := C1.lt
    have hw3 := C0.lt
    go_wp2_with (go_quiet ((go_at_call 27; exact quiet_add_same (number_true _))))


    refine bodyPost_ret (v := .tuple #[.agg #[.bool false, .int .i64 0, .int .i64 (253402300799 - a + a), .bool false, .int .i64 0], .int .i64 0]) (by simp [results, Try.results14, go_sem, *]) rfl ⟨by rw [HN.out], ?_⟩
    repeat (with_reducible first | exact hU2 | refine Up.drew ?_ | refine Up.drewN ?_ _ | refine Up.set ?_ (by dsimp only; omega) _ | refine Up.new ?_ _)
theorem end_tk (c : PC) (p : PP) (now : Int) (w : World) (h : mayE c now = 0) (ho : p.out = true) (hu : p.up = true) (hr1 : -4611686018427387904 ≤ p.run) (hr2 : p.run ≤ 4611686018427387904) (hk : p.run + 1 < c.fall) :
    Calls Try.prog 14 #[c.v, p.v, .bool false, .int .i64 now] w fun e w' => e = .returned (.tuple #[.agg #[.bool true, .int .i64 (p.run + 1), .int .i64 (nextOf now c.every), .bool false, .int .i64 0], .int .i64 0]) ∧ Up w w' := by
  have HM : Hid (∀ v, Calls Try.prog 26 #[c.v, .int .i64 now] v fun e w' => e = .returned (.int .i64 0) ∧ Up v w') := fun v => by rw [← h]; exact may_any c now v
  have hz := mayE_zero h
  clear h
  obtain ⟨up, run, next, out, since⟩ := p
  obtain ⟨a, b, r, f⟩ := c
  dsimp only at ho hz hu hr1 hr2 hk
  subst ho hu
  obtain ⟨⟨a1, a2⟩, _, ⟨rr1, rr2⟩, ⟨ff1, ff2⟩, n1, n2⟩ := hz
  simp only [PP.v, PC.v] at HM ⊢
  by_cases hmn : now ≤ 253402300799 - a
  · have HN := Lib.hid (nextOf_lt hmn)
    go_enter Try.func14, Try.ntmps14
    go_wp2_with fail
    refine (HM.out _).mono ?_; rintro e w1 ⟨rfl, hb⟩
    have B0 := ((((Blk.new_at (g := w.heap.size) w 23 #[.int .i64 a, .int .i64 b, .int .i64 r, .int .i64 f] rfl).alloc _).alloc _).up hb)
    have B1 := (((Blk.new_at (g := w.heap.size + 1) (w.alloc _) 32 #[.bool true, .int .i64 run, .int .i64 next, .bool true, .int .i64 since] (by simp)).alloc _).up hb)
    have B2 := ((Blk.new_at (g := w.heap.size + 1 + 1) ((w.alloc _).alloc _) 32 #[.bool false, .int .i64 0, .int .i64 0, .bool false, .int .i64 0] (by simp)).up hb)
    have hU := ((((Up.refl w).new _).new _).new _).trans hb
    clear hb
    obtain ⟨e0, e1, e2, e3, ef⟩ := B0.c4
    obtain ⟨d0, d1, d2, d3, d4, df⟩ := B1.c5
    go_wp2_with fail
    go_region
    clear e0 e1 e2 e3 ef d0 d1 d2 d3 d4 df
    obtain ⟨W, hW⟩ : ∃ W, W = (((w1.setCell ⟨w.heap.size + 1, 3, none⟩ (.bool false)).setCell ⟨w.heap.size + 1, 4, none⟩ (.int .i64 0)).setCell ⟨w.heap.size + 1, 2, none⟩ (.int .i64 (now + a))) := ⟨_, rfl⟩
    have C0 : Blk W w.heap.size 23 #[.int .i64 a, .int .i64 b, .int .i64 r, .int .i64 f] := by subst hW; exact ((B0.far (by simp) _).far (by simp) _).far (by simp) _
    have C1 : Blk W (w.heap.size + 1) 32 #[.bool true, .int .i64 run, .int .i64 (now + a), .bool false, .int .i64 0] := by subst hW; simpa using ((B1.set_ 3 _).set_ 4 _).set_ 2 _
    have C2 : Blk W (w.heap.size + 1 + 1) 32 #[.bool false, .int .i64 0, .int .i64 0, .bool false, .int .i64 0] := by subst hW; exact ((B2.far (by simp) _).far (by simp) _).far (by simp) _
    have hU2 : Up w W := by subst hW; exact ((hU.set (by dsimp only; omega) _).set (by dsimp only; omega) _).set (by dsimp only; omega) _
    rw [← hW]
    have HW := Lib.hid hW
    clear hW B0 B1 B2 hU
    obtain ⟨e0, e1, e2, e3, ef⟩ := C0.c4
    obtain ⟨d0, d1, d2, d3, d4, df⟩ := C1.c5
    obtain ⟨r0, r1, r2, r3, r4, rf⟩ := C2.c5
    have hw1 := C2.lt
    have hw2 := C1.lt
    have hw3 := C0.lt
    go_wp2_with (go_quiet ((go_at_call 27; exact quiet_add_same (number_true _))))


    refine bodyPost_ret (v := .tuple #[.agg #[.bool true, .int .i64 (run + 1), .int .i64 (now + a), .bool false, .int .i64 0], .int .i64 0]) (by simp [results, Try.results14, go_sem, *]) rfl ⟨by rw [HN.out], ?_⟩
    repeat (with_reducible first | exact hU2 | refine Up.drew ?_ | refine Up.drewN ?_ _ | refine Up.set ?_ (by dsimp only; omega) _ | refine Up.new ?_ _)
  · have HN := Lib.hid (nextOf_ge hmn)
    go_enter Try.func14, Try.ntmps14
    go_wp2_with fail
    refine (HM.out _).mono ?_; rintro e w1 ⟨rfl, hb⟩
    have B0 := ((((Blk.new_at (g := w.heap.size) w 23 #[.int .i64 a, .int .i64 b, .int .i64 r, .int .i64 f] rfl).alloc _).alloc _).up hb)
    have B1 := (((Blk.new_at (g := w.heap.size + 1) (w.alloc _) 32 #[.bool true, .int .i64 run, .int .i64 next, .bool true, .int .i64 since] (by simp)).alloc _).up hb)
    have B2 := ((Blk.new_at (g := w.heap.size + 1 + 1) ((w.alloc _).alloc _) 32 #[.bool false, .int .i64 0, .int .i64 0, .bool false, .int .i64 0] (by simp)).up hb)
    have hU := ((((Up.refl w).new _).new _).new _).trans hb
    clear hb
    obtain ⟨e0, e1, e2, e3, ef⟩ := B0.c4
    obtain ⟨d0, d1, d2, d3, d4, df⟩ := B1.c5
    go_wp2_with fail
    go_region
    clear e0 e1 e2 e3 ef d0 d1 d2 d3 d4 df
    obtain ⟨W, hW⟩ : ∃ W, W = (((w1.setCell ⟨w.heap.size + 1, 3, none⟩ (.bool false)).setCell ⟨w.heap.size + 1, 4, none⟩ (.int .i64 0)).setCell ⟨w.heap.size + 1, 2, none⟩ (.int .i64 253402300799)) := ⟨_, rfl⟩
    have C0 : Blk W w.heap.size 23 #[.int .i64 a, .int .i64 b, .int .i64 r, .int .i64 f] := by subst hW; exact ((B0.far (by simp) _).far (by simp) _).far (by simp) _
    have C1 : Blk W (w.heap.size + 1) 32 #[.bool true, .int .i64 run, .int .i64 253402300799, .bool false, .int .i64 0] := by subst hW; simpa using ((B1.set_ 3 _).set_ 4 _).set_ 2 _
    have C2 : Blk W (w.heap.size + 1 + 1) 32 #[.bool false, .int .i64 0, .int .i64 0, .bool false, .int .i64 0] := by subst hW; exact ((B2.far (by simp) _).far (by simp) _).far (by simp) _
    have hU2 : Up w W := by subst hW; exact ((hU.set (by dsimp only; omega) _).set (by dsimp only; omega) _).set (by dsimp only; omega) _
    rw [← hW]
    have HW := Lib.hid hW
    clear hW B0 B1 B2 hU
    obtain ⟨e0, e1, e2, e3, ef⟩ := C0.c4
    obtain ⟨d0, d1, d2, d3, d4, df⟩ := C1.c5
    obtain ⟨r0, r1, r2, r3, r4, rf⟩ := C2.c5
    have hw1 := C2.lt
    have hw2 := C1.lt
    have hw3 := C0.lt
    go_wp2_with (go_quiet ((go_at_call 27; exact quiet_add_same (number_true _))))


    refine bodyPost_ret (v := .tuple #[.agg #[.bool true, .int .i64 (run + 1), .int .i64 (253402300799 - a + a), .bool false, .int .i64 0], .int .i64 0]) (by simp [results, Try.results14, go_sem, *]) rfl ⟨by rw [HN.out], ?_⟩
    repeat (with_reducible first | exact hU2 | refine Up.drew ?_ | refine Up.drewN ?_ _ | refine Up.set ?_ (by dsimp only; omega) _ | refine Up.new ?_ _)
theorem end_fx (c : PC) (p : PP) (now : Int) (w : World) (h : mayE c now = 0) (ho : p.out = true) (hu : p.up = false) (hr1 : -4611686018427387904 ≤ p.run) (hr2 : p.run ≤ 4611686018427387904) (hk : c.rise ≤ p.run + 1) :
    Calls Try.prog 14 #[c.v, p.v, .bool true, .int .i64 now] w fun e w' => e = .returned (.tuple #[.agg #[.bool true, .int .i64 0, .int .i64 (nextOf now c.every), .bool false, .int .i64 0], .int .i64 0]) ∧ Up w w' := by
  have HM : Hid (∀ v, Calls Try.prog 26 #[c.v, .int .i64 now] v fun e w' => e = .returned (.int .i64 0) ∧ Up v w') := fun v => by rw [← h]; exact may_any c now v
  have hz := mayE_zero h
  clear h
  obtain ⟨up, run, next, out, since⟩ := p
  obtain ⟨a, b, r, f⟩ := c
  dsimp only at ho hz hu hr1 hr2 hk
  subst ho hu
  obtain ⟨⟨a1, a2⟩, _, ⟨rr1, rr2⟩, ⟨ff1, ff2⟩, n1, n2⟩ := hz
  simp only [PP.v, PC.v] at HM ⊢
  by_cases hmn : now ≤ 253402300799 - a
  · have HN := Lib.hid (nextOf_lt hmn)
    go_enter Try.func14, Try.ntmps14
    go_wp2_with fail
    refine (HM.out _).mono ?_; rintro e w1 ⟨rfl, hb⟩
    have B0 := ((((Blk.new_at (g := w.heap.size) w 23 #[.int .i64 a, .int .i64 b, .int .i64 r, .int .i64 f] rfl).alloc _).alloc _).up hb)
    have B1 := (((Blk.new_at (g := w.heap.size + 1) (w.alloc _) 32 #[.bool false, .int .i64 run, .int .i64 next, .bool true, .int .i64 since] (by simp)).alloc _).up hb)
    have B2 := ((Blk.new_at (g := w.heap.size + 1 + 1) ((w.alloc _).alloc _) 32 #[.bool false, .int .i64 0, .int .i64 0, .bool false, .int .i64 0] (by simp)).up hb)
    have hU := ((((Up.refl w).new _).new _).new _).trans hb
    clear hb
    obtain ⟨e0, e1, e2, e3, ef⟩ := B0.c4
    obtain ⟨d0, d1, d2, d3, d4, df⟩ := B1.c5
    go_wp2_with fail
    go_region
    clear e0 e1 e2 e3 ef d0 d1 d2 d3 d4 df
    obtain ⟨W, hW⟩ : ∃ W, W = (((w1.setCell ⟨w.heap.size + 1, 3, none⟩ (.bool false)).setCell ⟨w.heap.size + 1, 4, none⟩ (.int .i64 0)).setCell ⟨w.heap.size + 1, 2, none⟩ (.int .i64 (now + a))) := ⟨_, rfl⟩
    have C0 : Blk W w.heap.size 23 #[.int .i64 a, .int .i64 b, .int .i64 r, .int .i64 f] := by subst hW; exact ((B0.far (by simp) _).far (by simp) _).far (by simp) _
    have C1 : Blk W (w.heap.size + 1) 32 #[.bool false, .int .i64 run, .int .i64 (now + a), .bool false, .int .i64 0] := by subst hW; simpa using ((B1.set_ 3 _).set_ 4 _).set_ 2 _
    have C2 : Blk W (w.heap.size + 1 + 1) 32 #[.bool false, .int .i64 0, .int .i64 0, .bool false, .int .i64 0] := by subst hW; exact ((B2.far (by simp) _).far (by simp) _).far (by simp) _
    have hU2 : Up w W := by subst hW; exact ((hU.set (by dsimp only; omega) _).set (by dsimp only; omega) _).set (by dsimp only; omega) _
    rw [← hW]
    have HW := Lib.hid hW
    clear hW B0 B1 B2 hU
    obtain ⟨e0, e1, e2, e3, ef⟩ := C0.c4
    obtain ⟨d0, d1, d2, d3, d4, df⟩ := C1.c5
    obtain ⟨r0, r1, r2, r3, r4, rf⟩ := C2.c5
    have hw1 := C2.lt
    have hw2 := C1.lt
    have hw3 := C0.lt
    go_wp2_with (go_quiet ((go_at_call 27; exact quiet_add_same (number_false _))))


    refine bodyPost_ret (v := .tuple #[.agg #[.bool true, .int .i64 0, .int .i64 (now + a), .bool false, .int .i64 0], .int .i64 0]) (by simp [results, Try.results14, go_sem, *]) rfl ⟨by rw [HN.out], ?_⟩
    repeat (with_reducible first | exact hU2 | refine Up.drew ?_ | refine Up.drewN ?_ _ | refine Up.set ?_ (by dsimp only; omega) _ | refine Up.new ?_ _)
  · have HN := Lib.hid (nextOf_ge hmn)
    go_enter Try.func14, Try.ntmps14
    go_wp2_with fail
    refine (HM.out _).mono ?_; rintro e w1 ⟨rfl, hb⟩
    have B0 := ((((Blk.new_at (g := w.heap.size) w 23 #[.int .i64 a, .int .i64 b, .int .i64 r, .int .i64 f] rfl).alloc _).alloc _).up hb)
    have B1 := (((Blk.new_at (g := w.heap.size + 1) (w.alloc _) 32 #[.bool false, .int .i64 run, .int .i64 next, .bool true, .int .i64 since] (by simp)).alloc _).up hb)
    have B2 := ((Blk.new_at (g := w.heap.size + 1 + 1) ((w.alloc _).alloc _) 32 #[.bool false, .int .i64 0, .int .i64 0, .bool false, .int .i64 0] (by simp)).up hb)
    have hU := ((((Up.refl w).new _).new _).new _).trans hb
    clear hb
    obtain ⟨e0, e1, e2, e3, ef⟩ := B0.c4
    obtain ⟨d0, d1, d2, d3, d4, df⟩ := B1.c5
    go_wp2_with fail
    go_region
    clear e0 e1 e2 e3 ef d0 d1 d2 d3 d4 df
    obtain ⟨W, hW⟩ : ∃ W, W = (((w1.setCell ⟨w.heap.size + 1, 3, none⟩ (.bool false)).setCell ⟨w.heap.size + 1, 4, none⟩ (.int .i64 0)).setCell ⟨w.heap.size + 1, 2, none⟩ (.int .i64 253402300799)) := ⟨_, rfl⟩
    have C0 : Blk W w.heap.size 23 #[.int .i64 a, .int .i64 b, .int .i64 r, .int .i64 f] := by subst hW; exact ((B0.far (by simp) _).far (by simp) _).far (by simp) _
    have C1 : Blk W (w.heap.size + 1) 32 #[.bool false, .int .i64 run, .int .i64 253402300799, .bool false, .int .i64 0] := by subst hW; simpa using ((B1.set_ 3 _).set_ 4 _).set_ 2 _
    have C2 : Blk W (w.heap.size + 1 + 1) 32 #[.bool false, .int .i64 0, .int .i64 0, .bool false, .int .i64 0] := by subst hW; exact ((B2.far (by simp) _).far (by simp) _).far (by simp) _
    have hU2 : Up w W := by subst hW; exact ((hU.set (by dsimp only; omega) _).set (by dsimp only; omega) _).set (by dsimp only; omega) _
    rw [← hW]
    have HW := Lib.hid hW
    clear hW B0 B1 B2 hU
    obtain ⟨e0, e1, e2, e3, ef⟩ := C0.c4
    obtain ⟨d0, d1, d2, d3, d4, df⟩ := C1.c5
    obtain ⟨r0, r1, r2, r3, r4, rf⟩ := C2.c5
    have hw1 := C2.lt
    have hw2 := C1.lt
    have hw3 := C0.lt
    go_wp2_with (go_quiet ((go_at_call 27; exact quiet_add_same (number_false _))))


    refine bodyPost_ret (v := .tuple #[.agg #[.bool true, .int .i64 0, .int .i64 (253402300799 - a + a), .bool false, .int .i64 0], .int .i64 0]) (by simp [results, Try.results14, go_sem, *]) rfl ⟨by rw [HN.out], ?_⟩
    repeat (with_reducible first | exact hU2 | refine Up.drew ?_ | refine Up.drewN ?_ _ | refine Up.set ?_ (by dsimp only; omega) _ | refine Up.new ?_ _)
theorem end_fk (c : PC) (p : PP) (now : Int) (w : World) (h : mayE c now = 0) (ho : p.out = true) (hu : p.up = false) (hr1 : -4611686018427387904 ≤ p.run) (hr2 : p.run ≤ 4611686018427387904) (hk : p.run + 1 < c.rise) :
    Calls Try.prog 14 #[c.v, p.v, .bool true, .int .i64 now] w fun e w' => e = .returned (.tuple #[.agg #[.bool false, .int .i64 (p.run + 1), .int .i64 (nextOf now c.every), .bool false, .int .i64 0], .int .i64 0]) ∧ Up w w' := by
  have HM : Hid (∀ v, Calls Try.prog 26 #[c.v, .int .i64 now] v fun e w' => e = .returned (.int .i64 0) ∧ Up v w') := fun v => by rw [← h]; exact may_any c now v
  have hz := mayE_zero h
  clear h
  obtain ⟨up, run, next, out, since⟩ := p
  obtain ⟨a, b, r, f⟩ := c
  dsimp only at ho hz hu hr1 hr2 hk
  subst ho hu
  obtain ⟨⟨a1, a2⟩, _, ⟨rr1, rr2⟩, ⟨ff1, ff2⟩, n1, n2⟩ := hz
  simp only [PP.v, PC.v] at HM ⊢
  by_cases hmn : now ≤ 253402300799 - a
  · have HN := Lib.hid (nextOf_lt hmn)
    go_enter Try.func14, Try.ntmps14
    go_wp2_with fail
    refine (HM.out _).mono ?_; rintro e w1 ⟨rfl, hb⟩
    have B0 := ((((Blk.new_at (g := w.heap.size) w 23 #[.int .i64 a, .int .i64 b, .int .i64 r, .int .i64 f] rfl).alloc _).alloc _).up hb)
    have B1 := (((Blk.new_at (g := w.heap.size + 1) (w.alloc _) 32 #[.bool false, .int .i64 run, .int .i64 next, .bool true, .int .i64 since] (by simp)).alloc _).up hb)
    have B2 := ((Blk.new_at (g := w.heap.size + 1 + 1) ((w.alloc _).alloc _) 32 #[.bool false, .int .i64 0, .int .i64 0, .bool false, .int .i64 0] (by simp)).up hb)
    have hU := ((((Up.refl w).new _).new _).new _).trans hb
    clear hb
    obtain ⟨e0, e1, e2, e3, ef⟩ := B0.c4
    obtain ⟨d0, d1, d2, d3, d4, df⟩ := B1.c5
    go_wp2_with fail
    go_region
    clear e0 e1 e2 e3 ef d0 d1 d2 d3 d4 df
    obtain ⟨W, hW⟩ : ∃ W, W = (((w1.setCell ⟨w.heap.size + 1, 3, none⟩ (.bool false)).setCell ⟨w.heap.size + 1, 4, none⟩ (.int .i64 0)).setCell ⟨w.heap.size + 1, 2, none⟩ (.int .i64 (now + a))) := ⟨_, rfl⟩
    have C0 : Blk W w.heap.size 23 #[.int .i64 a, .int .i64 b, .int .i64 r, .int .i64 f] := by subst hW; exact ((B0.far (by simp) _).far (by simp) _).far (by simp) _
    have C1 : Blk W (w.heap.size + 1) 32 #[.bool false, .int .i64 run, .int .i64 (now + a), .bool false, .int .i64 0] := by subst hW; simpa using ((B1.set_ 3 _).set_ 4 _).set_ 2 _
    have C2 : Blk W (w.heap.size + 1 + 1) 32 #[.bool false, .int .i64 0, .int .i64 0, .bool false, .int .i64 0] := by subst hW; exact ((B2.far (by simp) _).far (by simp) _).far (by simp) _
    have hU2 : Up w W := by subst hW; exact ((hU.set (by dsimp only; omega) _).set (by dsimp only; omega) _).set (by dsimp only; omega) _
    rw [← hW]
    have HW := Lib.hid hW
    clear hW B0 B1 B2 hU
    obtain ⟨e0, e1, e2, e3, ef⟩ := C0.c4
    obtain ⟨d0, d1, d2, d3, d4, df⟩ := C1.c5
    obtain ⟨r0, r1, r2, r3, r4, rf⟩ := C2.c5
    have hw1 := C2.lt
    have hw2 := C1.lt
    have hw3 := C0.lt
    go_wp2_with (go_quiet ((go_at_call 27; exact quiet_add_same (number_false _))))


    refine bodyPost_ret (v := .tuple #[.agg #[.bool false, .int .i64 (run + 1), .int .i64 (now + a), .bool false, .int .i64 0], .int .i64 0]) (by simp [results, Try.results14, go_sem, *]) rfl ⟨by rw [HN.out], ?_⟩
    repeat (with_reducible first | exact hU2 | refine Up.drew ?_ | refine Up.drewN ?_ _ | refine Up.set ?_ (by dsimp only; omega) _ | refine Up.new ?_ _)
  · have HN := Lib.hid (nextOf_ge hmn)
    go_enter Try.func14, Try.ntmps14
    go_wp2_with fail
    refine (HM.out _).mono ?_; rintro e w1 ⟨rfl, hb⟩
    have B0 := ((((Blk.new_at (g := w.heap.size) w 23 #[.int .i64 a, .int .i64 b, .int .i64 r, .int .i64 f] rfl).alloc _).alloc _).up hb)
    have B1 := (((Blk.new_at (g := w.heap.size + 1) (w.alloc _) 32 #[.bool false, .int .i64 run, .int .i64 next, .bool true, .int .i64 since] (by simp)).alloc _).up hb)
    have B2 := ((Blk.new_at (g := w.heap.size + 1 + 1) ((w.alloc _).alloc _) 32 #[.bool false, .int .i64 0, .int .i64 0, .bool false, .int .i64 0] (by simp)).up hb)
    have hU := ((((Up.refl w).new _).new _).new _).trans hb
    clear hb
    obtain ⟨e0, e1, e2, e3, ef⟩ := B0.c4
    obtain ⟨d0, d1, d2, d3, d4, df⟩ := B1.c5
    go_wp2_with fail
    go_region
    clear e0 e1 e2 e3 ef d0 d1 d2 d3 d4 df
    obtain ⟨W, hW⟩ : ∃ W, W = (((w1.setCell ⟨w.heap.size + 1, 3, none⟩ (.bool false)).setCell ⟨w.heap.size + 1, 4, none⟩ (.int .i64 0)).setCell ⟨w.heap.size + 1, 2, none⟩ (.int .i64 253402300799)) := ⟨_, rfl⟩
    have C0 : Blk W w.heap.size 23 #[.int .i64 a, .int .i64 b, .int .i64 r, .int .i64 f] := by subst hW; exact ((B0.far (by simp) _).far (by simp) _).far (by simp) _
    have C1 : Blk W (w.heap.size + 1) 32 #[.bool false, .int .i64 run, .int .i64 253402300799, .bool false, .int .i64 0] := by subst hW; simpa using ((B1.set_ 3 _).set_ 4 _).set_ 2 _
    have C2 : Blk W (w.heap.size + 1 + 1) 32 #[.bool false, .int .i64 0, .int .i64 0, .bool false, .int .i64 0] := by subst hW; exact ((B2.far (by simp) _).far (by simp) _).far (by simp) _
    have hU2 : Up w W := by subst hW; exact ((hU.set (by dsimp only; omega) _).set (by dsimp only; omega) _).set (by dsimp only; omega) _
    rw [← hW]
    have HW := Lib.hid hW
    clear hW B0 B1 B2 hU
    obtain ⟨e0, e1, e2, e3, ef⟩ := C0.c4
    obtain ⟨d0, d1, d2, d3, d4, df⟩ := C1.c5
    obtain ⟨r0, r1, r2, r3, r4, rf⟩ := C2.c5
    have hw1 := C2.lt
    have hw2 := C1.lt
    have hw3 := C0.lt
    go_wp2_with (go_quiet ((go_at_call 27; exact quiet_add_same (number_false _))))


    refine bodyPost_ret (v := .tuple #[.agg #[.bool false, .int .i64 (run + 1), .int .i64 (253402300799 - a + a), .bool false, .int .i64 0], .int .i64 0]) (by simp [results, Try.results14, go_sem, *]) rfl ⟨by rw [HN.out], ?_⟩
    repeat (with_reducible first | exact hU2 | refine Up.drew ?_ | refine Up.drewN ?_ _ | refine Up.set ?_ (by dsimp only; omega) _ | refine Up.new ?_ _)
end Go.Proofs.Ytbmgigbcilgieaa
