import Derived.Test.YtbmgigbcilgieaaB
namespace Go.Proofs.Ytbmgigbcilgieaa
open Go.RowKit
set_option maxHeartbeats 1000000
set_option maxRecDepth 100000
theorem begin_no (c : PC) (p : PP) (now : Int) (w : World) (h : mayE c now ≠ 0) : Calls Try.prog 13 #[c.v, p.v, .int .i64 now] w fun e w' => e = .returned (.tuple #[p.v, .int .i64 (mayE c now)]) ∧ Up w w' := by
  obtain ⟨up, run, next, out, since⟩ := p
  obtain ⟨a, b, r, f⟩ := c
  simp only [PP.v, PC.v]
  have hm := may_any ⟨a, b, r, f⟩ now
  revert h hm
  generalize mayE ⟨a, b, r, f⟩ now = m
  intro h hm
  have hne : (m != 0) = true := by simpa using h
  have HM := Lib.hid hm
  clear h hm
  go_enter Try.func13, Try.ntmps13
  go_wp2_with fail
  refine (HM.out _).mono ?_; rintro e w1 ⟨rfl, hb⟩
  obtain ⟨d0, d1, d2, d3, d4, df⟩ := (((Blk.new_at (g := w.heap.size + 1) (w.alloc _) 32 #[.bool up, .int .i64 run, .int .i64 next, .bool out, .int .i64 since] (by simp)).alloc _).up hb).c5
  obtain ⟨r0, r1, r2, r3, r4, rf⟩ := ((Blk.new_at (g := w.heap.size + 1 + 1) ((w.alloc _).alloc _) 32 #[.bool false, .int .i64 0, .int .i64 0, .bool false, .int .i64 0] (by simp)).up hb).c5
  have hU := ((((Up.refl w).new _).new _).new _).trans hb
  clear hb
  go_wp2_with fail
  exact bodyPost_ret (v := .tuple #[.agg #[.bool up, .int .i64 run, .int .i64 next, .bool out, .int .i64 since], .int .i64 m]) (by simp [results, Try.results13, go_sem, *]) rfl ⟨rfl, ((((hU.set (by dsimp only; omega) _).set (by dsimp only; omega) _).set (by dsimp only; omega) _).set (by dsimp only; omega) _).set (by dsimp only; omega) _⟩
theorem begin_not (c : PC) (p : PP) (now : Int) (w : World) (h : mayE c now = 0) (hd : dueB p now = false) : Calls Try.prog 13 #[c.v, p.v, .int .i64 now] w fun e w' => e = .returned (.tuple #[p.v, .int .i64 8]) ∧ Up w w' := by
  have HM : Hid (∀ v, Calls Try.prog 26 #[c.v, .int .i64 now] v fun e w' => e = .returned (.int .i64 0) ∧ Up v w') := fun v => by rw [← h]; exact may_any c now v
  have HD : Hid (∀ v, Calls Try.prog 15 #[p.v, .int .i64 now] v fun e w' => e = .returned (.bool false) ∧ Up v w') := fun v => by rw [← hd]; exact due_any p now v
  clear h hd
  obtain ⟨up, run, next, out, since⟩ := p
  obtain ⟨a, b, r, f⟩ := c
  simp only [PP.v, PC.v] at HM HD ⊢
  go_enter Try.func13, Try.ntmps13
  go_wp2_with fail
  refine (HM.out _).mono ?_; rintro e w1 ⟨rfl, hb⟩
  have B1 := (((Blk.new_at (g := w.heap.size + 1) (w.alloc _) 32 #[.bool up, .int .i64 run, .int .i64 next, .bool out, .int .i64 since] (by simp)).alloc _).up hb)
  obtain ⟨d0, d1, d2, d3, d4, df⟩ := B1.c5
  have B2 := ((Blk.new_at (g := w.heap.size + 1 + 1) ((w.alloc _).alloc _) 32 #[.bool false, .int .i64 0, .int .i64 0, .bool false, .int .i64 0] (by simp)).up hb)
  have hU := ((((Up.refl w).new _).new _).new _).trans hb
  clear hb
  go_wp2_with fail
  refine (HD.out _).mono ?_; rintro e w2 ⟨rfl, hb⟩
  clear d0 d1 d2 d3 d4 df
  obtain ⟨d0, d1, d2, d3, d4, df⟩ := (B1.up hb).c5
  obtain ⟨r0, r1, r2, r3, r4, rf⟩ := (B2.up hb).c5
  replace hU := hU.trans hb
  clear hb B1 B2
  go_wp2_with fail
  exact bodyPost_ret (v := .tuple #[.agg #[.bool up, .int .i64 run, .int .i64 next, .bool out, .int .i64 since], .int .i64 8]) (by simp [results, Try.results13, go_sem, *]) rfl ⟨rfl, ((((hU.set (by dsimp only; omega) _).set (by dsimp only; omega) _).set (by dsimp only; omega) _).set (by dsimp only; omega) _).set (by dsimp only; omega) _⟩
theorem begin_ok (c : PC) (p : PP) (now : Int) (w : World) (h : mayE c now = 0) (hd : dueB p now = true) : Calls Try.prog 13 #[c.v, p.v, .int .i64 now] w fun e w' => e = .returned (.tuple #[({ p with out := true, since := now } : PP).v, .int .i64 0]) ∧ Up w w' := by
  have HM : Hid (∀ v, Calls Try.prog 26 #[c.v, .int .i64 now] v fun e w' => e = .returned (.int .i64 0) ∧ Up v w') := fun v => by rw [← h]; exact may_any c now v
  have HD : Hid (∀ v, Calls Try.prog 15 #[p.v, .int .i64 now] v fun e w' => e = .returned (.bool true) ∧ Up v w') := fun v => by rw [← hd]; exact due_any p now v
  clear h hd
  obtain ⟨up, run, next, out, since⟩ := p
  obtain ⟨a, b, r, f⟩ := c
  simp only [PP.v, PC.v] at HM HD ⊢
  go_enter Try.func13, Try.ntmps13
  go_wp2_with fail
  refine (HM.out _).mono ?_; rintro e w1 ⟨rfl, hb⟩
  have B1 := (((Blk.new_at (g := w.heap.size + 1) (w.alloc _) 32 #[.bool up, .int .i64 run, .int .i64 next, .bool out, .int .i64 since] (by simp)).alloc _).up hb)
  obtain ⟨d0, d1, d2, d3, d4, df⟩ := B1.c5
  have B2 := ((Blk.new_at (g := w.heap.size + 1 + 1) ((w.alloc _).alloc _) 32 #[.bool false, .int .i64 0, .int .i64 0, .bool false, .int .i64 0] (by simp)).up hb)
  have hU := ((((Up.refl w).new _).new _).new _).trans hb
  clear hb
  go_wp2_with fail
  refine (HD.out _).mono ?_; rintro e w2 ⟨rfl, hb⟩
  clear d0 d1 d2 d3 d4 df
  obtain ⟨d0, d1, d2, d3, d4, df⟩ := (B1.up hb).c5
  obtain ⟨r0, r1, r2, r3, r4, rf⟩ := (B2.up hb).c5
  replace hU := hU.trans hb
  clear hb B1 B2
  go_wp2_with fail
  exact bodyPost_ret (v := .tuple #[.agg #[.bool up, .int .i64 run, .int .i64 next, .bool true, .int .i64 now], .int .i64 0]) (by simp [results, Try.results13, go_sem, *]) rfl ⟨rfl, ((((((hU.set (by dsimp only; omega) _).set (by dsimp only; omega) _).set (by dsimp only; omega) _).set (by dsimp only; omega) _).set (by dsimp only; omega) _).set (by dsimp only; omega) _).set (by dsimp only; omega) _⟩
def begE (c : PC) (p : PP) (now : Int) : Int := if mayE c now = 0 then (if dueB p now then 0 else 8) else mayE c now
def begP (c : PC) (p : PP) (now : Int) : PP := if mayE c now = 0 ∧ dueB p now = true then { p with out := true, since := now } else p
theorem begin_any (c : PC) (p : PP) (now : Int) (w : World) : Calls Try.prog 13 #[c.v, p.v, .int .i64 now] w fun e w' => e = .returned (.tuple #[(begP c p now).v, .int .i64 (begE c p now)]) ∧ Up w w' := by
  by_cases h : mayE c now = 0
  · cases hd : dueB p now
    · rw [show begP c p now = p by simp [begP, hd], show begE c p now = 8 by simp [begE, h, hd]]
      exact begin_not c p now w h hd
    · rw [show begP c p now = { p with out := true, since := now } by simp [begP, h, hd], show begE c p now = 0 by simp [begE, h, hd]]
      exact begin_ok c p now w h hd
  · rw [show begP c p now = p by simp [begP, h], show begE c p now = mayE c now by simp [begE, h]]
    exact begin_no c p now w h
end Go.Proofs.Ytbmgigbcilgieaa
