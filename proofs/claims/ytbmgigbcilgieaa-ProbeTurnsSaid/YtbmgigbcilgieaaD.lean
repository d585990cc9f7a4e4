import Derived.Test.YtbmgigbcilgieaaC
import Derived.BigRegion
namespace Go.Proofs.Ytbmgigbcilgieaa
open Go.RowKit
set_option maxHeartbeats 400000
set_option maxRecDepth 100000
theorem end_no (c : PC) (p : PP) (well : Bool) (now : Int) (w : World) (h : mayE c now ≠ 0) : Calls Try.prog 14 #[c.v, p.v, .bool well, .int .i64 now] w fun e w' => e = .returned (.tuple #[p.v, .int .i64 (mayE c now)]) ∧ Up w w' := by
  obtain ⟨up, run, next, out, since⟩ := p
  obtain ⟨a, b, r, f⟩ := c
  simp only [PP.v, PC.v]
  have hm := may_any ⟨a, b, r, f⟩ now
  revert h hm
  generalize mayE ⟨a, b, r, f⟩ now = m
  intro h hm
  have hne : (m != 0) = true := by simpa using h
  have HM := Lib.hid hm
  clear h hm
  go_enter Try.func14, Try.ntmps14
  go_wp2_with fail
  refine (HM.out _).mono ?_; rintro e w1 ⟨rfl, hb⟩
  obtain ⟨d0, d1, d2, d3, d4, df⟩ := (((Blk.new_at (g := w.heap.size + 1) (w.alloc _) 32 #[.bool up, .int .i64 run, .int .i64 next, .bool out, .int .i64 since] (by simp)).alloc _).up hb).c5
  obtain ⟨r0, r1, r2, r3, r4, rf⟩ := ((Blk.new_at (g := w.heap.size + 1 + 1) ((w.alloc _).alloc _) 32 #[.bool false, .int .i64 0, .int .i64 0, .bool false, .int .i64 0] (by simp)).up hb).c5
  have hU := ((((Up.refl w).new _).new _).new _).trans hb
  clear hb
  go_wp2_with fail
  exact bodyPost_ret (v := .tuple #[.agg #[.bool up, .int .i64 run, .int .i64 next, .bool out, .int .i64 since], .int .i64 m]) (by simp [results, Try.results14, go_sem, *]) rfl ⟨rfl, ((((hU.set (by dsimp only; omega) _).set (by dsimp only; omega) _).set (by dsimp only; omega) _).set (by dsimp only; omega) _).set (by dsimp only; omega) _⟩
theorem end_out (c : PC) (p : PP) (well : Bool) (now : Int) (w : World) (h : mayE c now = 0) (ho : p.out = false) : Calls Try.prog 14 #[c.v, p.v, .bool well, .int .i64 now] w fun e w' => e = .returned (.tuple #[p.v, .int .i64 8]) ∧ Up w w' := by
  have HM : Hid (∀ v, Calls Try.prog 26 #[c.v, .int .i64 now] v fun e w' => e = .returned (.int .i64 0) ∧ Up v w') := fun v => by rw [← h]; exact may_any c now v
  clear h
  obtain ⟨up, run, next, out, since⟩ := p
  obtain ⟨a, b, r, f⟩ := c
  dsimp only at ho
  subst ho
  simp only [PP.v, PC.v] at HM ⊢
  go_enter Try.func14, Try.ntmps14
  go_wp2_with fail
  refine (HM.out _).mono ?_; rintro e w1 ⟨rfl, hb⟩
  obtain ⟨d0, d1, d2, d3, d4, df⟩ := (((Blk.new_at (g := w.heap.size + 1) (w.alloc _) 32 #[.bool up, .int .i64 run, .int .i64 next, .bool false, .int .i64 since] (by simp)).alloc _).up hb).c5
  obtain ⟨r0, r1, r2, r3, r4, rf⟩ := ((Blk.new_at (g := w.heap.size + 1 + 1) ((w.alloc _).alloc _) 32 #[.bool false, .int .i64 0, .int .i64 0, .bool false, .int .i64 0] (by simp)).up hb).c5
  have hU := ((((Up.refl w).new _).new _).new _).trans hb
  clear hb
  go_wp2_with fail
  exact bodyPost_ret (v := .tuple #[.agg #[.bool up, .int .i64 run, .int .i64 next, .bool false, .int .i64 since], .int .i64 8]) (by simp [results, Try.results14, go_sem, *]) rfl ⟨rfl, ((((hU.set (by dsimp only; omega) _).set (by dsimp only; omega) _).set (by dsimp only; omega) _).set (by dsimp only; omega) _).set (by dsimp only; omega) _⟩
theorem mayE_zero {c : PC} {now : Int} (h : mayE c now = 0) : (1 ≤ c.every ∧ c.every ≤ 253402300799) ∧ (1 ≤ c.wait ∧ c.wait ≤ 253402300799) ∧ (1 ≤ c.rise ∧ c.rise ≤ 1048576) ∧ (1 ≤ c.fall ∧ c.fall ≤ 1048576) ∧ 0 ≤ now ∧ now ≤ 253402300799 := by
  unfold mayE at h
  split at h
  · rename_i hc
    simp [chkB, inB] at hc
    split at h
    · rename_i ht
      simp [timeB] at ht
      omega
    · cases h
  · cases h
def nextOf (now every : Int) : Int := if now ≤ 253402300799 - every then now + every else 253402300799
theorem nextOf_lt {now every : Int} (h : now ≤ 253402300799 - every) : nextOf now every = now + every := by simp [nextOf, h]
theorem nextOf_ge {now every : Int} (h : ¬ now ≤ 253402300799 - every) : nextOf now every = 253402300799 - every + every := by simp [nextOf, h]
theorem end_same (c : PC) (p : PP) (now : Int) (w : World) (h : mayE c now = 0) (ho : p.out = true) : Calls Try.prog 14 #[c.v, p.v, .bool p.up, .int .i64 now] w fun e w' => e = .returned (.tuple #[.agg #[.bool p.up, .int .i64 0, .int .i64 (nextOf now c.every), .bool false, .int .i64 0], .int .i64 0]) ∧ Up w w' := by
  have HM : Hid (∀ v, Calls Try.prog 26 #[c.v, .int .i64 now] v fun e w' => e = .returned (.int .i64 0) ∧ Up v w') := fun v => by rw [← h]; exact may_any c now v
  have hz := mayE_zero h
  clear h
  obtain ⟨up, run, next, out, since⟩ := p
  obtain ⟨a, b, r, f⟩ := c
  dsimp only at ho hz 
  subst ho
  obtain ⟨⟨a1, a2⟩, _, ⟨rr1, rr2⟩, ⟨ff1, ff2⟩, n1, n2⟩ := hz
  simp only [PP.v, PC.v] at HM ⊢
  by_cases hmn : now ≤ 253402300799 - a
  · have HN := Lib.hid (nextOf_lt hmn)
    go_enter Try.func14, Try.ntmps14
    go_wp2_with fail
    refine (HM.out _).mono ?_; rintro e w1 ⟨rfl, hb⟩
    obtain ⟨e0, e1, e2, e3, ef⟩ := ((((Blk.new_at (g := w.heap.size) w 23 #[.int .i64 a, .int .i64 b, .int .i64 r, .int .i64 f] rfl).alloc _).alloc _).up hb).c4
    obtain ⟨d0, d1, d2, d3, d4, df⟩ := (((Blk.new_at (g := w.heap.size + 1) (w.alloc _) 32 #[.bool up, .int .i64 run, .int .i64 next, .bool true, .int .i64 since] (by simp)).alloc _).up hb).c5
    obtain ⟨r0, r1, r2, r3, r4, rf⟩ := ((Blk.new_at (g := w.heap.size + 1 + 1) ((w.alloc _).alloc _) 32 #[.bool false, .int .i64 0, .int .i64 0, .bool false, .int .i64 0] (by simp)).up hb).c5
    have hU := ((((Up.refl w).new _).new _).new _).trans hb
    have hw1 : w.heap.size + 1 + 1 < w1.heap.size := by have := hb.size; simp at this; omega
    clear hb
    go_wp2_with fail
    go_region
    go_wp2_with fail
    
    refine bodyPost_ret (v := .tuple #[.agg #[.bool up, .int .i64 0, .int .i64 (now + a), .bool false, .int .i64 0], .int .i64 0]) (by simp [results, Try.results14, go_sem, *]) rfl ⟨by rw [HN.out], ?_⟩
    repeat (with_reducible first | exact hU | refine Up.drew ?_ | refine Up.drewN ?_ _ | refine Up.set ?_ (by dsimp only; omega) _ | refine Up.new ?_ _)
  · have HN := Lib.hid (nextOf_ge hmn)
    go_enter Try.func14, Try.ntmps14
    go_wp2_with fail
    refine (HM.out _).mono ?_; rintro e w1 ⟨rfl, hb⟩
    obtain ⟨e0, e1, e2, e3, ef⟩ := ((((Blk.new_at (g := w.heap.size) w 23 #[.int .i64 a, .int .i64 b, .int .i64 r, .int .i64 f] rfl).alloc _).alloc _).up hb).c4
    obtain ⟨d0, d1, d2, d3, d4, df⟩ := (((Blk.new_at (g := w.heap.size + 1) (w.alloc _) 32 #[.bool up, .int .i64 run, .int .i64 next, .bool true, .int .i64 since] (by simp)).alloc _).up hb).c5
    obtain ⟨r0, r1, r2, r3, r4, rf⟩ := ((Blk.new_at (g := w.heap.size + 1 + 1) ((w.alloc _).alloc _) 32 #[.bool false, .int .i64 0, .int .i64 0, .bool false, .int .i64 0] (by simp)).up hb).c5
    have hU := ((((Up.refl w).new _).new _).new _).trans hb
    have hw1 : w.heap.size + 1 + 1 < w1.heap.size := by have := hb.size; simp at this; omega
    clear hb
    go_wp2_with fail
    go_region
    go_wp2_with fail
    
    refine bodyPost_ret (v := .tuple #[.agg #[.bool up, .int .i64 0, .int .i64 (253402300799 - a + a), .bool false, .int .i64 0], .int .i64 0]) (by simp [results, Try.results14, go_sem, *]) rfl ⟨by rw [HN.out], ?_⟩
    repeat (with_reducible first | exact hU | refine Up.drew ?_ | refine Up.drewN ?_ _ | refine Up.set ?_ (by dsimp only; omega) _ | refine Up.new ?_ _)
end Go.Proofs.Ytbmgigbcilgieaa
