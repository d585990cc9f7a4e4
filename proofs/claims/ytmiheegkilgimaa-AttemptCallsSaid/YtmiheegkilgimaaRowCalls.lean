/- The law AttemptCalls returns true for all arguments. No condition. -/
import Derived.Test.YtmiheegkilgimaaRows
import Derived.Test.YtmiheegkilgimaaG7h
import Derived.Test.YtmiheegkilgimaaX15
namespace Go.Proofs.Ytmiheegkilgimaa
open Go.RowKit Go.ChangeShapes Go.WideShapes Go.ChangeAt Go.Deep Go.Joins
set_option linter.unusedSimpArgs false
set_option maxRecDepth 100000
theorem own : ownKnob Try.prog.godebug = none := by kernel_rfl
theorem laidOut : laidOutB Try.prog = true := by kernel_rfl
theorem trod_float1 {HH : Type} {enc : TypeId × Value → HH} {w : World} {fuel : Nat} {t : TypeId} {cs : List Value} {x : DataW HH × List MemPlace} (ht : Try.prog.underlying t = some (.float .f64)) (h : DataW.trod enc Try.prog w 0 (fun _ => true) true fuel t cs = some x) : ∃ n : Nat, cs = [.float .f64 n] := by
  cases fuel with
  | zero => simp [DataW.trod] at h
  | succ n =>
    unfold DataW.trod at h
    rw [ht] at h
    split at h <;> simp_all
theorem sh_of_cells {T HH : Type} {enc : TypeId × Value → HH} {w : World} {f : T → List Value} {t e : TypeId} {sz : Nat} (ht : Try.prog.underlying t = some (.slice e)) (hsz : Try.prog.cellsOf e = sz) (hpos : 0 < sz) (hf : ∀ t, (f t).length = sz)
    (hR : ∀ fu cs y, cs.length = sz → DataW.trod enc Try.prog w 0 (fun _ => true) true fu e cs = some y → ∃ u, cs = f u) {v : Value} {fuel : Nat} {x : DataW HH × List MemPlace}
    (h : DataW.trod enc Try.prog w 0 (fun _ => true) true fuel t [v] = some x) : Sh w f v := by
  rcases slice_arg ht hsz hpos h (fun cs => ∃ u, cs = f u) hR with hv' | ⟨a, n, c, xs, hv', hlen, hnc, _, hR', hb⟩
  · exact .inl hv'
  · rw [hv']
    clear h hv'
    rcases Nat.eq_zero_or_pos n with rfl | hn
    · exact .inr (.inl ⟨a, c, rfl⟩)
    · obtain ⟨hs, cs, el, fz, hh, hx⟩ := hb hn
      obtain ⟨l, hl, rfl⟩ := list_of (f := f) (sz := sz) hf n xs hlen hR'
      obtain ⟨b, o, s⟩ := a
      simp only at hs
      subst hs hl
      exact .inr (.inr ⟨l, b, o, c, el, cs, fz, hn, hnc, rfl, hh, hx⟩)
theorem elem0s2 {HH : Type} {enc : TypeId × Value → HH} {w : World} {fu : Nat} {cs : List Value} {y : DataW HH × List MemPlace} (hl : cs.length = 3) (ht : DataW.trod enc Try.prog w 0 (fun _ => true) true fu 39 cs = some y) :
    ∃ (x0 : Int) (x1 : Bool) (x2 : Int), cs = [Value.int .i64 x0, Value.bool x1, Value.int .i64 x2] := by
  obtain ⟨y0, y1, y2, n, hx, _, h0, h1, h2⟩ := trod_struct3 Try.underlying39 ht
  match cs, hl with
  | [c0, c1, c2], _ =>
    have k0 : Try.prog.cellsOf 3 = 1 := by kernel_rfl
    have t0 : DataW.trod enc Try.prog w 0 (fun _ => true) true n 3 (([c0, c1, c2].drop 0).take (Try.prog.cellsOf 3)) = some y0 := h0
    rw [k0] at t0
    obtain ⟨x0, e_x0, _, _⟩ := DataW.trod_int Try.underlying3 t0
    have k1 : Try.prog.cellsOf 4 = 1 := by kernel_rfl
    have t1 : DataW.trod enc Try.prog w 0 (fun _ => true) true n 4 (([c0, c1, c2].drop 1).take (Try.prog.cellsOf 4)) = some y1 := h1
    rw [k1] at t1
    obtain ⟨x1, e_x1, _⟩ := DataW.trod_bool Try.underlying4 t1
    have k2 : Try.prog.cellsOf 3 = 1 := by kernel_rfl
    have t2 : DataW.trod enc Try.prog w 0 (fun _ => true) true n 3 (([c0, c1, c2].drop 2).take (Try.prog.cellsOf 3)) = some y2 := h2
    rw [k2] at t2
    obtain ⟨x2, e_x2, _, _⟩ := DataW.trod_int Try.underlying3 t2
    simp at e_x0 e_x1 e_x2
    subst e_x0 e_x1 e_x2
    exact ⟨x0, x1, x2, rfl⟩
theorem agg24_of_trod {H : Type} {enc : TypeId × Value → H} {w : World} {v : Value} {d : DataW H} {p : List MemPlace} {r : Reach} {b0 : Nat} (hv : Value.okWide Try.prog w r b0 24 v) (h : DataW.Trod enc Try.prog w 0 (fun _ => true) true 24 v d p) :
    ∃ (x0 : Bool) (x1 : Int) (c2 : Value), v = .agg #[.bool x0, .int .i64 x1, c2] ∧ Sh w (fun t : (Int × Bool × Int) => [Value.int .i64 t.1, Value.bool t.2.1, Value.int .i64 t.2.2]) c2 := by
  obtain ⟨c0, c1, c2, y0, y1, y2, n', rfl, _, _, t0, t1, t2⟩ := open_agg3 Try.underlying24 (by kernel_rfl) (by kernel_rfl) hv h
  obtain ⟨x0, e_x0, _⟩ := DataW.trod_bool Try.underlying4 t0
  obtain ⟨x1, e_x1, _, _⟩ := DataW.trod_int Try.underlying3 t1
  simp at e_x0 e_x1
  subst e_x0 e_x1
  exact ⟨x0, x1, c2, rfl, (sh_of_cells (f := (fun t : (Int × Bool × Int) => [Value.int .i64 t.1, Value.bool t.2.1, Value.int .i64 t.2.2])) (sz := 3) Try.underlying22 (by kernel_rfl) (by decide) (fun _ => rfl) (fun fu cs y hl ht => by
      obtain ⟨z0, z1, z2, rfl⟩ := elem0s2 hl ht
      exact ⟨(z0, z1, z2), rfl⟩) t2)⟩
abbrev GoodL (a0_0 : Bool) (a0_1 : Int) (a2 : Bool) (a3 : Int) (v0s2 : Value) (v1 : Value) (w : World) : Prop := Calls Try.prog 7 #[.agg #[.bool a0_0, .int .i64 a0_1, v0s2], v1, .bool a2, .int .i64 a3] w (fun e w1 => e = .returned (.bool true) ∧ Below w.heap.size w w1)
theorem good_nil_nil (a0_0 : Bool) (a0_1 : Int) (a2 : Bool) (a3 : Int) {w : World} : GoodL a0_0 a0_1 a2 a3 (.slice none 0 0) (.slice none 0 0) w := by
  have hL : LawOK Try.prog callT 10 100 7 [.agg #[.bool a0_0, .int .i64 a0_1, .slice none 0 0], .slice none 0 0, .bool a2, .int .i64 a3] [] 2 := law_nil_nil a0_0 a0_1 a2 a3
  refine law_calls callT_spec mixed (ρ := fun b => if b = 0 then default else default) hL rfl (fun i => match i with
    | 0 => .agg _ _ rfl (fun i => match i with | 0 => .scal _ rfl | 1 => .scal _ rfl | 2 => .of_flat (by kernel_rfl) | i + 3 => .und)
    | 1 => .of_flat (by kernel_rfl)
    | 2 => .of_flat (by kernel_rfl)
    | 3 => .of_flat (by kernel_rfl)
    | i + 4 => .und) (fun b k h => ?_)
  exact (hget_nil b k h).elim
theorem good_nil_hol (a0_0 : Bool) (a0_1 : Int) (a2 : Bool) (a3 : Int) {w : World} (ad1 : Addr) (ac1 : Nat) : GoodL a0_0 a0_1 a2 a3 (.slice none 0 0) (.slice (some ad1) 0 ac1) w := by
  have hL : LawOK Try.prog callT 10 100 7 [.agg #[.bool a0_0, .int .i64 a0_1, .slice none 0 0], .slice (some ⟨0, 0, some 0⟩) 0 0, .bool a2, .int .i64 a3] [] 2 := law_nil_hol a0_0 a0_1 a2 a3
  refine law_calls callT_spec mixed (ρ := fun b => if b = 0 then default else default) hL rfl (fun i => match i with
    | 0 => .agg _ _ rfl (fun i => match i with | 0 => .scal _ rfl | 1 => .scal _ rfl | 2 => .of_flat (by kernel_rfl) | i + 3 => .und)
    | 1 => .hollow _ _ _ _ _
    | 2 => .of_flat (by kernel_rfl)
    | 3 => .of_flat (by kernel_rfl)
    | i + 4 => .und) (fun b k h => ?_)
  exact (hget_nil b k h).elim
theorem good_nil_blk (a0_0 : Bool) (a0_1 : Int) (a2 : Bool) (a3 : Int) {w : World} {l1 : List Int} {b1 o1 c1 el1 : Nat} {cs1 : Array Value} {fz1 : Nat × Nat} (hp1 : 0 < l1.length) (hc1 : l1.length ≤ c1) (hh1 : w.heap[b1]? = some (.cells cs1 el1 fz1)) (hx1 : ∀ (i : Nat) (u : Value), (l1.flatMap (fun t : Int => [Value.int .i64 t]))[i]? = some u → cs1[o1 + i]? = some u) : GoodL a0_0 a0_1 a2 a3 (.slice none 0 0) (.slice (some ⟨b1, o1, none⟩) l1.length c1) w := by
  have hL : LawOK Try.prog callT 10 100 7 [.agg #[.bool a0_0, .int .i64 a0_1, .slice none 0 0], .slice (some ⟨1, 0, none⟩) l1.length c1, .bool a2, .int .i64 a3] [(1, ⟨el1, (l1.map fun t : Int => Value.int .i64 t), 2⟩)] 2 := law_nil_blk a0_0 a0_1 a2 a3 l1 c1 el1 hp1 hc1
  refine law_calls callT_spec mixed (ρ := fun b => if b = 0 then default else ⟨b1, o1, none⟩) hL rfl (fun i => match i with
    | 0 => .agg _ _ rfl (fun i => match i with | 0 => .scal _ rfl | 1 => .scal _ rfl | 2 => .of_flat (by kernel_rfl) | i + 3 => .und)
    | 1 => vr_slice (by decide) (by first | rfl | simp) hc1
    | 2 => .of_flat (by kernel_rfl)
    | 3 => .of_flat (by kernel_rfl)
    | i + 4 => .und) (fun b k h => ?_)
  rcases hget_cons h with ⟨rfl, rfl⟩ | h
  · refine ⟨by decide, ?_, rfl⟩
    have this : ∀ D ρ, BR D ρ ⟨b1, o1, none⟩ ⟨el1, l1.flatMap (fun t : Int => [Value.int .i64 t]), 2⟩ (szP Try.prog) w := fun D ρ => br_rows (f := (fun t : Int => [Value.int .i64 t])) (fun t u hu => by simp at hu; subst hu; rfl) hh1 hx1 D ρ
    simp only [flatMap_one] at this
    exact this _ _
  exact (hget_nil b k h).elim
theorem good_hol_nil (a0_0 : Bool) (a0_1 : Int) (a2 : Bool) (a3 : Int) {w : World} (ad0s2 : Addr) (ac0s2 : Nat) : GoodL a0_0 a0_1 a2 a3 (.slice (some ad0s2) 0 ac0s2) (.slice none 0 0) w := by
  have hL : LawOK Try.prog callT 10 100 7 [.agg #[.bool a0_0, .int .i64 a0_1, .slice (some ⟨0, 0, some 0⟩) 0 0], .slice none 0 0, .bool a2, .int .i64 a3] [] 2 := law_hol_nil a0_0 a0_1 a2 a3
  refine law_calls callT_spec mixed (ρ := fun b => if b = 0 then default else default) hL rfl (fun i => match i with
    | 0 => .agg _ _ rfl (fun i => match i with | 0 => .scal _ rfl | 1 => .scal _ rfl | 2 => .hollow _ _ _ _ _ | i + 3 => .und)
    | 1 => .of_flat (by kernel_rfl)
    | 2 => .of_flat (by kernel_rfl)
    | 3 => .of_flat (by kernel_rfl)
    | i + 4 => .und) (fun b k h => ?_)
  exact (hget_nil b k h).elim
theorem good_hol_hol (a0_0 : Bool) (a0_1 : Int) (a2 : Bool) (a3 : Int) {w : World} (ad0s2 : Addr) (ac0s2 : Nat) (ad1 : Addr) (ac1 : Nat) : GoodL a0_0 a0_1 a2 a3 (.slice (some ad0s2) 0 ac0s2) (.slice (some ad1) 0 ac1) w := by
  have hL : LawOK Try.prog callT 10 100 7 [.agg #[.bool a0_0, .int .i64 a0_1, .slice (some ⟨0, 0, some 0⟩) 0 0], .slice (some ⟨0, 0, some 0⟩) 0 0, .bool a2, .int .i64 a3] [] 2 := law_hol_hol a0_0 a0_1 a2 a3
  refine law_calls callT_spec mixed (ρ := fun b => if b = 0 then default else default) hL rfl (fun i => match i with
    | 0 => .agg _ _ rfl (fun i => match i with | 0 => .scal _ rfl | 1 => .scal _ rfl | 2 => .hollow _ _ _ _ _ | i + 3 => .und)
    | 1 => .hollow _ _ _ _ _
    | 2 => .of_flat (by kernel_rfl)
    | 3 => .of_flat (by kernel_rfl)
    | i + 4 => .und) (fun b k h => ?_)
  exact (hget_nil b k h).elim
theorem good_hol_blk (a0_0 : Bool) (a0_1 : Int) (a2 : Bool) (a3 : Int) {w : World} (ad0s2 : Addr) (ac0s2 : Nat) {l1 : List Int} {b1 o1 c1 el1 : Nat} {cs1 : Array Value} {fz1 : Nat × Nat} (hp1 : 0 < l1.length) (hc1 : l1.length ≤ c1) (hh1 : w.heap[b1]? = some (.cells cs1 el1 fz1)) (hx1 : ∀ (i : Nat) (u : Value), (l1.flatMap (fun t : Int => [Value.int .i64 t]))[i]? = some u → cs1[o1 + i]? = some u) : GoodL a0_0 a0_1 a2 a3 (.slice (some ad0s2) 0 ac0s2) (.slice (some ⟨b1, o1, none⟩) l1.length c1) w := by
  have hL : LawOK Try.prog callT 10 100 7 [.agg #[.bool a0_0, .int .i64 a0_1, .slice (some ⟨0, 0, some 0⟩) 0 0], .slice (some ⟨1, 0, none⟩) l1.length c1, .bool a2, .int .i64 a3] [(1, ⟨el1, (l1.map fun t : Int => Value.int .i64 t), 2⟩)] 2 := law_hol_blk a0_0 a0_1 a2 a3 l1 c1 el1 hp1 hc1
  refine law_calls callT_spec mixed (ρ := fun b => if b = 0 then default else ⟨b1, o1, none⟩) hL rfl (fun i => match i with
    | 0 => .agg _ _ rfl (fun i => match i with | 0 => .scal _ rfl | 1 => .scal _ rfl | 2 => .hollow _ _ _ _ _ | i + 3 => .und)
    | 1 => vr_slice (by decide) (by first | rfl | simp) hc1
    | 2 => .of_flat (by kernel_rfl)
    | 3 => .of_flat (by kernel_rfl)
    | i + 4 => .und) (fun b k h => ?_)
  rcases hget_cons h with ⟨rfl, rfl⟩ | h
  · refine ⟨by decide, ?_, rfl⟩
    have this : ∀ D ρ, BR D ρ ⟨b1, o1, none⟩ ⟨el1, l1.flatMap (fun t : Int => [Value.int .i64 t]), 2⟩ (szP Try.prog) w := fun D ρ => br_rows (f := (fun t : Int => [Value.int .i64 t])) (fun t u hu => by simp at hu; subst hu; rfl) hh1 hx1 D ρ
    simp only [flatMap_one] at this
    exact this _ _
  exact (hget_nil b k h).elim
theorem good_blk_nil (a0_0 : Bool) (a0_1 : Int) (a2 : Bool) (a3 : Int) {w : World} {l0s2 : List (Int × Bool × Int)} {b0s2 o0s2 c0s2 el0s2 : Nat} {cs0s2 : Array Value} {fz0s2 : Nat × Nat} (hp0s2 : 0 < l0s2.length) (hc0s2 : l0s2.length ≤ c0s2) (hh0s2 : w.heap[b0s2]? = some (.cells cs0s2 el0s2 fz0s2)) (hx0s2 : ∀ (i : Nat) (u : Value), (l0s2.flatMap (fun t : (Int × Bool × Int) => [Value.int .i64 t.1, Value.bool t.2.1, Value.int .i64 t.2.2]))[i]? = some u → cs0s2[o0s2 + i]? = some u) : GoodL a0_0 a0_1 a2 a3 (.slice (some ⟨b0s2, o0s2, none⟩) l0s2.length c0s2) (.slice none 0 0) w := by
  have hL : LawOK Try.prog callT 10 100 7 [.agg #[.bool a0_0, .int .i64 a0_1, .slice (some ⟨0, 0, none⟩) l0s2.length c0s2], .slice none 0 0, .bool a2, .int .i64 a3] [(0, ⟨el0s2, (l0s2.flatMap (fun t : (Int × Bool × Int) => [Value.int .i64 t.1, Value.bool t.2.1, Value.int .i64 t.2.2])), 2⟩)] 2 := law_blk_nil a0_0 a0_1 a2 a3 l0s2 c0s2 el0s2 hp0s2 hc0s2
  refine law_calls callT_spec mixed (ρ := fun b => if b = 0 then ⟨b0s2, o0s2, none⟩ else default) hL rfl (fun i => match i with
    | 0 => .agg _ _ rfl (fun i => match i with | 0 => .scal _ rfl | 1 => .scal _ rfl | 2 => vr_slice (by decide) (by first | rfl | simp) hc0s2 | i + 3 => .und)
    | 1 => .of_flat (by kernel_rfl)
    | 2 => .of_flat (by kernel_rfl)
    | 3 => .of_flat (by kernel_rfl)
    | i + 4 => .und) (fun b k h => ?_)
  rcases hget_cons h with ⟨rfl, rfl⟩ | h
  · refine ⟨by decide, ?_, rfl⟩
    have this : ∀ D ρ, BR D ρ ⟨b0s2, o0s2, none⟩ ⟨el0s2, l0s2.flatMap (fun t : (Int × Bool × Int) => [Value.int .i64 t.1, Value.bool t.2.1, Value.int .i64 t.2.2]), 2⟩ (szP Try.prog) w := fun D ρ => br_rows (f := (fun t : (Int × Bool × Int) => [Value.int .i64 t.1, Value.bool t.2.1, Value.int .i64 t.2.2])) (fun t u hu => by simp at hu; (try rcases hu with rfl | rfl | rfl) <;> (try subst hu) <;> rfl) hh0s2 hx0s2 D ρ
    exact this _ _
  exact (hget_nil b k h).elim
theorem good_blk_hol (a0_0 : Bool) (a0_1 : Int) (a2 : Bool) (a3 : Int) {w : World} {l0s2 : List (Int × Bool × Int)} {b0s2 o0s2 c0s2 el0s2 : Nat} {cs0s2 : Array Value} {fz0s2 : Nat × Nat} (hp0s2 : 0 < l0s2.length) (hc0s2 : l0s2.length ≤ c0s2) (hh0s2 : w.heap[b0s2]? = some (.cells cs0s2 el0s2 fz0s2)) (hx0s2 : ∀ (i : Nat) (u : Value), (l0s2.flatMap (fun t : (Int × Bool × Int) => [Value.int .i64 t.1, Value.bool t.2.1, Value.int .i64 t.2.2]))[i]? = some u → cs0s2[o0s2 + i]? = some u) (ad1 : Addr) (ac1 : Nat) : GoodL a0_0 a0_1 a2 a3 (.slice (some ⟨b0s2, o0s2, none⟩) l0s2.length c0s2) (.slice (some ad1) 0 ac1) w := by
  have hL : LawOK Try.prog callT 10 100 7 [.agg #[.bool a0_0, .int .i64 a0_1, .slice (some ⟨0, 0, none⟩) l0s2.length c0s2], .slice (some ⟨0, 0, some 0⟩) 0 0, .bool a2, .int .i64 a3] [(0, ⟨el0s2, (l0s2.flatMap (fun t : (Int × Bool × Int) => [Value.int .i64 t.1, Value.bool t.2.1, Value.int .i64 t.2.2])), 2⟩)] 2 := law_blk_hol a0_0 a0_1 a2 a3 l0s2 c0s2 el0s2 hp0s2 hc0s2
  refine law_calls callT_spec mixed (ρ := fun b => if b = 0 then ⟨b0s2, o0s2, none⟩ else default) hL rfl (fun i => match i with
    | 0 => .agg _ _ rfl (fun i => match i with | 0 => .scal _ rfl | 1 => .scal _ rfl | 2 => vr_slice (by decide) (by first | rfl | simp) hc0s2 | i + 3 => .und)
    | 1 => .hollow _ _ _ _ _
    | 2 => .of_flat (by kernel_rfl)
    | 3 => .of_flat (by kernel_rfl)
    | i + 4 => .und) (fun b k h => ?_)
  rcases hget_cons h with ⟨rfl, rfl⟩ | h
  · refine ⟨by decide, ?_, rfl⟩
    have this : ∀ D ρ, BR D ρ ⟨b0s2, o0s2, none⟩ ⟨el0s2, l0s2.flatMap (fun t : (Int × Bool × Int) => [Value.int .i64 t.1, Value.bool t.2.1, Value.int .i64 t.2.2]), 2⟩ (szP Try.prog) w := fun D ρ => br_rows (f := (fun t : (Int × Bool × Int) => [Value.int .i64 t.1, Value.bool t.2.1, Value.int .i64 t.2.2])) (fun t u hu => by simp at hu; (try rcases hu with rfl | rfl | rfl) <;> (try subst hu) <;> rfl) hh0s2 hx0s2 D ρ
    exact this _ _
  exact (hget_nil b k h).elim
theorem good_blk_blk (a0_0 : Bool) (a0_1 : Int) (a2 : Bool) (a3 : Int) {w : World} {l0s2 : List (Int × Bool × Int)} {b0s2 o0s2 c0s2 el0s2 : Nat} {cs0s2 : Array Value} {fz0s2 : Nat × Nat} (hp0s2 : 0 < l0s2.length) (hc0s2 : l0s2.length ≤ c0s2) (hh0s2 : w.heap[b0s2]? = some (.cells cs0s2 el0s2 fz0s2)) (hx0s2 : ∀ (i : Nat) (u : Value), (l0s2.flatMap (fun t : (Int × Bool × Int) => [Value.int .i64 t.1, Value.bool t.2.1, Value.int .i64 t.2.2]))[i]? = some u → cs0s2[o0s2 + i]? = some u) {l1 : List Int} {b1 o1 c1 el1 : Nat} {cs1 : Array Value} {fz1 : Nat × Nat} (hp1 : 0 < l1.length) (hc1 : l1.length ≤ c1) (hh1 : w.heap[b1]? = some (.cells cs1 el1 fz1)) (hx1 : ∀ (i : Nat) (u : Value), (l1.flatMap (fun t : Int => [Value.int .i64 t]))[i]? = some u → cs1[o1 + i]? = some u) : GoodL a0_0 a0_1 a2 a3 (.slice (some ⟨b0s2, o0s2, none⟩) l0s2.length c0s2) (.slice (some ⟨b1, o1, none⟩) l1.length c1) w := by
  have hL : LawOK Try.prog callT 10 100 7 [.agg #[.bool a0_0, .int .i64 a0_1, .slice (some ⟨0, 0, none⟩) l0s2.length c0s2], .slice (some ⟨1, 0, none⟩) l1.length c1, .bool a2, .int .i64 a3] [(0, ⟨el0s2, (l0s2.flatMap (fun t : (Int × Bool × Int) => [Value.int .i64 t.1, Value.bool t.2.1, Value.int .i64 t.2.2])), 2⟩), (1, ⟨el1, (l1.map fun t : Int => Value.int .i64 t), 2⟩)] 2 := law_blk_blk a0_0 a0_1 a2 a3 l0s2 c0s2 el0s2 l1 c1 el1 hp0s2 hc0s2 hp1 hc1
  refine law_calls callT_spec mixed (ρ := fun b => if b = 0 then ⟨b0s2, o0s2, none⟩ else ⟨b1, o1, none⟩) hL rfl (fun i => match i with
    | 0 => .agg _ _ rfl (fun i => match i with | 0 => .scal _ rfl | 1 => .scal _ rfl | 2 => vr_slice (by decide) (by first | rfl | simp) hc0s2 | i + 3 => .und)
    | 1 => vr_slice (by decide) (by first | rfl | simp) hc1
    | 2 => .of_flat (by kernel_rfl)
    | 3 => .of_flat (by kernel_rfl)
    | i + 4 => .und) (fun b k h => ?_)
  rcases hget_cons h with ⟨rfl, rfl⟩ | h
  · refine ⟨by decide, ?_, rfl⟩
    have this : ∀ D ρ, BR D ρ ⟨b0s2, o0s2, none⟩ ⟨el0s2, l0s2.flatMap (fun t : (Int × Bool × Int) => [Value.int .i64 t.1, Value.bool t.2.1, Value.int .i64 t.2.2]), 2⟩ (szP Try.prog) w := fun D ρ => br_rows (f := (fun t : (Int × Bool × Int) => [Value.int .i64 t.1, Value.bool t.2.1, Value.int .i64 t.2.2])) (fun t u hu => by simp at hu; (try rcases hu with rfl | rfl | rfl) <;> (try subst hu) <;> rfl) hh0s2 hx0s2 D ρ
    exact this _ _
  rcases hget_cons h with ⟨rfl, rfl⟩ | h
  · refine ⟨by decide, ?_, rfl⟩
    have this : ∀ D ρ, BR D ρ ⟨b1, o1, none⟩ ⟨el1, l1.flatMap (fun t : Int => [Value.int .i64 t]), 2⟩ (szP Try.prog) w := fun D ρ => br_rows (f := (fun t : Int => [Value.int .i64 t])) (fun t u hu => by simp at hu; subst hu; rfl) hh1 hx1 D ρ
    simp only [flatMap_one] at this
    exact this _ _
  exact (hget_nil b k h).elim
theorem lawgood_any (a0_0 : Bool) (a0_1 : Int) (a2 : Bool) (a3 : Int) {w : World} {v0s2 : Value} {v1 : Value} (s0s2 : Sh w (fun t : (Int × Bool × Int) => [Value.int .i64 t.1, Value.bool t.2.1, Value.int .i64 t.2.2]) v0s2) (s1 : Sh w (fun t : Int => [Value.int .i64 t]) v1) : GoodL a0_0 a0_1 a2 a3 v0s2 v1 w := by
  rcases s0s2 with rfl | ⟨ad0s2, ac0s2, rfl⟩ | ⟨l0s2, b0s2, o0s2, c0s2, el0s2, cs0s2, fz0s2, hp0s2, hc0s2, rfl, hh0s2, hx0s2⟩ <;> rcases s1 with rfl | ⟨ad1, ac1, rfl⟩ | ⟨l1, b1, o1, c1, el1, cs1, fz1, hp1, hc1, rfl, hh1, hx1⟩
  · exact good_nil_nil a0_0 a0_1 a2 a3
  · exact good_nil_hol a0_0 a0_1 a2 a3 ad1 ac1
  · exact good_nil_blk a0_0 a0_1 a2 a3 hp1 hc1 hh1 hx1
  · exact good_hol_nil a0_0 a0_1 a2 a3 ad0s2 ac0s2
  · exact good_hol_hol a0_0 a0_1 a2 a3 ad0s2 ac0s2 ad1 ac1
  · exact good_hol_blk a0_0 a0_1 a2 a3 ad0s2 ac0s2 hp1 hc1 hh1 hx1
  · exact good_blk_nil a0_0 a0_1 a2 a3 hp0s2 hc0s2 hh0s2 hx0s2
  · exact good_blk_hol a0_0 a0_1 a2 a3 hp0s2 hc0s2 hh0s2 hx0s2 ad1 ac1
  · exact good_blk_blk a0_0 a0_1 a2 a3 hp0s2 hc0s2 hh0s2 hx0s2 hp1 hc1 hh1 hx1
theorem opened (W : World) {H : Type} {enc : TypeId × Value → H} {r : Reach} {base : Nat} {d0 d1 d2 d3 : DataW H} {p0 p1 p2 p3 : List MemPlace} (v0 v1 v2 v3 : Value) (o0 : Value.okWide Try.prog W r base 24 v0) (o1 : Value.okWide Try.prog W r base 25 v1) (o2 : Value.okWide Try.prog W r base 4 v2) (o3 : Value.okWide Try.prog W r base 3 v3)
    (h0 : DataW.Trod enc Try.prog W 0 (fun _ => true) true 24 v0 d0 p0) (h1 : DataW.Trod enc Try.prog W 0 (fun _ => true) true 25 v1 d1 p1) (h2 : DataW.Trod enc Try.prog W 0 (fun _ => true) true 4 v2 d2 p2) (h3 : DataW.Trod enc Try.prog W 0 (fun _ => true) true 3 v3 d3 p3) : Calls Try.prog 7 #[v0, v1, v2, v3] W fun e W' => e = .returned (.bool true) ∧ Below W.heap.size W W' := by
  obtain ⟨a0_0, a0_1, v0s2, rfl, s0s2⟩ := agg24_of_trod o0 h0
  obtain ⟨a2, rfl⟩ := okWide_bool Try.underlying4 o2
  obtain ⟨a3, rfl⟩ := okWide_int Try.underlying3 o3
  exact lawgood_any a0_0 a0_1 a2 a3 s0s2 (sh_of_trod (f := (fun t : Int => [Value.int .i64 t])) (sz := 1) Try.underlying25 (by kernel_rfl) (by decide) (fun _ => rfl) (fun fu cs y hl ht => by obtain ⟨b, e_b, _, _⟩ := DataW.trod_int Try.underlying3 ht; exact ⟨b, by simpa using e_b⟩) o1 h1)
theorem attemptCalls_holds_lifted (os : Os) (started : os.Started) (H : Type) (enc : TypeId × Value → H) :
    ReturnsInHanded {} Try.checked os 7 .any (Rows.attemptCallsSpec.pre6 enc Try.prog Try.f7 Rows.attemptCallsRow.domain false) (Rows.attemptCallsSpec.post enc Try.prog Try.f7 false true false false) := by
  refine returnsInHanded_of_change (C := Try.checked) own started (by kernel_rfl) Try.func7
    (ChangeSpec.witness6 (enc := enc) (C := Try.checked) false ⟨#[], #[.agg #[.bool false, .int .i64 0, .slice none 0 0], .slice none 0 0, .bool false, .int .i64 0], []⟩ 8 (by kernel_rfl) (by kernel_rfl) (by kernel_rfl) (by kernel_rfl)) ?_
  intro W base args ds gs before hval0 hW hcnd _
  have hval : ∀ (j : Nat) t v, Try.f7.params[j]? = some t → args[j]? = some v → Value.okWide Try.prog W .any base t v := hval0
  have hW' := hW
  obtain ⟨p, q, hA0, hV, rfl, hfz, hnd⟩ := hW
  have hA : DataW.TrodAll enc Try.prog W 0 (fun _ => true) true Try.f7.params.toList args.toList ds p := hA0
  rw [Try.params7] at hA hval
  obtain ⟨v0, vs0, d0, ds0, p0, q0, hargs, rfl, rfl, h0, r0⟩ := trodAll_cons hA
  obtain ⟨v1, vs1, d1, ds1, p1, q1, rfl, rfl, rfl, h1, r1⟩ := trodAll_cons r0
  obtain ⟨v2, vs2, d2, ds2, p2, q2, rfl, rfl, rfl, h2, r2⟩ := trodAll_cons r1
  obtain ⟨v3, vs3, d3, ds3, p3, q3, rfl, rfl, rfl, h3, r3⟩ := trodAll_cons r2
  obtain ⟨rfl, rfl, rfl⟩ := trodAll_nil r3
  obtain rfl : args = #[v0, v1, v2, v3] := by cases args; simp_all
  obtain ⟨rfl, rfl⟩ := trodVars_none hV
  have lt0 : ∀ x ∈ p0, x.block < W.heap.size := by obtain ⟨m, hm⟩ := h0; exact DataW.trod_lt m _ _ _ hm
  have lt1 : ∀ x ∈ p1, x.block < W.heap.size := by obtain ⟨m, hm⟩ := h1; exact DataW.trod_lt m _ _ _ hm
  have lt2 : ∀ x ∈ p2, x.block < W.heap.size := by obtain ⟨m, hm⟩ := h2; exact DataW.trod_lt m _ _ _ hm
  have lt3 : ∀ x ∈ p3, x.block < W.heap.size := by obtain ⟨m, hm⟩ := h3; exact DataW.trod_lt m _ _ _ hm
  clear hA0 hval0
  refine (opened W v0 v1 v2 v3 (hval 0 24 v0 rfl rfl) (hval 1 25 v1 rfl rfl) (hval 2 4 v2 rfl rfl) (hval 3 3 v3 rfl rfl) h0 h1 h2 h3).mono fun e W' ⟨he, bel⟩ => ?_
  subst he
  exact ⟨_, rfl, _, _, _, [], _, [], hW', trodAll_mk1 (shut_bool Try.underlying4 _), (trodAll_cons_mk (Below.trod laidOut (by kernel_rfl) (of_decide_eq_true (by kernel_rfl)) h0 bel lt0) (trodAll_cons_mk (Below.trod laidOut (by kernel_rfl) (of_decide_eq_true (by kernel_rfl)) h1 bel lt1) (trodAll_cons_mk (Below.trod laidOut (by kernel_rfl) (of_decide_eq_true (by kernel_rfl)) h2 bel lt2) (trodAll_cons_mk (Below.trod laidOut (by kernel_rfl) (of_decide_eq_true (by kernel_rfl)) h3 bel lt3) trodAll_mk0)))), rfl, bel.frame _, fun h => by cases h⟩
theorem attemptCalls_holds : Rows.AttemptCallsSaid :=
  OpenClaim.holds_of_wide 7 Try.f7 rfl rfl rfl rfl rfl rfl rfl ⟨rfl, rfl, rfl, rfl, rfl⟩ rfl rfl rfl rfl rfl (by kernel_rfl) Try.func7 (by kernel_rfl)
    (of_decide_eq_true (by kernel_rfl)) (by unfold Func.isWrapper; first | (rw [if_pos (by decide +kernel)]; kernel_rfl) | (rw [if_neg (by decide +kernel)]; exact ⟨rfl, rfl⟩))
    (fun os started H enc _ => attemptCalls_holds_lifted os started H enc)
#print axioms attemptCalls_holds
end Go.Proofs.Ytmiheegkilgimaa
