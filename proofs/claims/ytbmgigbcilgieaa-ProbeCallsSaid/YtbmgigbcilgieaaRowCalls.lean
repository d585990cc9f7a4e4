/- The law ProbeCalls returns true for all arguments. No condition. -/
import Derived.Test.YtbmgigbcilgieaaRows
import Derived.Test.YtbmgigbcilgieaaC6
import Derived.Test.YtbmgigbcilgieaaX15
namespace Go.Proofs.Ytbmgigbcilgieaa
open Go.RowKit Go.ChangeShapes Go.WideShapes Go.ChangeAt Go.Deep Go.Joins
set_option maxRecDepth 100000
theorem own : ownKnob Try.prog.godebug = none := by kernel_rfl
theorem laidOut : laidOutB Try.prog = true := by kernel_rfl
theorem agg23_of_trod {H : Type} {enc : TypeId × Value → H} {w : World} {v : Value} {d : DataW H} {p : List MemPlace} {r : Reach} {b0 : Nat} (hv : Value.okWide Try.prog w r b0 23 v) (h : DataW.Trod enc Try.prog w 0 (fun _ => true) true 23 v d p) :
    ∃ (x0 : Int) (x1 : Int) (x2 : Int) (x3 : Int), v = .agg #[.int .i64 x0, .int .i64 x1, .int .i64 x2, .int .i64 x3] := by
  obtain ⟨c0, c1, c2, c3, y0, y1, y2, y3, n', rfl, _, _, t0, t1, t2, t3⟩ := open_agg4 Try.underlying23 (by kernel_rfl) (by kernel_rfl) hv h
  obtain ⟨x0, e_x0, _, _⟩ := DataW.trod_int Try.underlying2 t0
  obtain ⟨x1, e_x1, _, _⟩ := DataW.trod_int Try.underlying2 t1
  obtain ⟨x2, e_x2, _, _⟩ := DataW.trod_int Try.underlying3 t2
  obtain ⟨x3, e_x3, _, _⟩ := DataW.trod_int Try.underlying3 t3
  simp at e_x0 e_x1 e_x2 e_x3
  subst e_x0 e_x1 e_x2 e_x3
  exact ⟨x0, x1, x2, x3, rfl⟩
theorem agg32_of_trod {H : Type} {enc : TypeId × Value → H} {w : World} {v : Value} {d : DataW H} {p : List MemPlace} {r : Reach} {b0 : Nat} (hv : Value.okWide Try.prog w r b0 32 v) (h : DataW.Trod enc Try.prog w 0 (fun _ => true) true 32 v d p) :
    ∃ (x0 : Bool) (x1 : Int) (x2 : Int) (x3 : Bool) (x4 : Int), v = .agg #[.bool x0, .int .i64 x1, .int .i64 x2, .bool x3, .int .i64 x4] := by
  obtain ⟨c0, c1, c2, c3, c4, y0, y1, y2, y3, y4, n', rfl, _, _, t0, t1, t2, t3, t4⟩ := open_agg5 Try.underlying32 (by kernel_rfl) (by kernel_rfl) hv h
  obtain ⟨x0, e_x0, _⟩ := DataW.trod_bool Try.underlying4 t0
  obtain ⟨x1, e_x1, _, _⟩ := DataW.trod_int Try.underlying3 t1
  obtain ⟨x2, e_x2, _, _⟩ := DataW.trod_int Try.underlying2 t2
  obtain ⟨x3, e_x3, _⟩ := DataW.trod_bool Try.underlying4 t3
  obtain ⟨x4, e_x4, _, _⟩ := DataW.trod_int Try.underlying2 t4
  simp at e_x0 e_x1 e_x2 e_x3 e_x4
  subst e_x0 e_x1 e_x2 e_x3 e_x4
  exact ⟨x0, x1, x2, x3, x4, rfl⟩
abbrev GoodL (a0_0 : Int) (a0_1 : Int) (a0_2 : Int) (a0_3 : Int) (a1_0 : Bool) (a1_1 : Int) (a1_2 : Int) (a1_3 : Bool) (a1_4 : Int) (a2 : Bool) (a3 : Int) (v4 : Value) (w : World) : Prop := Calls Try.prog 5 #[.agg #[.int .i64 a0_0, .int .i64 a0_1, .int .i64 a0_2, .int .i64 a0_3], .agg #[.bool a1_0, .int .i64 a1_1, .int .i64 a1_2, .bool a1_3, .int .i64 a1_4], .bool a2, .int .i64 a3, v4] w (fun e w1 => e = .returned (.bool true) ∧ Below w.heap.size w w1)
theorem good_nil (a0_0 : Int) (a0_1 : Int) (a0_2 : Int) (a0_3 : Int) (a1_0 : Bool) (a1_1 : Int) (a1_2 : Int) (a1_3 : Bool) (a1_4 : Int) (a2 : Bool) (a3 : Int) {w : World} : GoodL a0_0 a0_1 a0_2 a0_3 a1_0 a1_1 a1_2 a1_3 a1_4 a2 a3 (.slice none 0 0) w := by
  have hL : LawOK Try.prog callR 10 100 5 [.agg #[.int .i64 a0_0, .int .i64 a0_1, .int .i64 a0_2, .int .i64 a0_3], .agg #[.bool a1_0, .int .i64 a1_1, .int .i64 a1_2, .bool a1_3, .int .i64 a1_4], .bool a2, .int .i64 a3, .slice none 0 0] [] 1 := law_nil a0_0 a0_1 a0_2 a0_3 a1_0 a1_1 a1_2 a1_3 a1_4 a2 a3
  refine law_calls callR_spec mixed (ρ := fun b => default) hL rfl (fun i => match i with
    | 0 => .of_flat (by kernel_rfl)
    | 1 => .of_flat (by kernel_rfl)
    | 2 => .of_flat (by kernel_rfl)
    | 3 => .of_flat (by kernel_rfl)
    | 4 => .of_flat (by kernel_rfl)
    | i + 5 => .und) (fun b k h => ?_)
  exact (hget_nil b k h).elim
theorem good_hol (a0_0 : Int) (a0_1 : Int) (a0_2 : Int) (a0_3 : Int) (a1_0 : Bool) (a1_1 : Int) (a1_2 : Int) (a1_3 : Bool) (a1_4 : Int) (a2 : Bool) (a3 : Int) {w : World} (ad4 : Addr) (ac4 : Nat) : GoodL a0_0 a0_1 a0_2 a0_3 a1_0 a1_1 a1_2 a1_3 a1_4 a2 a3 (.slice (some ad4) 0 ac4) w := by
  have hL : LawOK Try.prog callR 10 100 5 [.agg #[.int .i64 a0_0, .int .i64 a0_1, .int .i64 a0_2, .int .i64 a0_3], .agg #[.bool a1_0, .int .i64 a1_1, .int .i64 a1_2, .bool a1_3, .int .i64 a1_4], .bool a2, .int .i64 a3, .slice (some ⟨0, 0, some 0⟩) 0 0] [] 1 := law_hol a0_0 a0_1 a0_2 a0_3 a1_0 a1_1 a1_2 a1_3 a1_4 a2 a3
  refine law_calls callR_spec mixed (ρ := fun b => default) hL rfl (fun i => match i with
    | 0 => .of_flat (by kernel_rfl)
    | 1 => .of_flat (by kernel_rfl)
    | 2 => .of_flat (by kernel_rfl)
    | 3 => .of_flat (by kernel_rfl)
    | 4 => .hollow _ _ _ _ _
    | i + 5 => .und) (fun b k h => ?_)
  exact (hget_nil b k h).elim
theorem good_blk (a0_0 : Int) (a0_1 : Int) (a0_2 : Int) (a0_3 : Int) (a1_0 : Bool) (a1_1 : Int) (a1_2 : Int) (a1_3 : Bool) (a1_4 : Int) (a2 : Bool) (a3 : Int) {w : World} {l4 : List Bool} {b4 o4 c4 el4 : Nat} {cs4 : Array Value} {fz4 : Nat × Nat} (hp4 : 0 < l4.length) (hc4 : l4.length ≤ c4) (hh4 : w.heap[b4]? = some (.cells cs4 el4 fz4)) (hx4 : ∀ (i : Nat) (u : Value), (l4.flatMap (fun t : Bool => [Value.bool t]))[i]? = some u → cs4[o4 + i]? = some u) : GoodL a0_0 a0_1 a0_2 a0_3 a1_0 a1_1 a1_2 a1_3 a1_4 a2 a3 (.slice (some ⟨b4, o4, none⟩) l4.length c4) w := by
  have hL : LawOK Try.prog callR 10 100 5 [.agg #[.int .i64 a0_0, .int .i64 a0_1, .int .i64 a0_2, .int .i64 a0_3], .agg #[.bool a1_0, .int .i64 a1_1, .int .i64 a1_2, .bool a1_3, .int .i64 a1_4], .bool a2, .int .i64 a3, .slice (some ⟨0, 0, none⟩) l4.length c4] [(0, ⟨el4, (l4.map fun t : Bool => Value.bool t), 2⟩)] 1 := law_blk a0_0 a0_1 a0_2 a0_3 a1_0 a1_1 a1_2 a1_3 a1_4 a2 a3 l4 c4 el4 hp4 hc4
  refine law_calls callR_spec mixed (ρ := fun b => ⟨b4, o4, none⟩) hL rfl (fun i => match i with
    | 0 => .of_flat (by kernel_rfl)
    | 1 => .of_flat (by kernel_rfl)
    | 2 => .of_flat (by kernel_rfl)
    | 3 => .of_flat (by kernel_rfl)
    | 4 => vr_slice (by decide) (by first | rfl | simp) hc4
    | i + 5 => .und) (fun b k h => ?_)
  rcases hget_cons h with ⟨rfl, rfl⟩ | h
  · refine ⟨by decide, ?_, rfl⟩
    have this : ∀ D ρ, BR D ρ ⟨b4, o4, none⟩ ⟨el4, l4.flatMap (fun t : Bool => [Value.bool t]), 2⟩ (szP Try.prog) w := fun D ρ => br_rows (f := (fun t : Bool => [Value.bool t])) (fun t u hu => by simp at hu; subst hu; rfl) hh4 hx4 D ρ
    simp only [flatMap_one] at this
    exact this _ _
  exact (hget_nil b k h).elim
theorem good_any (a0_0 : Int) (a0_1 : Int) (a0_2 : Int) (a0_3 : Int) (a1_0 : Bool) (a1_1 : Int) (a1_2 : Int) (a1_3 : Bool) (a1_4 : Int) (a2 : Bool) (a3 : Int) {w : World} {v4 : Value} (s4 : Sh w (fun t : Bool => [Value.bool t]) v4) : GoodL a0_0 a0_1 a0_2 a0_3 a1_0 a1_1 a1_2 a1_3 a1_4 a2 a3 v4 w := by
  rcases s4 with rfl | ⟨ad4, ac4, rfl⟩ | ⟨l4, b4, o4, c4, el4, cs4, fz4, hp4, hc4, rfl, hh4, hx4⟩
  · exact good_nil a0_0 a0_1 a0_2 a0_3 a1_0 a1_1 a1_2 a1_3 a1_4 a2 a3
  · exact good_hol a0_0 a0_1 a0_2 a0_3 a1_0 a1_1 a1_2 a1_3 a1_4 a2 a3 ad4 ac4
  · exact good_blk a0_0 a0_1 a0_2 a0_3 a1_0 a1_1 a1_2 a1_3 a1_4 a2 a3 hp4 hc4 hh4 hx4
theorem opened (W : World) {H : Type} {enc : TypeId × Value → H} {r : Reach} {base : Nat} {d0 d1 d2 d3 d4 : DataW H} {p0 p1 p2 p3 p4 : List MemPlace} (v0 v1 v2 v3 v4 : Value) (o0 : Value.okWide Try.prog W r base 23 v0) (o1 : Value.okWide Try.prog W r base 32 v1) (o2 : Value.okWide Try.prog W r base 4 v2) (o3 : Value.okWide Try.prog W r base 2 v3) (o4 : Value.okWide Try.prog W r base 24 v4)
    (h0 : DataW.Trod enc Try.prog W 0 (fun _ => true) true 23 v0 d0 p0) (h1 : DataW.Trod enc Try.prog W 0 (fun _ => true) true 32 v1 d1 p1) (h2 : DataW.Trod enc Try.prog W 0 (fun _ => true) true 4 v2 d2 p2) (h3 : DataW.Trod enc Try.prog W 0 (fun _ => true) true 2 v3 d3 p3) (h4 : DataW.Trod enc Try.prog W 0 (fun _ => true) true 24 v4 d4 p4) : Calls Try.prog 5 #[v0, v1, v2, v3, v4] W fun e W' => e = .returned (.bool true) ∧ Below W.heap.size W W' := by
  obtain ⟨a0_0, a0_1, a0_2, a0_3, rfl⟩ := agg23_of_trod o0 h0
  obtain ⟨a1_0, a1_1, a1_2, a1_3, a1_4, rfl⟩ := agg32_of_trod o1 h1
  obtain ⟨a2, rfl⟩ := okWide_bool Try.underlying4 o2
  obtain ⟨a3, rfl⟩ := okWide_int Try.underlying2 o3
  exact good_any a0_0 a0_1 a0_2 a0_3 a1_0 a1_1 a1_2 a1_3 a1_4 a2 a3 (sh_of_trod (f := (fun t : Bool => [Value.bool t])) (sz := 1) Try.underlying24 (by kernel_rfl) (by decide) (fun _ => rfl) (fun fu cs y hl ht => by obtain ⟨b, e_b, _⟩ := DataW.trod_bool Try.underlying4 ht; exact ⟨b, by simpa using e_b⟩) o4 h4)
theorem probeCalls_holds_lifted (os : Os) (started : os.Started) (H : Type) (enc : TypeId × Value → H) :
    ReturnsInHanded {} Try.checked os 5 .any (Rows.probeCallsSpec.pre6 enc Try.prog Try.f5 Rows.probeCallsRow.domain false) (Rows.probeCallsSpec.post enc Try.prog Try.f5 false true false false) := by
  refine returnsInHanded_of_change (C := Try.checked) own started (by kernel_rfl) Try.func5
    (ChangeSpec.witness6 (enc := enc) (C := Try.checked) false ⟨#[], #[.agg #[.int .i64 0, .int .i64 0, .int .i64 0, .int .i64 0], .agg #[.bool false, .int .i64 0, .int .i64 0, .bool false, .int .i64 0], .bool false, .int .i64 0, .slice none 0 0], []⟩ 8 (by kernel_rfl) (by kernel_rfl) (by kernel_rfl) (by kernel_rfl)) ?_
  intro W base args ds gs before hval0 hW hcnd _
  have hval : ∀ (j : Nat) t v, Try.f5.params[j]? = some t → args[j]? = some v → Value.okWide Try.prog W .any base t v := hval0
  have hW' := hW
  obtain ⟨p, q, hA0, hV, rfl, hfz, hnd⟩ := hW
  have hA : DataW.TrodAll enc Try.prog W 0 (fun _ => true) true Try.f5.params.toList args.toList ds p := hA0
  rw [Try.params5] at hA hval
  obtain ⟨v0, vs0, d0, ds0, p0, q0, hargs, rfl, rfl, h0, r0⟩ := trodAll_cons hA
  obtain ⟨v1, vs1, d1, ds1, p1, q1, rfl, rfl, rfl, h1, r1⟩ := trodAll_cons r0
  obtain ⟨v2, vs2, d2, ds2, p2, q2, rfl, rfl, rfl, h2, r2⟩ := trodAll_cons r1
  obtain ⟨v3, vs3, d3, ds3, p3, q3, rfl, rfl, rfl, h3, r3⟩ := trodAll_cons r2
  obtain ⟨v4, vs4, d4, ds4, p4, q4, rfl, rfl, rfl, h4, r4⟩ := trodAll_cons r3
  obtain ⟨rfl, rfl, rfl⟩ := trodAll_nil r4
  obtain rfl : args = #[v0, v1, v2, v3, v4] := by cases args; simp_all
  obtain ⟨rfl, rfl⟩ := trodVars_none hV
  have lt0 : ∀ x ∈ p0, x.block < W.heap.size := by obtain ⟨m, hm⟩ := h0; exact DataW.trod_lt m _ _ _ hm
  have lt1 : ∀ x ∈ p1, x.block < W.heap.size := by obtain ⟨m, hm⟩ := h1; exact DataW.trod_lt m _ _ _ hm
  have lt2 : ∀ x ∈ p2, x.block < W.heap.size := by obtain ⟨m, hm⟩ := h2; exact DataW.trod_lt m _ _ _ hm
  have lt3 : ∀ x ∈ p3, x.block < W.heap.size := by obtain ⟨m, hm⟩ := h3; exact DataW.trod_lt m _ _ _ hm
  have lt4 : ∀ x ∈ p4, x.block < W.heap.size := by obtain ⟨m, hm⟩ := h4; exact DataW.trod_lt m _ _ _ hm
  clear hA0 hval0
  refine (opened W v0 v1 v2 v3 v4 (hval 0 23 v0 rfl rfl) (hval 1 32 v1 rfl rfl) (hval 2 4 v2 rfl rfl) (hval 3 2 v3 rfl rfl) (hval 4 24 v4 rfl rfl) h0 h1 h2 h3 h4).mono fun e W' ⟨he, bel⟩ => ?_
  subst he
  exact ⟨_, rfl, _, _, _, [], _, [], hW', trodAll_mk1 (shut_bool Try.underlying4 _), (trodAll_cons_mk (Below.trod laidOut (by kernel_rfl) (of_decide_eq_true (by kernel_rfl)) h0 bel lt0) (trodAll_cons_mk (Below.trod laidOut (by kernel_rfl) (of_decide_eq_true (by kernel_rfl)) h1 bel lt1) (trodAll_cons_mk (Below.trod laidOut (by kernel_rfl) (of_decide_eq_true (by kernel_rfl)) h2 bel lt2) (trodAll_cons_mk (Below.trod laidOut (by kernel_rfl) (of_decide_eq_true (by kernel_rfl)) h3 bel lt3) (trodAll_cons_mk (Below.trod laidOut (by kernel_rfl) (of_decide_eq_true (by kernel_rfl)) h4 bel lt4) trodAll_mk0))))), rfl, bel.frame _, fun h => by cases h⟩
theorem probeCalls_holds : Rows.ProbeCallsSaid :=
  OpenClaim.holds_of_wide 5 Try.f5 rfl rfl rfl rfl rfl rfl rfl ⟨rfl, rfl, rfl, rfl, rfl⟩ rfl rfl rfl rfl rfl (by kernel_rfl) Try.func5 (by kernel_rfl)
    (of_decide_eq_true (by kernel_rfl)) (by unfold Func.isWrapper; first | (rw [if_pos (by decide +kernel)]; kernel_rfl) | (rw [if_neg (by decide +kernel)]; exact ⟨rfl, rfl⟩))
    (fun os started H enc _ => probeCalls_holds_lifted os started H enc)
#print axioms probeCalls_holds
end Go.Proofs.Ytbmgigbcilgieaa
