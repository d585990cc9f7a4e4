/- The law BreakerTrials returns true for all arguments. No condition. -/
import Derived.Test.YtaocnakbhicgiaaRows
import Derived.Test.YtaocnakbhicgiaaT4
import Derived.Test.YtaocnakbhicgiaaX15
namespace Go.Proofs.Ytaocnakbhicgiaa
open Go.RowKit Go.ChangeShapes Go.WideShapes Go.ChangeAt Go.Deep Go.Joins
set_option linter.unusedSimpArgs false
set_option maxRecDepth 100000
theorem own : ownKnob Try.prog.godebug = none := by kernel_rfl
theorem laidOut : laidOutB Try.prog = true := by kernel_rfl
theorem agg23_of_trod {H : Type} {enc : TypeId × Value → H} {w : World} {v : Value} {d : DataW H} {p : List MemPlace} {r : Reach} {b0 : Nat} (hv : Value.okWide Try.prog w r b0 23 v) (h : DataW.Trod enc Try.prog w 0 (fun _ => true) true 23 v d p) :
    ∃ (x0 : Int) (x1 : Int) (x2 : Int) (x3 : Int), v = .agg #[.int .i64 x0, .int .i64 x1, .int .i64 x2, .int .i64 x3] := by
  obtain ⟨c0, c1, c2, c3, y0, y1, y2, y3, n', rfl, _, _, t0, t1, t2, t3⟩ := open_agg4 Try.underlying23 (by kernel_rfl) (by kernel_rfl) hv h
  obtain ⟨x0, e_x0, _, _⟩ := DataW.trod_int Try.underlying3 t0
  obtain ⟨x1, e_x1, _, _⟩ := DataW.trod_int Try.underlying2 t1
  obtain ⟨x2, e_x2, _, _⟩ := DataW.trod_int Try.underlying3 t2
  obtain ⟨x3, e_x3, _, _⟩ := DataW.trod_int Try.underlying3 t3
  simp at e_x0 e_x1 e_x2 e_x3
  subst e_x0 e_x1 e_x2 e_x3
  exact ⟨x0, x1, x2, x3, rfl⟩
abbrev GoodL (a0_0 : Int) (a0_1 : Int) (a0_2 : Int) (a0_3 : Int) (v1 : Value) (w : World) : Prop := Calls Try.prog 4 #[.agg #[.int .i64 a0_0, .int .i64 a0_1, .int .i64 a0_2, .int .i64 a0_3], v1] w (fun e w1 => e = .returned (.bool true) ∧ Below w.heap.size w w1)
theorem good_nil (a0_0 : Int) (a0_1 : Int) (a0_2 : Int) (a0_3 : Int) {w : World} : GoodL a0_0 a0_1 a0_2 a0_3 (.slice none 0 0) w := by
  have hL : LawOK Try.prog callB 10 100 4 [.agg #[.int .i64 a0_0, .int .i64 a0_1, .int .i64 a0_2, .int .i64 a0_3], .slice none 0 0] [] 1 := law_nil a0_0 a0_1 a0_2 a0_3
  refine law_calls callB_spec mixed (ρ := fun b => default) hL rfl (fun i => match i with
    | 0 => .of_flat (by kernel_rfl)
    | 1 => .of_flat (by kernel_rfl)
    | i + 2 => .und) (fun b k h => ?_)
  exact (hget_nil b k h).elim
theorem good_hol (a0_0 : Int) (a0_1 : Int) (a0_2 : Int) (a0_3 : Int) {w : World} (ad1 : Addr) (ac1 : Nat) : GoodL a0_0 a0_1 a0_2 a0_3 (.slice (some ad1) 0 ac1) w := by
  have hL : LawOK Try.prog callB 10 100 4 [.agg #[.int .i64 a0_0, .int .i64 a0_1, .int .i64 a0_2, .int .i64 a0_3], .slice (some ⟨0, 0, some 0⟩) 0 0] [] 1 := law_hol a0_0 a0_1 a0_2 a0_3
  refine law_calls callB_spec mixed (ρ := fun b => default) hL rfl (fun i => match i with
    | 0 => .of_flat (by kernel_rfl)
    | 1 => .hollow _ _ _ _ _
    | i + 2 => .und) (fun b k h => ?_)
  exact (hget_nil b k h).elim
theorem good_blk (a0_0 : Int) (a0_1 : Int) (a0_2 : Int) (a0_3 : Int) {w : World} {l1 : List (Int × Int × Bool × Int)} {b1 o1 c1 el1 : Nat} {cs1 : Array Value} {fz1 : Nat × Nat} (hp1 : 0 < l1.length) (hc1 : l1.length ≤ c1) (hh1 : w.heap[b1]? = some (.cells cs1 el1 fz1)) (hx1 : ∀ (i : Nat) (u : Value), (l1.flatMap (fun t : (Int × Int × Bool × Int) => [Value.int .i64 t.1, Value.int .i64 t.2.1, Value.bool t.2.2.1, Value.int .i64 t.2.2.2]))[i]? = some u → cs1[o1 + i]? = some u) : GoodL a0_0 a0_1 a0_2 a0_3 (.slice (some ⟨b1, o1, none⟩) l1.length c1) w := by
  have hL : LawOK Try.prog callB 10 100 4 [.agg #[.int .i64 a0_0, .int .i64 a0_1, .int .i64 a0_2, .int .i64 a0_3], .slice (some ⟨0, 0, none⟩) l1.length c1] [(0, ⟨el1, (l1.flatMap (fun t : (Int × Int × Bool × Int) => [Value.int .i64 t.1, Value.int .i64 t.2.1, Value.bool t.2.2.1, Value.int .i64 t.2.2.2])), 2⟩)] 1 := law_blk a0_0 a0_1 a0_2 a0_3 l1 c1 el1 hp1 hc1
  refine law_calls callB_spec mixed (ρ := fun b => ⟨b1, o1, none⟩) hL rfl (fun i => match i with
    | 0 => .of_flat (by kernel_rfl)
    | 1 => vr_slice (by decide) (by first | rfl | simp) hc1
    | i + 2 => .und) (fun b k h => ?_)
  rcases hget_cons h with ⟨rfl, rfl⟩ | h
  · refine ⟨by decide, ?_, rfl⟩
    have this : ∀ D ρ, BR D ρ ⟨b1, o1, none⟩ ⟨el1, l1.flatMap (fun t : (Int × Int × Bool × Int) => [Value.int .i64 t.1, Value.int .i64 t.2.1, Value.bool t.2.2.1, Value.int .i64 t.2.2.2]), 2⟩ (szP Try.prog) w := fun D ρ => br_rows (f := (fun t : (Int × Int × Bool × Int) => [Value.int .i64 t.1, Value.int .i64 t.2.1, Value.bool t.2.2.1, Value.int .i64 t.2.2.2])) (fun t u hu => by simp at hu; (try rcases hu with rfl | rfl | rfl | rfl) <;> (try subst hu) <;> rfl) hh1 hx1 D ρ
    exact this _ _
  exact (hget_nil b k h).elim
theorem good_any (a0_0 : Int) (a0_1 : Int) (a0_2 : Int) (a0_3 : Int) {w : World} {v1 : Value} (s1 : Sh w (fun t : (Int × Int × Bool × Int) => [Value.int .i64 t.1, Value.int .i64 t.2.1, Value.bool t.2.2.1, Value.int .i64 t.2.2.2]) v1) : GoodL a0_0 a0_1 a0_2 a0_3 v1 w := by
  rcases s1 with rfl | ⟨ad1, ac1, rfl⟩ | ⟨l1, b1, o1, c1, el1, cs1, fz1, hp1, hc1, rfl, hh1, hx1⟩
  · exact good_nil a0_0 a0_1 a0_2 a0_3
  · exact good_hol a0_0 a0_1 a0_2 a0_3 ad1 ac1
  · exact good_blk a0_0 a0_1 a0_2 a0_3 hp1 hc1 hh1 hx1
theorem elem1 {HH : Type} {enc : TypeId × Value → HH} {w : World} {fu : Nat} {cs : List Value} {y : DataW HH × List MemPlace} (hl : cs.length = 4) (ht : DataW.trod enc Try.prog w 0 (fun _ => true) true fu 43 cs = some y) :
    ∃ (x0 : Int) (x1 : Int) (x2 : Bool) (x3 : Int), cs = [Value.int .i64 x0, Value.int .i64 x1, Value.bool x2, Value.int .i64 x3] := by
  obtain ⟨y0, y1, y2, y3, n, hx, _, h0, h1, h2, h3⟩ := trod_struct4 Try.underlying43 ht
  match cs, hl with
  | [c0, c1, c2, c3], _ =>
    have k0 : Try.prog.cellsOf 3 = 1 := by kernel_rfl
    have t0 : DataW.trod enc Try.prog w 0 (fun _ => true) true n 3 (([c0, c1, c2, c3].drop 0).take (Try.prog.cellsOf 3)) = some y0 := h0
    rw [k0] at t0
    obtain ⟨x0, e_x0, _, _⟩ := DataW.trod_int Try.underlying3 t0
    have k1 : Try.prog.cellsOf 3 = 1 := by kernel_rfl
    have t1 : DataW.trod enc Try.prog w 0 (fun _ => true) true n 3 (([c0, c1, c2, c3].drop 1).take (Try.prog.cellsOf 3)) = some y1 := h1
    rw [k1] at t1
    obtain ⟨x1, e_x1, _, _⟩ := DataW.trod_int Try.underlying3 t1
    have k2 : Try.prog.cellsOf 4 = 1 := by kernel_rfl
    have t2 : DataW.trod enc Try.prog w 0 (fun _ => true) true n 4 (([c0, c1, c2, c3].drop 2).take (Try.prog.cellsOf 4)) = some y2 := h2
    rw [k2] at t2
    obtain ⟨x2, e_x2, _⟩ := DataW.trod_bool Try.underlying4 t2
    have k3 : Try.prog.cellsOf 2 = 1 := by kernel_rfl
    have t3 : DataW.trod enc Try.prog w 0 (fun _ => true) true n 2 (([c0, c1, c2, c3].drop 3).take (Try.prog.cellsOf 2)) = some y3 := h3
    rw [k3] at t3
    obtain ⟨x3, e_x3, _, _⟩ := DataW.trod_int Try.underlying2 t3
    simp at e_x0 e_x1 e_x2 e_x3
    subst e_x0 e_x1 e_x2 e_x3
    exact ⟨x0, x1, x2, x3, rfl⟩
theorem opened (W : World) {H : Type} {enc : TypeId × Value → H} {r : Reach} {base : Nat} {d0 d1 : DataW H} {p0 p1 : List MemPlace} (v0 v1 : Value) (o0 : Value.okWide Try.prog W r base 23 v0) (o1 : Value.okWide Try.prog W r base 36 v1)
    (h0 : DataW.Trod enc Try.prog W 0 (fun _ => true) true 23 v0 d0 p0) (h1 : DataW.Trod enc Try.prog W 0 (fun _ => true) true 36 v1 d1 p1) : Calls Try.prog 4 #[v0, v1] W fun e W' => e = .returned (.bool true) ∧ Below W.heap.size W W' := by
  obtain ⟨a0_0, a0_1, a0_2, a0_3, rfl⟩ := agg23_of_trod o0 h0
  exact good_any a0_0 a0_1 a0_2 a0_3 (sh_of_trod (f := (fun t : (Int × Int × Bool × Int) => [Value.int .i64 t.1, Value.int .i64 t.2.1, Value.bool t.2.2.1, Value.int .i64 t.2.2.2])) (sz := 4) Try.underlying36 (by kernel_rfl) (by decide) (fun _ => rfl) (fun fu cs y hl ht => by
      obtain ⟨z0, z1, z2, z3, rfl⟩ := elem1 hl ht
      exact ⟨(z0, z1, z2, z3), rfl⟩) o1 h1)
theorem breakerTrials_holds_lifted (os : Os) (started : os.Started) (H : Type) (enc : TypeId × Value → H) :
    ReturnsInHanded {} Try.checked os 4 .any (Rows.breakerTrialsSpec.pre6 enc Try.prog Try.f4 Rows.breakerTrialsRow.domain false) (Rows.breakerTrialsSpec.post enc Try.prog Try.f4 false true false false) := by
  refine returnsInHanded_of_change (C := Try.checked) own started (by kernel_rfl) Try.func4
    (ChangeSpec.witness6 (enc := enc) (C := Try.checked) false ⟨#[], #[.agg #[.int .i64 0, .int .i64 0, .int .i64 0, .int .i64 0], .slice none 0 0], []⟩ 8 (by kernel_rfl) (by kernel_rfl) (by kernel_rfl) (by kernel_rfl)) ?_
  intro W base args ds gs before hval0 hW hcnd _
  have hval : ∀ (j : Nat) t v, Try.f4.params[j]? = some t → args[j]? = some v → Value.okWide Try.prog W .any base t v := hval0
  have hW' := hW
  obtain ⟨p, q, hA0, hV, rfl, hfz, hnd⟩ := hW
  have hA : DataW.TrodAll enc Try.prog W 0 (fun _ => true) true Try.f4.params.toList args.toList ds p := hA0
  rw [Try.params4] at hA hval
  obtain ⟨v0, vs0, d0, ds0, p0, q0, hargs, rfl, rfl, h0, r0⟩ := trodAll_cons hA
  obtain ⟨v1, vs1, d1, ds1, p1, q1, rfl, rfl, rfl, h1, r1⟩ := trodAll_cons r0
  obtain ⟨rfl, rfl, rfl⟩ := trodAll_nil r1
  obtain rfl : args = #[v0, v1] := by cases args; simp_all
  obtain ⟨rfl, rfl⟩ := trodVars_none hV
  have lt0 : ∀ x ∈ p0, x.block < W.heap.size := by obtain ⟨m, hm⟩ := h0; exact DataW.trod_lt m _ _ _ hm
  have lt1 : ∀ x ∈ p1, x.block < W.heap.size := by obtain ⟨m, hm⟩ := h1; exact DataW.trod_lt m _ _ _ hm
  clear hA0 hval0
  refine (opened W v0 v1 (hval 0 23 v0 rfl rfl) (hval 1 36 v1 rfl rfl) h0 h1).mono fun e W' ⟨he, bel⟩ => ?_
  subst he
  exact ⟨_, rfl, _, _, _, [], _, [], hW', trodAll_mk1 (shut_bool Try.underlying4 _), (trodAll_cons_mk (Below.trod laidOut (by kernel_rfl) (of_decide_eq_true (by kernel_rfl)) h0 bel lt0) (trodAll_cons_mk (Below.trod laidOut (by kernel_rfl) (of_decide_eq_true (by kernel_rfl)) h1 bel lt1) trodAll_mk0)), rfl, bel.frame _, fun h => by cases h⟩
theorem breakerTrials_holds : Rows.BreakerTrialsSaid :=
  OpenClaim.holds_of_wide 4 Try.f4 rfl rfl rfl rfl rfl rfl rfl ⟨rfl, rfl, rfl, rfl, rfl⟩ rfl rfl rfl rfl rfl (by kernel_rfl) Try.func4 (by kernel_rfl)
    (of_decide_eq_true (by kernel_rfl)) (by unfold Func.isWrapper; first | (rw [if_pos (by decide +kernel)]; kernel_rfl) | (rw [if_neg (by decide +kernel)]; exact ⟨rfl, rfl⟩))
    (fun os started H enc _ => breakerTrials_holds_lifted os started H enc)
#print axioms breakerTrials_holds
end Go.Proofs.Ytaocnakbhicgiaa
