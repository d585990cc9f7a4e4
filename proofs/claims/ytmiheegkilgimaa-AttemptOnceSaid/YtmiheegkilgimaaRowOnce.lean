/- The law AttemptOnce returns true for all arguments. No condition. -/
import Derived.Test.YtmiheegkilgimaaRows
import Derived.Test.YtmiheegkilgimaaQ5
import Derived.Test.YtmiheegkilgimaaX15
namespace Go.Proofs.Ytmiheegkilgimaa
open Go.RowKit Go.ChangeShapes Go.WideShapes Go.ChangeAt Go.Deep Go.Joins
set_option linter.unusedSimpArgs false
set_option maxRecDepth 100000
theorem own : ownKnob Try.prog.godebug = none := by kernel_rfl
theorem laidOut : laidOutB Try.prog = true := by kernel_rfl
abbrev GoodL (a0 : Bool) (a1 : Int) (v2 : Value) (w : World) : Prop := Calls Try.prog 5 #[.bool a0, .int .i64 a1, v2] w (fun e w1 => e = .returned (.bool true) ∧ Below w.heap.size w w1)
theorem good_nil (a0 : Bool) (a1 : Int) {w : World} : GoodL a0 a1 (.slice none 0 0) w := by
  have hL : LawOK Try.prog callT 10 100 5 [.bool a0, .int .i64 a1, .slice none 0 0] [] 1 := law_nil a0 a1
  refine law_calls callT_spec mixed (ρ := fun b => default) hL rfl (fun i => match i with
    | 0 => .of_flat (by kernel_rfl)
    | 1 => .of_flat (by kernel_rfl)
    | 2 => .of_flat (by kernel_rfl)
    | i + 3 => .und) (fun b k h => ?_)
  exact (hget_nil b k h).elim
theorem good_hol (a0 : Bool) (a1 : Int) {w : World} (ad2 : Addr) (ac2 : Nat) : GoodL a0 a1 (.slice (some ad2) 0 ac2) w := by
  have hL : LawOK Try.prog callT 10 100 5 [.bool a0, .int .i64 a1, .slice (some ⟨0, 0, some 0⟩) 0 0] [] 1 := law_hol a0 a1
  refine law_calls callT_spec mixed (ρ := fun b => default) hL rfl (fun i => match i with
    | 0 => .of_flat (by kernel_rfl)
    | 1 => .of_flat (by kernel_rfl)
    | 2 => .hollow _ _ _ _ _
    | i + 3 => .und) (fun b k h => ?_)
  exact (hget_nil b k h).elim
theorem good_blk (a0 : Bool) (a1 : Int) {w : World} {l2 : List (Int × Int)} {b2 o2 c2 el2 : Nat} {cs2 : Array Value} {fz2 : Nat × Nat} (hp2 : 0 < l2.length) (hc2 : l2.length ≤ c2) (hh2 : w.heap[b2]? = some (.cells cs2 el2 fz2)) (hx2 : ∀ (i : Nat) (u : Value), (l2.flatMap (fun t : (Int × Int) => [Value.int .i64 t.1, Value.int .i64 t.2]))[i]? = some u → cs2[o2 + i]? = some u) : GoodL a0 a1 (.slice (some ⟨b2, o2, none⟩) l2.length c2) w := by
  have hL : LawOK Try.prog callT 10 100 5 [.bool a0, .int .i64 a1, .slice (some ⟨0, 0, none⟩) l2.length c2] [(0, ⟨el2, (l2.flatMap (fun t : (Int × Int) => [Value.int .i64 t.1, Value.int .i64 t.2])), 2⟩)] 1 := law_blk a0 a1 l2 c2 el2 hp2 hc2
  refine law_calls callT_spec mixed (ρ := fun b => ⟨b2, o2, none⟩) hL rfl (fun i => match i with
    | 0 => .of_flat (by kernel_rfl)
    | 1 => .of_flat (by kernel_rfl)
    | 2 => vr_slice (by decide) (by first | rfl | simp) hc2
    | i + 3 => .und) (fun b k h => ?_)
  rcases hget_cons h with ⟨rfl, rfl⟩ | h
  · refine ⟨by decide, ?_, rfl⟩
    have this : ∀ D ρ, BR D ρ ⟨b2, o2, none⟩ ⟨el2, l2.flatMap (fun t : (Int × Int) => [Value.int .i64 t.1, Value.int .i64 t.2]), 2⟩ (szP Try.prog) w := fun D ρ => br_rows (f := (fun t : (Int × Int) => [Value.int .i64 t.1, Value.int .i64 t.2])) (fun t u hu => by simp at hu; (try rcases hu with rfl | rfl) <;> (try subst hu) <;> rfl) hh2 hx2 D ρ
    exact this _ _
  exact (hget_nil b k h).elim
theorem lawgood_any (a0 : Bool) (a1 : Int) {w : World} {v2 : Value} (s2 : Sh w (fun t : (Int × Int) => [Value.int .i64 t.1, Value.int .i64 t.2]) v2) : GoodL a0 a1 v2 w := by
  rcases s2 with rfl | ⟨ad2, ac2, rfl⟩ | ⟨l2, b2, o2, c2, el2, cs2, fz2, hp2, hc2, rfl, hh2, hx2⟩
  · exact good_nil a0 a1
  · exact good_hol a0 a1 ad2 ac2
  · exact good_blk a0 a1 hp2 hc2 hh2 hx2
theorem elem2 {HH : Type} {enc : TypeId × Value → HH} {w : World} {fu : Nat} {cs : List Value} {y : DataW HH × List MemPlace} (hl : cs.length = 2) (ht : DataW.trod enc Try.prog w 0 (fun _ => true) true fu 44 cs = some y) :
    ∃ (x0 : Int) (x1 : Int), cs = [Value.int .i64 x0, Value.int .i64 x1] := by
  obtain ⟨y0, y1, n, hx, _, h0, h1⟩ := trod_struct2 Try.underlying44 ht
  match cs, hl with
  | [c0, c1], _ =>
    have k0 : Try.prog.cellsOf 3 = 1 := by kernel_rfl
    have t0 : DataW.trod enc Try.prog w 0 (fun _ => true) true n 3 (([c0, c1].drop 0).take (Try.prog.cellsOf 3)) = some y0 := h0
    rw [k0] at t0
    obtain ⟨x0, e_x0, _, _⟩ := DataW.trod_int Try.underlying3 t0
    have k1 : Try.prog.cellsOf 3 = 1 := by kernel_rfl
    have t1 : DataW.trod enc Try.prog w 0 (fun _ => true) true n 3 (([c0, c1].drop 1).take (Try.prog.cellsOf 3)) = some y1 := h1
    rw [k1] at t1
    obtain ⟨x1, e_x1, _, _⟩ := DataW.trod_int Try.underlying3 t1
    simp at e_x0 e_x1
    subst e_x0 e_x1
    exact ⟨x0, x1, rfl⟩
theorem opened (W : World) {H : Type} {enc : TypeId × Value → H} {r : Reach} {base : Nat} {d0 d1 d2 : DataW H} {p0 p1 p2 : List MemPlace} (v0 v1 v2 : Value) (o0 : Value.okWide Try.prog W r base 4 v0) (o1 : Value.okWide Try.prog W r base 3 v1) (o2 : Value.okWide Try.prog W r base 41 v2)
    (h0 : DataW.Trod enc Try.prog W 0 (fun _ => true) true 4 v0 d0 p0) (h1 : DataW.Trod enc Try.prog W 0 (fun _ => true) true 3 v1 d1 p1) (h2 : DataW.Trod enc Try.prog W 0 (fun _ => true) true 41 v2 d2 p2) : Calls Try.prog 5 #[v0, v1, v2] W fun e W' => e = .returned (.bool true) ∧ Below W.heap.size W W' := by
  obtain ⟨a0, rfl⟩ := okWide_bool Try.underlying4 o0
  obtain ⟨a1, rfl⟩ := okWide_int Try.underlying3 o1
  exact lawgood_any a0 a1 (sh_of_trod (f := (fun t : (Int × Int) => [Value.int .i64 t.1, Value.int .i64 t.2])) (sz := 2) Try.underlying41 (by kernel_rfl) (by decide) (fun _ => rfl) (fun fu cs y hl ht => by
      obtain ⟨z0, z1, rfl⟩ := elem2 hl ht
      exact ⟨(z0, z1), rfl⟩) o2 h2)
theorem attemptOnce_holds_lifted (os : Os) (started : os.Started) (H : Type) (enc : TypeId × Value → H) :
    ReturnsInHanded {} Try.checked os 5 .any (Rows.attemptOnceSpec.pre6 enc Try.prog Try.f5 Rows.attemptOnceRow.domain false) (Rows.attemptOnceSpec.post enc Try.prog Try.f5 false true false false) := by
  refine returnsInHanded_of_change (C := Try.checked) own started (by kernel_rfl) Try.func5
    (ChangeSpec.witness6 (enc := enc) (C := Try.checked) false ⟨#[], #[.bool false, .int .i64 0, .slice none 0 0], []⟩ 8 (by kernel_rfl) (by kernel_rfl) (by kernel_rfl) (by kernel_rfl)) ?_
  intro W base args ds gs before hval0 hW hcnd _
  have hval : ∀ (j : Nat) t v, Try.f5.params[j]? = some t → args[j]? = some v → Value.okWide Try.prog W .any base t v := hval0
  have hW' := hW
  obtain ⟨p, q, hA0, hV, rfl, hfz, hnd⟩ := hW
  have hA : DataW.TrodAll enc Try.prog W 0 (fun _ => true) true Try.f5.params.toList args.toList ds p := hA0
  rw [Try.params5] at hA hval
  obtain ⟨v0, vs0, d0, ds0, p0, q0, hargs, rfl, rfl, h0, r0⟩ := trodAll_cons hA
  obtain ⟨v1, vs1, d1, ds1, p1, q1, rfl, rfl, rfl, h1, r1⟩ := trodAll_cons r0
  obtain ⟨v2, vs2, d2, ds2, p2, q2, rfl, rfl, rfl, h2, r2⟩ := trodAll_cons r1
  obtain ⟨rfl, rfl, rfl⟩ := trodAll_nil r2
  obtain rfl : args = #[v0, v1, v2] := by cases args; simp_all
  obtain ⟨rfl, rfl⟩ := trodVars_none hV
  have lt0 : ∀ x ∈ p0, x.block < W.heap.size := by obtain ⟨m, hm⟩ := h0; exact DataW.trod_lt m _ _ _ hm
  have lt1 : ∀ x ∈ p1, x.block < W.heap.size := by obtain ⟨m, hm⟩ := h1; exact DataW.trod_lt m _ _ _ hm
  have lt2 : ∀ x ∈ p2, x.block < W.heap.size := by obtain ⟨m, hm⟩ := h2; exact DataW.trod_lt m _ _ _ hm
  clear hA0 hval0
  refine (opened W v0 v1 v2 (hval 0 4 v0 rfl rfl) (hval 1 3 v1 rfl rfl) (hval 2 41 v2 rfl rfl) h0 h1 h2).mono fun e W' ⟨he, bel⟩ => ?_
  subst he
  exact ⟨_, rfl, _, _, _, [], _, [], hW', trodAll_mk1 (shut_bool Try.underlying4 _), (trodAll_cons_mk (Below.trod laidOut (by kernel_rfl) (of_decide_eq_true (by kernel_rfl)) h0 bel lt0) (trodAll_cons_mk (Below.trod laidOut (by kernel_rfl) (of_decide_eq_true (by kernel_rfl)) h1 bel lt1) (trodAll_cons_mk (Below.trod laidOut (by kernel_rfl) (of_decide_eq_true (by kernel_rfl)) h2 bel lt2) trodAll_mk0))), rfl, bel.frame _, fun h => by cases h⟩
theorem attemptOnce_holds : Rows.AttemptOnceSaid :=
  OpenClaim.holds_of_wide 5 Try.f5 rfl rfl rfl rfl rfl rfl rfl ⟨rfl, rfl, rfl, rfl, rfl⟩ rfl rfl rfl rfl rfl (by kernel_rfl) Try.func5 (by kernel_rfl)
    (of_decide_eq_true (by kernel_rfl)) (by unfold Func.isWrapper; first | (rw [if_pos (by decide +kernel)]; kernel_rfl) | (rw [if_neg (by decide +kernel)]; exact ⟨rfl, rfl⟩))
    (fun os started H enc _ => attemptOnce_holds_lifted os started H enc)
#print axioms attemptOnce_holds
end Go.Proofs.Ytmiheegkilgimaa
