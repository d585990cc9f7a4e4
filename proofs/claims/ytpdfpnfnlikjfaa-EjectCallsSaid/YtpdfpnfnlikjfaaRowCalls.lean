/- The law EjectCalls returns true for all arguments. No condition. -/
import Derived.Test.YtpdfpnfnlikjfaaRows
import Derived.Test.YtpdfpnfnlikjfaaE4
import Derived.Test.YtpdfpnfnlikjfaaX19
import Derived.Test.YtpdfpnfnlikjfaaX19
namespace Go.Proofs.Ytpdfpnfnlikjfaa
open Go.RowKit Go.ChangeShapes Go.WideShapes Go.ChangeAt Go.Deep Go.Joins
set_option linter.unusedSimpArgs false
set_option maxRecDepth 100000
theorem trod_struct5 {HH : Type} {enc : TypeId × Value → HH} {w : World} {t : TypeId} {f0 f1 f2 f3 f4 : Field} {fuel : Nat} {cs : List Value} {x : DataW HH × List MemPlace} (ht : Try.prog.underlying t = some (.struct #[f0, f1, f2, f3, f4])) (h : DataW.trod enc Try.prog w 0 (fun _ => true) true fuel t cs = some x) :
    ∃ y0 y1 y2 y3 y4 n, x = (.agg [y0.1, y1.1, y2.1, y3.1, y4.1], y0.2 ++ (y1.2 ++ (y2.2 ++ (y3.2 ++ y4.2)))) ∧ cs.length = Try.prog.cellsOf t ∧ DataW.trod enc Try.prog w 0 (fun _ => true) true n f0.type ((cs.drop f0.offset).take (Try.prog.cellsOf f0.type)) = some y0 ∧
      DataW.trod enc Try.prog w 0 (fun _ => true) true n f1.type ((cs.drop f1.offset).take (Try.prog.cellsOf f1.type)) = some y1 ∧ DataW.trod enc Try.prog w 0 (fun _ => true) true n f2.type ((cs.drop f2.offset).take (Try.prog.cellsOf f2.type)) = some y2 ∧
      DataW.trod enc Try.prog w 0 (fun _ => true) true n f3.type ((cs.drop f3.offset).take (Try.prog.cellsOf f3.type)) = some y3 ∧ DataW.trod enc Try.prog w 0 (fun _ => true) true n f4.type ((cs.drop f4.offset).take (Try.prog.cellsOf f4.type)) = some y4 := by
  obtain ⟨xs, n, _, rfl, hl, hlen, hf⟩ := DataW.trod_struct ht h
  match xs, hlen with
  | [y0, y1, y2, y3, y4], _ => exact ⟨y0, y1, y2, y3, y4, n, by simp, hl, by simpa using hf 0 f0 rfl, by simpa using hf 1 f1 rfl, by simpa using hf 2 f2 rfl, by simpa using hf 3 f3 rfl, by simpa using hf 4 f4 rfl⟩
theorem own : ownKnob Try.prog.godebug = none := by kernel_rfl
theorem laidOut : laidOutB Try.prog = true := by kernel_rfl
theorem trod_float1 {HH : Type} {enc : TypeId × Value → HH} {w : World} {fuel : Nat} {t : TypeId} {cs : List Value} {x : DataW HH × List MemPlace} (ht : Try.prog.underlying t = some (.float .f64)) (h : DataW.trod enc Try.prog w 0 (fun _ => true) true fuel t cs = some x) : ∃ n : Nat, cs = [.float .f64 n] := by
  cases fuel with
  | zero => simp [DataW.trod] at h
  | succ n =>
    unfold DataW.trod at h
    rw [ht] at h
    split at h <;> simp_all
theorem agg24_of_trod {H : Type} {enc : TypeId × Value → H} {w : World} {v : Value} {d : DataW H} {p : List MemPlace} {r : Reach} {b0 : Nat} (hv : Value.okWide Try.prog w r b0 24 v) (h : DataW.Trod enc Try.prog w 0 (fun _ => true) true 24 v d p) :
    ∃ (x0 : Int) (x1 : Int) (x2 : Int) (x3 : Int), v = .agg #[.int .i64 x0, .int .i64 x1, .int .i64 x2, .int .i64 x3] := by
  obtain ⟨c0, c1, c2, c3, y0, y1, y2, y3, n', rfl, _, _, t0, t1, t2, t3⟩ := open_agg4 Try.underlying24 (by kernel_rfl) (by kernel_rfl) hv h
  obtain ⟨x0, e_x0, _, _⟩ := DataW.trod_int Try.underlying3 t0
  obtain ⟨x1, e_x1, _, _⟩ := DataW.trod_int Try.underlying2 t1
  obtain ⟨x2, e_x2, _, _⟩ := DataW.trod_int Try.underlying2 t2
  obtain ⟨x3, e_x3, _, _⟩ := DataW.trod_int Try.underlying3 t3
  simp at e_x0 e_x1 e_x2 e_x3
  subst e_x0 e_x1 e_x2 e_x3
  exact ⟨x0, x1, x2, x3, rfl⟩
abbrev GoodL (a0_0 : Int) (a0_1 : Int) (a0_2 : Int) (a0_3 : Int) (a2 : Int) (a3 : Bool) (a4 : Int) (a5 : Int) (v1 : Value) (w : World) : Prop := Calls Try.prog 4 #[.agg #[.int .i64 a0_0, .int .i64 a0_1, .int .i64 a0_2, .int .i64 a0_3], v1, .int .i64 a2, .bool a3, .int .i64 a4, .int .i64 a5] w (fun e w1 => e = .returned (.bool true) ∧ Below w.heap.size w w1)
theorem lawgood_any (a0_0 : Int) (a0_1 : Int) (a0_2 : Int) (a0_3 : Int) (a2 : Int) (a3 : Bool) (a4 : Int) (a5 : Int) {w : World} {v1 : Value} (s1 : Sh w (fun t : (Int × Int × Int) => [Value.int .i64 t.1, Value.int .i64 t.2.1, Value.int .i64 t.2.2]) v1) : GoodL a0_0 a0_1 a0_2 a0_3 a2 a3 a4 a5 v1 w := by
  obtain ⟨l1, oa1, c1, rfl, p1⟩ := opn_of_sh s1
  obtain ⟨e, he⟩ : ∃ e : Nat → Ent, e = fun i => if i = 0 then (oa1, l1.length, c1, (l1.flatMap (fun t : (Int × Int × Int) => [Value.int .i64 t.1, Value.int .i64 t.2.1, Value.int .i64 t.2.2]))) else entD := ⟨_, rfl⟩
  have h0 : e 0 = (oa1, l1.length, c1, (l1.flatMap (fun t : (Int × Int × Int) => [Value.int .i64 t.1, Value.int .i64 t.2.1, Value.int .i64 t.2.2]))) := by rw [he]; rfl
  have hx : ∀ j, e (1 + j) = entD := fun j => by
    rw [he]
    simp only [if_neg (show ¬ 1 + j = 0 by omega)]
  letI : Inhabited RawG := ⟨rawOf e⟩
  refine law_calls4 a0_0 a0_1 a0_2 a0_3 a2 a3 a4 a5 l1 (by show (e 0).2.2.2 = _; rw [h0]) rfl (fun i => match i with
    | 0 => .of_flat (by kernel_rfl)
    | 1 => vr_opq e h0
    | 2 => .of_flat (by kernel_rfl)
    | 3 => .of_flat (by kernel_rfl)
    | 4 => .of_flat (by kernel_rfl)
    | 5 => .of_flat (by kernel_rfl)
    | i + 6 => .und) (fun i => ?_)
  by_cases hi : i < 1
  · match i, hi with
    | 0, _ => exact rawAt_opn e (f := (fun t : (Int × Int × Int) => [Value.int .i64 t.1, Value.int .i64 t.2.1, Value.int .i64 t.2.2])) h0 p1 (fun t u hu => by simp at hu; (try rcases hu with rfl | rfl | rfl) <;> (try subst hu) <;> rfl) (fun t h => by cases h)
  · obtain ⟨j, rfl⟩ : ∃ j, i = 1 + j := ⟨i - 1, by omega⟩
    exact rawAt_none e (hx j)
theorem elem1 {HH : Type} {enc : TypeId × Value → HH} {w : World} {fu : Nat} {cs : List Value} {y : DataW HH × List MemPlace} (hl : cs.length = 3) (ht : DataW.trod enc Try.prog w 0 (fun _ => true) true fu 27 cs = some y) :
    ∃ (x0 : Int) (x1 : Int) (x2 : Int), cs = [Value.int .i64 x0, Value.int .i64 x1, Value.int .i64 x2] := by
  obtain ⟨y0, y1, y2, n, hx, _, h0, h1, h2⟩ := trod_struct3 Try.underlying27 ht
  match cs, hl with
  | [c0, c1, c2], _ =>
    have k0 : Try.prog.cellsOf 3 = 1 := by kernel_rfl
    have t0 : DataW.trod enc Try.prog w 0 (fun _ => true) true n 3 (([c0, c1, c2].drop 0).take (Try.prog.cellsOf 3)) = some y0 := h0
    rw [k0] at t0
    obtain ⟨x0, e_x0, _, _⟩ := DataW.trod_int Try.underlying3 t0
    have k1 : Try.prog.cellsOf 3 = 1 := by kernel_rfl
    have t1 : DataW.trod enc Try.prog w 0 (fun _ => true) true n 3 (([c0, c1, c2].drop 1).take (Try.prog.cellsOf 3)) = some y1 := h1
    rw [k1] at t1
    obtain ⟨x1, e_x1, _, _⟩ := DataW.trod_int Try.underlying3 t1
    have k2 : Try.prog.cellsOf 2 = 1 := by kernel_rfl
    have t2 : DataW.trod enc Try.prog w 0 (fun _ => true) true n 2 (([c0, c1, c2].drop 2).take (Try.prog.cellsOf 2)) = some y2 := h2
    rw [k2] at t2
    obtain ⟨x2, e_x2, _, _⟩ := DataW.trod_int Try.underlying2 t2
    simp at e_x0 e_x1 e_x2
    subst e_x0 e_x1 e_x2
    exact ⟨x0, x1, x2, rfl⟩
theorem opened (W : World) {H : Type} {enc : TypeId × Value → H} {r : Reach} {base : Nat} {d0 d1 d2 d3 d4 d5 : DataW H} {p0 p1 p2 p3 p4 p5 : List MemPlace} (v0 v1 v2 v3 v4 v5 : Value) (o0 : Value.okWide Try.prog W r base 24 v0) (o1 : Value.okWide Try.prog W r base 28 v1) (o2 : Value.okWide Try.prog W r base 3 v2) (o3 : Value.okWide Try.prog W r base 4 v3) (o4 : Value.okWide Try.prog W r base 2 v4) (o5 : Value.okWide Try.prog W r base 3 v5)
    (h0 : DataW.Trod enc Try.prog W 0 (fun _ => true) true 24 v0 d0 p0) (h1 : DataW.Trod enc Try.prog W 0 (fun _ => true) true 28 v1 d1 p1) (h2 : DataW.Trod enc Try.prog W 0 (fun _ => true) true 3 v2 d2 p2) (h3 : DataW.Trod enc Try.prog W 0 (fun _ => true) true 4 v3 d3 p3) (h4 : DataW.Trod enc Try.prog W 0 (fun _ => true) true 2 v4 d4 p4) (h5 : DataW.Trod enc Try.prog W 0 (fun _ => true) true 3 v5 d5 p5) : Calls Try.prog 4 #[v0, v1, v2, v3, v4, v5] W fun e W' => e = .returned (.bool true) ∧ Below W.heap.size W W' := by
  obtain ⟨a0_0, a0_1, a0_2, a0_3, rfl⟩ := agg24_of_trod o0 h0
  obtain ⟨a2, rfl⟩ := okWide_int Try.underlying3 o2
  obtain ⟨a3, rfl⟩ := okWide_bool Try.underlying4 o3
  obtain ⟨a4, rfl⟩ := okWide_int Try.underlying2 o4
  obtain ⟨a5, rfl⟩ := okWide_int Try.underlying3 o5
  exact lawgood_any a0_0 a0_1 a0_2 a0_3 a2 a3 a4 a5 (sh_of_trod (f := (fun t : (Int × Int × Int) => [Value.int .i64 t.1, Value.int .i64 t.2.1, Value.int .i64 t.2.2])) (sz := 3) Try.underlying28 (by kernel_rfl) (by decide) (fun _ => rfl) (fun fu cs y hl ht => by
      obtain ⟨z0, z1, z2, rfl⟩ := elem1 hl ht
      exact ⟨(z0, z1, z2), rfl⟩) o1 h1)
theorem ejectCalls_holds_lifted (os : Os) (started : os.Started) (H : Type) (enc : TypeId × Value → H) :
    ReturnsInHanded {} Try.checked os 4 .any (Rows.ejectCallsSpec.pre6 enc Try.prog Try.f4 Rows.ejectCallsRow.domain false) (Rows.ejectCallsSpec.post enc Try.prog Try.f4 false true false false) := by
  refine returnsInHanded_of_change (C := Try.checked) own started (by kernel_rfl) Try.func4
    (ChangeSpec.witness6 (enc := enc) (C := Try.checked) false ⟨#[], #[.agg #[.int .i64 0, .int .i64 0, .int .i64 0, .int .i64 0], .slice none 0 0, .int .i64 0, .bool false, .int .i64 0, .int .i64 0], []⟩ 8 (by kernel_rfl) (by kernel_rfl) (by kernel_rfl) (by kernel_rfl)) ?_
  intro W base args ds gs before hval0 hW hcnd _
  have hval : ∀ (j : Nat) t v, Try.f4.params[j]? = some t → args[j]? = some v → Value.okWide Try.prog W .any base t v := hval0
  have hW' := hW
  obtain ⟨p, q, hA0, hV, rfl, hfz, hnd⟩ := hW
  have hA : DataW.TrodAll enc Try.prog W 0 (fun _ => true) true Try.f4.params.toList args.toList ds p := hA0
  rw [Try.params4] at hA hval
  obtain ⟨v0, vs0, d0, ds0, p0, q0, hargs, rfl, rfl, h0, r0⟩ := trodAll_cons hA
  obtain ⟨v1, vs1, d1, ds1, p1, q1, rfl, rfl, rfl, h1, r1⟩ := trodAll_cons r0
  obtain ⟨v2, vs2, d2, ds2, p2, q2, rfl, rfl, rfl, h2, r2⟩ := trodAll_cons r1
  obtain ⟨v3, vs3, d3, ds3, p3, q3, rfl, rfl, rfl, h3, r3⟩ := trodAll_cons r2
  obtain ⟨v4, vs4, d4, ds4, p4, q4, rfl, rfl, rfl, h4, r4⟩ := trodAll_cons r3
  obtain ⟨v5, vs5, d5, ds5, p5, q5, rfl, rfl, rfl, h5, r5⟩ := trodAll_cons r4
  obtain ⟨rfl, rfl, rfl⟩ := trodAll_nil r5
  obtain rfl : args = #[v0, v1, v2, v3, v4, v5] := by cases args; simp_all
  obtain ⟨rfl, rfl⟩ := trodVars_none hV
  have lt0 : ∀ x ∈ p0, x.block < W.heap.size := by obtain ⟨m, hm⟩ := h0; exact DataW.trod_lt m _ _ _ hm
  have lt1 : ∀ x ∈ p1, x.block < W.heap.size := by obtain ⟨m, hm⟩ := h1; exact DataW.trod_lt m _ _ _ hm
  have lt2 : ∀ x ∈ p2, x.block < W.heap.size := by obtain ⟨m, hm⟩ := h2; exact DataW.trod_lt m _ _ _ hm
  have lt3 : ∀ x ∈ p3, x.block < W.heap.size := by obtain ⟨m, hm⟩ := h3; exact DataW.trod_lt m _ _ _ hm
  have lt4 : ∀ x ∈ p4, x.block < W.heap.size := by obtain ⟨m, hm⟩ := h4; exact DataW.trod_lt m _ _ _ hm
  have lt5 : ∀ x ∈ p5, x.block < W.heap.size := by obtain ⟨m, hm⟩ := h5; exact DataW.trod_lt m _ _ _ hm
  clear hA0 hval0
  refine (opened W v0 v1 v2 v3 v4 v5 (hval 0 24 v0 rfl rfl) (hval 1 28 v1 rfl rfl) (hval 2 3 v2 rfl rfl) (hval 3 4 v3 rfl rfl) (hval 4 2 v4 rfl rfl) (hval 5 3 v5 rfl rfl) h0 h1 h2 h3 h4 h5).mono fun e W' ⟨he, bel⟩ => ?_
  subst he
  exact ⟨_, rfl, _, _, _, [], _, [], hW', trodAll_mk1 (shut_bool Try.underlying4 _), (trodAll_cons_mk (Below.trod laidOut (by kernel_rfl) (of_decide_eq_true (by kernel_rfl)) h0 bel lt0) (trodAll_cons_mk (Below.trod laidOut (by kernel_rfl) (of_decide_eq_true (by kernel_rfl)) h1 bel lt1) (trodAll_cons_mk (Below.trod laidOut (by kernel_rfl) (of_decide_eq_true (by kernel_rfl)) h2 bel lt2) (trodAll_cons_mk (Below.trod laidOut (by kernel_rfl) (of_decide_eq_true (by kernel_rfl)) h3 bel lt3) (trodAll_cons_mk (Below.trod laidOut (by kernel_rfl) (of_decide_eq_true (by kernel_rfl)) h4 bel lt4) (trodAll_cons_mk (Below.trod laidOut (by kernel_rfl) (of_decide_eq_true (by kernel_rfl)) h5 bel lt5) trodAll_mk0)))))), rfl, bel.frame _, fun h => by cases h⟩
theorem ejectCalls_holds : Rows.EjectCallsSaid :=
  OpenClaim.holds_of_wide 4 Try.f4 rfl rfl rfl rfl rfl rfl rfl ⟨rfl, rfl, rfl, rfl, rfl⟩ rfl rfl rfl rfl rfl (by kernel_rfl) Try.func4 (by kernel_rfl)
    (of_decide_eq_true (by kernel_rfl)) (by unfold Func.isWrapper; first | (rw [if_pos (by decide +kernel)]; kernel_rfl) | (rw [if_neg (by decide +kernel)]; exact ⟨rfl, rfl⟩))
    (fun os started H enc _ => ejectCalls_holds_lifted os started H enc)
#print axioms ejectCalls_holds
end Go.Proofs.Ytpdfpnfnlikjfaa
