/- The law HealthScript returns true for all arguments. No condition. -/
import Derived.Test.YtadpnamooajpoaaRows
import Derived.Test.YtadpnamooajpoaaGA
import Derived.Test.YtadpnamooajpoaaX19
namespace Go.Proofs.Ytadpnamooajpoaa
open Go.RowKit Go.ChangeShapes Go.WideShapes Go.ChangeAt Go.Deep Go.Joins
set_option linter.unusedSimpArgs false
set_option maxRecDepth 100000
theorem trod_struct5 {HH : Type} {enc : TypeId × Value → HH} {w : World} {t : TypeId} {f0 f1 f2 f3 f4 : Field} {fuel : Nat} {cs : List Value} {x : DataW HH × List MemPlace} (ht : Try.prog.underlying t = some (.struct #[f0, f1, f2, f3, f4])) (h : DataW.trod enc Try.prog w 0 (fun _ => true) true fuel t cs = some x) :
    ∃ y0 y1 y2 y3 y4 n, x = (.agg [y0.1, y1.1, y2.1, y3.1, y4.1], y0.2 ++ (y1.2 ++ (y2.2 ++ (y3.2 ++ y4.2)))) ∧ cs.length = Try.prog.cellsOf t ∧ DataW.trod enc Try.prog w 0 (fun _ => true) true n f0.type ((cs.drop f0.offset).take (Try.prog.cellsOf f0.type)) = some y0 ∧
      DataW.trod enc Try.prog w 0 (fun _ => true) true n f1.type ((cs.drop f1.offset).take (Try.prog.cellsOf f1.type)) = some y1 ∧ DataW.trod enc Try.prog w 0 (fun _ => true) true n f2.type ((cs.drop f2.offset).take (Try.prog.cellsOf f2.type)) = some y2 ∧
      DataW.trod enc Try.prog w 0 (fun _ => true) true n f3.type ((cs.drop f3.offset).take (Try.prog.cellsOf f3.type)) = some y3 ∧ DataW.trod enc Try.prog w 0 (fun _ => true) true n f4.type ((cs.drop f4.offset).take (Try.prog.cellsOf f4.type)) = some y4 := by
  obtain ⟨xs, n, _, rfl, hl, hlen, hf⟩ := DataW.trod_struct ht h
  match xs, hlen with
  | [y0, y1, y2, y3, y4], _ => exact ⟨y0, y1, y2, y3, y4, n, by simp, hl, by simpa using hf 0 f0 rfl, by simpa using hf 1 f1 rfl, by simpa using hf 2 f2 rfl, by simpa using hf 3 f3 rfl, by simpa using hf 4 f4 rfl⟩
theorem own : ownKnob Try.prog.godebug = none := by kernel_rfl
theorem laidOut : laidOutB Try.prog = true := by kernel_rfl
theorem trod_float1 {HH : Type} {enc : TypeId × Value → HH} {w : World} {fuel : Nat} {t : TypeId} {cs : List Value} {x : DataW HH × List MemPlace} (ht : Try.prog.underlying t = some (.float .f64)) (h : DataW.trod enc Try.prog w 0 (fun _ => true) true fuel t cs = some x) : ∃ n : Nat, cs = [.float .f64 n] := by
  cases fuel with
  | zero => simp [DataW.trod] at h
  | succ n =>
    unfold DataW.trod at h
    rw [ht] at h
    split at h <;> simp_all
theorem elem0g0 {HH : Type} {enc : TypeId × Value → HH} {w : World} {fu : Nat} {cs : List Value} {y : DataW HH × List MemPlace} (hl : cs.length = 4) (ht : DataW.trod enc Try.prog w 0 (fun _ => true) true fu 23 cs = some y) :
    ∃ (x0 : Int) (x1 : Int) (x2 : Int) (x3 : Int), cs = [Value.int .i64 x0, Value.int .i64 x1, Value.int .i64 x2, Value.int .i64 x3] := by
  obtain ⟨y0, y1, y2, y3, n, hx, _, h0, h1, h2, h3⟩ := trod_struct4 Try.underlying23 ht
  match cs, hl with
  | [c0, c1, c2, c3], _ =>
    have k0 : Try.prog.cellsOf 3 = 1 := by kernel_rfl
    have t0 : DataW.trod enc Try.prog w 0 (fun _ => true) true n 3 (([c0, c1, c2, c3].drop 0).take (Try.prog.cellsOf 3)) = some y0 := h0
    rw [k0] at t0
    obtain ⟨x0, e_x0, _, _⟩ := DataW.trod_int Try.underlying3 t0
    have k1 : Try.prog.cellsOf 2 = 1 := by kernel_rfl
    have t1 : DataW.trod enc Try.prog w 0 (fun _ => true) true n 2 (([c0, c1, c2, c3].drop 1).take (Try.prog.cellsOf 2)) = some y1 := h1
    rw [k1] at t1
    obtain ⟨x1, e_x1, _, _⟩ := DataW.trod_int Try.underlying2 t1
    have k2 : Try.prog.cellsOf 3 = 1 := by kernel_rfl
    have t2 : DataW.trod enc Try.prog w 0 (fun _ => true) true n 3 (([c0, c1, c2, c3].drop 2).take (Try.prog.cellsOf 3)) = some y2 := h2
    rw [k2] at t2
    obtain ⟨x2, e_x2, _, _⟩ := DataW.trod_int Try.underlying3 t2
    have k3 : Try.prog.cellsOf 3 = 1 := by kernel_rfl
    have t3 : DataW.trod enc Try.prog w 0 (fun _ => true) true n 3 (([c0, c1, c2, c3].drop 3).take (Try.prog.cellsOf 3)) = some y3 := h3
    rw [k3] at t3
    obtain ⟨x3, e_x3, _, _⟩ := DataW.trod_int Try.underlying3 t3
    simp at e_x0 e_x1 e_x2 e_x3
    subst e_x0 e_x1 e_x2 e_x3
    exact ⟨x0, x1, x2, x3, rfl⟩
theorem elem0g1 {HH : Type} {enc : TypeId × Value → HH} {w : World} {fu : Nat} {cs : List Value} {y : DataW HH × List MemPlace} (hl : cs.length = 4) (ht : DataW.trod enc Try.prog w 0 (fun _ => true) true fu 25 cs = some y) :
    ∃ (x0 : Int) (x1 : Int) (x2 : Int) (x3 : Int), cs = [Value.int .i64 x0, Value.int .i64 x1, Value.int .i64 x2, Value.int .i64 x3] := by
  obtain ⟨y0, y1, y2, y3, n, hx, _, h0, h1, h2, h3⟩ := trod_struct4 Try.underlying25 ht
  match cs, hl with
  | [c0, c1, c2, c3], _ =>
    have k0 : Try.prog.cellsOf 3 = 1 := by kernel_rfl
    have t0 : DataW.trod enc Try.prog w 0 (fun _ => true) true n 3 (([c0, c1, c2, c3].drop 0).take (Try.prog.cellsOf 3)) = some y0 := h0
    rw [k0] at t0
    obtain ⟨x0, e_x0, _, _⟩ := DataW.trod_int Try.underlying3 t0
    have k1 : Try.prog.cellsOf 2 = 1 := by kernel_rfl
    have t1 : DataW.trod enc Try.prog w 0 (fun _ => true) true n 2 (([c0, c1, c2, c3].drop 1).take (Try.prog.cellsOf 2)) = some y1 := h1
    rw [k1] at t1
    obtain ⟨x1, e_x1, _, _⟩ := DataW.trod_int Try.underlying2 t1
    have k2 : Try.prog.cellsOf 2 = 1 := by kernel_rfl
    have t2 : DataW.trod enc Try.prog w 0 (fun _ => true) true n 2 (([c0, c1, c2, c3].drop 2).take (Try.prog.cellsOf 2)) = some y2 := h2
    rw [k2] at t2
    obtain ⟨x2, e_x2, _, _⟩ := DataW.trod_int Try.underlying2 t2
    have k3 : Try.prog.cellsOf 3 = 1 := by kernel_rfl
    have t3 : DataW.trod enc Try.prog w 0 (fun _ => true) true n 3 (([c0, c1, c2, c3].drop 3).take (Try.prog.cellsOf 3)) = some y3 := h3
    rw [k3] at t3
    obtain ⟨x3, e_x3, _, _⟩ := DataW.trod_int Try.underlying3 t3
    simp at e_x0 e_x1 e_x2 e_x3
    subst e_x0 e_x1 e_x2 e_x3
    exact ⟨x0, x1, x2, x3, rfl⟩
theorem elem0g2 {HH : Type} {enc : TypeId × Value → HH} {w : World} {fu : Nat} {cs : List Value} {y : DataW HH × List MemPlace} (hl : cs.length = 4) (ht : DataW.trod enc Try.prog w 0 (fun _ => true) true fu 27 cs = some y) :
    ∃ (x0 : Int) (x1 : Int) (x2 : Int) (x3 : Int), cs = [Value.int .i64 x0, Value.int .i64 x1, Value.int .i64 x2, Value.int .i64 x3] := by
  obtain ⟨y0, y1, y2, y3, n, hx, _, h0, h1, h2, h3⟩ := trod_struct4 Try.underlying27 ht
  match cs, hl with
  | [c0, c1, c2, c3], _ =>
    have k0 : Try.prog.cellsOf 2 = 1 := by kernel_rfl
    have t0 : DataW.trod enc Try.prog w 0 (fun _ => true) true n 2 (([c0, c1, c2, c3].drop 0).take (Try.prog.cellsOf 2)) = some y0 := h0
    rw [k0] at t0
    obtain ⟨x0, e_x0, _, _⟩ := DataW.trod_int Try.underlying2 t0
    have k1 : Try.prog.cellsOf 2 = 1 := by kernel_rfl
    have t1 : DataW.trod enc Try.prog w 0 (fun _ => true) true n 2 (([c0, c1, c2, c3].drop 1).take (Try.prog.cellsOf 2)) = some y1 := h1
    rw [k1] at t1
    obtain ⟨x1, e_x1, _, _⟩ := DataW.trod_int Try.underlying2 t1
    have k2 : Try.prog.cellsOf 3 = 1 := by kernel_rfl
    have t2 : DataW.trod enc Try.prog w 0 (fun _ => true) true n 3 (([c0, c1, c2, c3].drop 2).take (Try.prog.cellsOf 3)) = some y2 := h2
    rw [k2] at t2
    obtain ⟨x2, e_x2, _, _⟩ := DataW.trod_int Try.underlying3 t2
    have k3 : Try.prog.cellsOf 3 = 1 := by kernel_rfl
    have t3 : DataW.trod enc Try.prog w 0 (fun _ => true) true n 3 (([c0, c1, c2, c3].drop 3).take (Try.prog.cellsOf 3)) = some y3 := h3
    rw [k3] at t3
    obtain ⟨x3, e_x3, _, _⟩ := DataW.trod_int Try.underlying3 t3
    simp at e_x0 e_x1 e_x2 e_x3
    subst e_x0 e_x1 e_x2 e_x3
    exact ⟨x0, x1, x2, x3, rfl⟩
theorem nagg29_of_trod {H : Type} {enc : TypeId × Value → H} {w : World} {v : Value} {d : DataW H} {p : List MemPlace} {r : Reach} {b0 : Nat} (hv : Value.okWide Try.prog w r b0 29 v) (h : DataW.Trod enc Try.prog w 0 (fun _ => true) true 29 v d p) :
    ∃ (x0_0 : Int) (x0_1 : Int) (x0_2 : Int) (x0_3 : Int) (x1_0 : Int) (x1_1 : Int) (x1_2 : Int) (x1_3 : Int) (x2_0 : Int) (x2_1 : Int) (x2_2 : Int) (x2_3 : Int), v = .agg #[.int .i64 x0_0, .int .i64 x0_1, .int .i64 x0_2, .int .i64 x0_3, .int .i64 x1_0, .int .i64 x1_1, .int .i64 x1_2, .int .i64 x1_3, .int .i64 x2_0, .int .i64 x2_1, .int .i64 x2_2, .int .i64 x2_3] := by
  have hC : Try.prog.cellsOf 29 = 12 := by kernel_rfl
  have k0 : Try.prog.cellsOf 23 = 4 := by kernel_rfl
  have k1 : Try.prog.cellsOf 25 = 4 := by kernel_rfl
  have k2 : Try.prog.cellsOf 27 = 4 := by kernel_rfl
  obtain ⟨cs, rfl, hsz⟩ := okWide_struct Try.underlying29 hv
  obtain ⟨l⟩ := cs
  match l, hsz.trans hC with
  | [c0, c1, c2, c3, c4, c5, c6, c7, c8, c9, c10, c11], _ =>
    obtain ⟨fuel, hf⟩ := h
    obtain ⟨y0, y1, y2, n, _, _, h0, h1, h2⟩ := trod_struct3 Try.underlying29 hf
    have t0 : DataW.trod enc Try.prog w 0 (fun _ => true) true n 23 (([c0, c1, c2, c3, c4, c5, c6, c7, c8, c9, c10, c11].drop 0).take (Try.prog.cellsOf 23)) = some y0 := h0
    rw [k0] at t0
    obtain ⟨x0_0, x0_1, x0_2, x0_3, e0⟩ := elem0g0 (cs := [c0, c1, c2, c3]) rfl t0
    have t1 : DataW.trod enc Try.prog w 0 (fun _ => true) true n 25 (([c0, c1, c2, c3, c4, c5, c6, c7, c8, c9, c10, c11].drop 4).take (Try.prog.cellsOf 25)) = some y1 := h1
    rw [k1] at t1
    obtain ⟨x1_0, x1_1, x1_2, x1_3, e1⟩ := elem0g1 (cs := [c4, c5, c6, c7]) rfl t1
    have t2 : DataW.trod enc Try.prog w 0 (fun _ => true) true n 27 (([c0, c1, c2, c3, c4, c5, c6, c7, c8, c9, c10, c11].drop 8).take (Try.prog.cellsOf 27)) = some y2 := h2
    rw [k2] at t2
    obtain ⟨x2_0, x2_1, x2_2, x2_3, e2⟩ := elem0g2 (cs := [c8, c9, c10, c11]) rfl t2
    simp only [List.cons.injEq, and_true] at e0 e1 e2
    obtain ⟨rfl, rfl, rfl, rfl⟩ := e0
    obtain ⟨rfl, rfl, rfl, rfl⟩ := e1
    obtain ⟨rfl, rfl, rfl, rfl⟩ := e2
    exact ⟨x0_0, x0_1, x0_2, x0_3, x1_0, x1_1, x1_2, x1_3, x2_0, x2_1, x2_2, x2_3, rfl⟩
abbrev GoodL (a0_0_0 : Int) (a0_0_1 : Int) (a0_0_2 : Int) (a0_0_3 : Int) (a0_1_0 : Int) (a0_1_1 : Int) (a0_1_2 : Int) (a0_1_3 : Int) (a0_2_0 : Int) (a0_2_1 : Int) (a0_2_2 : Int) (a0_2_3 : Int) (a1 : Int) (a3 : Int) (v2 : Value) (w : World) : Prop := Calls Try.prog 6 #[.agg #[.int .i64 a0_0_0, .int .i64 a0_0_1, .int .i64 a0_0_2, .int .i64 a0_0_3, .int .i64 a0_1_0, .int .i64 a0_1_1, .int .i64 a0_1_2, .int .i64 a0_1_3, .int .i64 a0_2_0, .int .i64 a0_2_1, .int .i64 a0_2_2, .int .i64 a0_2_3], .int .i64 a1, v2, .int .i64 a3] w (fun e w1 => e = .returned (.bool true) ∧ Below w.heap.size w w1)
theorem lawgood_any (a0_0_0 : Int) (a0_0_1 : Int) (a0_0_2 : Int) (a0_0_3 : Int) (a0_1_0 : Int) (a0_1_1 : Int) (a0_1_2 : Int) (a0_1_3 : Int) (a0_2_0 : Int) (a0_2_1 : Int) (a0_2_2 : Int) (a0_2_3 : Int) (a1 : Int) (a3 : Int) {w : World} {v2 : Value} (s2 : Sh w (fun t : (Int × Int × Int × Bool × Int) => [Value.int .i64 t.1, Value.int .i64 t.2.1, Value.int .i64 t.2.2.1, Value.bool t.2.2.2.1, Value.int .i64 t.2.2.2.2]) v2) : GoodL a0_0_0 a0_0_1 a0_0_2 a0_0_3 a0_1_0 a0_1_1 a0_1_2 a0_1_3 a0_2_0 a0_2_1 a0_2_2 a0_2_3 a1 a3 v2 w := by
  obtain ⟨l2, oa2, c2, rfl, p2⟩ := opn_of_sh s2
  obtain ⟨e, he⟩ : ∃ e : Nat → Ent, e = fun i => if i = 0 then (oa2, l2.length, c2, (l2.flatMap (fun t : (Int × Int × Int × Bool × Int) => [Value.int .i64 t.1, Value.int .i64 t.2.1, Value.int .i64 t.2.2.1, Value.bool t.2.2.2.1, Value.int .i64 t.2.2.2.2]))) else entD := ⟨_, rfl⟩
  have h0 : e 0 = (oa2, l2.length, c2, (l2.flatMap (fun t : (Int × Int × Int × Bool × Int) => [Value.int .i64 t.1, Value.int .i64 t.2.1, Value.int .i64 t.2.2.1, Value.bool t.2.2.2.1, Value.int .i64 t.2.2.2.2]))) := by rw [he]; rfl
  have hx : ∀ j, e (1 + j) = entD := fun j => by
    rw [he]
    simp only [if_neg (show ¬ 1 + j = 0 by omega)]
  letI : Inhabited RawG := ⟨rawOf e⟩
  have hL : LawOK Try.prog callQ 10 100 6 [.agg #[.int .i64 a0_0_0, .int .i64 a0_0_1, .int .i64 a0_0_2, .int .i64 a0_0_3, .int .i64 a0_1_0, .int .i64 a0_1_1, .int .i64 a0_1_2, .int .i64 a0_1_3, .int .i64 a0_2_0, .int .i64 a0_2_1, .int .i64 a0_2_2, .int .i64 a0_2_3], .int .i64 a1, .slice (some ⟨0, 0, some 2⟩) l2.length 0, .int .i64 a3] [] 0 := law_any a0_0_0 a0_0_1 a0_0_2 a0_0_3 a0_1_0 a0_1_1 a0_1_2 a0_1_3 a0_2_0 a0_2_1 a0_2_2 a0_2_3 a1 a3 l2 (by show (e 0).2.2.2 = _; rw [h0])
  refine law_raw callQ_spec mixed hL rfl (fun i => match i with
    | 0 => .of_flat (by kernel_rfl)
    | 1 => .of_flat (by kernel_rfl)
    | 2 => vr_opq e h0
    | 3 => .of_flat (by kernel_rfl)
    | i + 4 => .und) (fun i => ?_)
  by_cases hi : i < 1
  · match i, hi with
    | 0, _ => exact rawAt_opn e (f := (fun t : (Int × Int × Int × Bool × Int) => [Value.int .i64 t.1, Value.int .i64 t.2.1, Value.int .i64 t.2.2.1, Value.bool t.2.2.2.1, Value.int .i64 t.2.2.2.2])) h0 p2 (fun t u hu => by simp at hu; (try rcases hu with rfl | rfl | rfl | rfl | rfl) <;> (try subst hu) <;> rfl) (fun t h => by cases h)
  · obtain ⟨j, rfl⟩ : ∃ j, i = 1 + j := ⟨i - 1, by omega⟩
    exact rawAt_none e (hx j)
theorem elem2 {HH : Type} {enc : TypeId × Value → HH} {w : World} {fu : Nat} {cs : List Value} {y : DataW HH × List MemPlace} (hl : cs.length = 5) (ht : DataW.trod enc Try.prog w 0 (fun _ => true) true fu 40 cs = some y) :
    ∃ (x0 : Int) (x1 : Int) (x2 : Int) (x3 : Bool) (x4 : Int), cs = [Value.int .i64 x0, Value.int .i64 x1, Value.int .i64 x2, Value.bool x3, Value.int .i64 x4] := by
  obtain ⟨y0, y1, y2, y3, y4, n, hx, _, h0, h1, h2, h3, h4⟩ := trod_struct5 Try.underlying40 ht
  match cs, hl with
  | [c0, c1, c2, c3, c4], _ =>
    have k0 : Try.prog.cellsOf 3 = 1 := by kernel_rfl
    have t0 : DataW.trod enc Try.prog w 0 (fun _ => true) true n 3 (([c0, c1, c2, c3, c4].drop 0).take (Try.prog.cellsOf 3)) = some y0 := h0
    rw [k0] at t0
    obtain ⟨x0, e_x0, _, _⟩ := DataW.trod_int Try.underlying3 t0
    have k1 : Try.prog.cellsOf 3 = 1 := by kernel_rfl
    have t1 : DataW.trod enc Try.prog w 0 (fun _ => true) true n 3 (([c0, c1, c2, c3, c4].drop 1).take (Try.prog.cellsOf 3)) = some y1 := h1
    rw [k1] at t1
    obtain ⟨x1, e_x1, _, _⟩ := DataW.trod_int Try.underlying3 t1
    have k2 : Try.prog.cellsOf 3 = 1 := by kernel_rfl
    have t2 : DataW.trod enc Try.prog w 0 (fun _ => true) true n 3 (([c0, c1, c2, c3, c4].drop 2).take (Try.prog.cellsOf 3)) = some y2 := h2
    rw [k2] at t2
    obtain ⟨x2, e_x2, _, _⟩ := DataW.trod_int Try.underlying3 t2
    have k3 : Try.prog.cellsOf 4 = 1 := by kernel_rfl
    have t3 : DataW.trod enc Try.prog w 0 (fun _ => true) true n 4 (([c0, c1, c2, c3, c4].drop 3).take (Try.prog.cellsOf 4)) = some y3 := h3
    rw [k3] at t3
    obtain ⟨x3, e_x3, _⟩ := DataW.trod_bool Try.underlying4 t3
    have k4 : Try.prog.cellsOf 3 = 1 := by kernel_rfl
    have t4 : DataW.trod enc Try.prog w 0 (fun _ => true) true n 3 (([c0, c1, c2, c3, c4].drop 4).take (Try.prog.cellsOf 3)) = some y4 := h4
    rw [k4] at t4
    obtain ⟨x4, e_x4, _, _⟩ := DataW.trod_int Try.underlying3 t4
    simp at e_x0 e_x1 e_x2 e_x3 e_x4
    subst e_x0 e_x1 e_x2 e_x3 e_x4
    exact ⟨x0, x1, x2, x3, x4, rfl⟩
theorem opened (W : World) {H : Type} {enc : TypeId × Value → H} {r : Reach} {base : Nat} {d0 d1 d2 d3 : DataW H} {p0 p1 p2 p3 : List MemPlace} (v0 v1 v2 v3 : Value) (o0 : Value.okWide Try.prog W r base 29 v0) (o1 : Value.okWide Try.prog W r base 3 v1) (o2 : Value.okWide Try.prog W r base 30 v2) (o3 : Value.okWide Try.prog W r base 2 v3)
    (h0 : DataW.Trod enc Try.prog W 0 (fun _ => true) true 29 v0 d0 p0) (h1 : DataW.Trod enc Try.prog W 0 (fun _ => true) true 3 v1 d1 p1) (h2 : DataW.Trod enc Try.prog W 0 (fun _ => true) true 30 v2 d2 p2) (h3 : DataW.Trod enc Try.prog W 0 (fun _ => true) true 2 v3 d3 p3) : Calls Try.prog 6 #[v0, v1, v2, v3] W fun e W' => e = .returned (.bool true) ∧ Below W.heap.size W W' := by
  obtain ⟨a0_0_0, a0_0_1, a0_0_2, a0_0_3, a0_1_0, a0_1_1, a0_1_2, a0_1_3, a0_2_0, a0_2_1, a0_2_2, a0_2_3, rfl⟩ := nagg29_of_trod o0 h0
  obtain ⟨a1, rfl⟩ := okWide_int Try.underlying3 o1
  obtain ⟨a3, rfl⟩ := okWide_int Try.underlying2 o3
  exact lawgood_any a0_0_0 a0_0_1 a0_0_2 a0_0_3 a0_1_0 a0_1_1 a0_1_2 a0_1_3 a0_2_0 a0_2_1 a0_2_2 a0_2_3 a1 a3 (sh_of_trod (f := (fun t : (Int × Int × Int × Bool × Int) => [Value.int .i64 t.1, Value.int .i64 t.2.1, Value.int .i64 t.2.2.1, Value.bool t.2.2.2.1, Value.int .i64 t.2.2.2.2])) (sz := 5) Try.underlying30 (by kernel_rfl) (by decide) (fun _ => rfl) (fun fu cs y hl ht => by
      obtain ⟨z0, z1, z2, z3, z4, rfl⟩ := elem2 hl ht
      exact ⟨(z0, z1, z2, z3, z4), rfl⟩) o2 h2)
theorem healthScript_holds_lifted (os : Os) (started : os.Started) (H : Type) (enc : TypeId × Value → H) :
    ReturnsInHanded {} Try.checked os 6 .any (Rows.healthScriptSpec.pre6 enc Try.prog Try.f6 Rows.healthScriptRow.domain false) (Rows.healthScriptSpec.post enc Try.prog Try.f6 false true false false) := by
  refine returnsInHanded_of_change (C := Try.checked) own started (by kernel_rfl) Try.func6
    (ChangeSpec.witness6 (enc := enc) (C := Try.checked) false ⟨#[], #[.agg #[.int .i64 0, .int .i64 0, .int .i64 0, .int .i64 0, .int .i64 0, .int .i64 0, .int .i64 0, .int .i64 0, .int .i64 0, .int .i64 0, .int .i64 0, .int .i64 0], .int .i64 0, .slice none 0 0, .int .i64 0], []⟩ 8 (by kernel_rfl) (by kernel_rfl) (by kernel_rfl) (by kernel_rfl)) ?_
  intro W base args ds gs before hval0 hW hcnd _
  have hval : ∀ (j : Nat) t v, Try.f6.params[j]? = some t → args[j]? = some v → Value.okWide Try.prog W .any base t v := hval0
  have hW' := hW
  obtain ⟨p, q, hA0, hV, rfl, hfz, hnd⟩ := hW
  have hA : DataW.TrodAll enc Try.prog W 0 (fun _ => true) true Try.f6.params.toList args.toList ds p := hA0
  rw [Try.params6] at hA hval
  obtain ⟨v0, vs0, d0, ds0, p0, q0, hargs, rfl, rfl, h0, r0⟩ := trodAll_cons hA
  obtain ⟨v1, vs1, d1, ds1, p1, q1, rfl, rfl, rfl, h1, r1⟩ := trodAll_cons r0
  obtain ⟨v2, vs2, d2, ds2, p2, q2, rfl, rfl, rfl, h2, r2⟩ := trodAll_cons r1
  obtain ⟨v3, vs3, d3, ds3, p3, q3, rfl, rfl, rfl, h3, r3⟩ := trodAll_cons r2
  obtain ⟨rfl, rfl, rfl⟩ := trodAll_nil r3
  obtain rfl : args = #[v0, v1, v2, v3] := by cases args; simp_all
  obtain ⟨rfl, rfl⟩ := trodVars_none hV
  have lt0 : ∀ x ∈ p0, x.block < W.heap.size := by obtain ⟨m, hm⟩ := h0; exact DataW.trod_lt m _ _ _ hm
  have lt1 : ∀ x ∈ p1, x.block < W.heap.size := by obtain ⟨m, hm⟩ := h1; exact DataW.trod_lt m _ _ _ hm
  have lt2 : ∀ x ∈ p2, x.block < W.heap.size := by obtain ⟨m, hm⟩ := h2; exact DataW.trod_lt m _ _ _ hm
  have lt3 : ∀ x ∈ p3, x.block < W.heap.size := by obtain ⟨m, hm⟩ := h3; exact DataW.trod_lt m _ _ _ hm
  clear hA0 hval0
  refine (opened W v0 v1 v2 v3 (hval 0 29 v0 rfl rfl) (hval 1 3 v1 rfl rfl) (hval 2 30 v2 rfl rfl) (hval 3 2 v3 rfl rfl) h0 h1 h2 h3).mono fun e W' ⟨he, bel⟩ => ?_
  subst he
  exact ⟨_, rfl, _, _, _, [], _, [], hW', trodAll_mk1 (shut_bool Try.underlying4 _), (trodAll_cons_mk (Below.trod laidOut (by kernel_rfl) (of_decide_eq_true (by kernel_rfl)) h0 bel lt0) (trodAll_cons_mk (Below.trod laidOut (by kernel_rfl) (of_decide_eq_true (by kernel_rfl)) h1 bel lt1) (trodAll_cons_mk (Below.trod laidOut (by kernel_rfl) (of_decide_eq_true (by kernel_rfl)) h2 bel lt2) (trodAll_cons_mk (Below.trod laidOut (by kernel_rfl) (of_decide_eq_true (by kernel_rfl)) h3 bel lt3) trodAll_mk0)))), rfl, bel.frame _, fun h => by cases h⟩
theorem healthScript_holds : Rows.HealthScriptSaid :=
  OpenClaim.holds_of_wide 6 Try.f6 rfl rfl rfl rfl rfl rfl rfl ⟨rfl, rfl, rfl, rfl, rfl⟩ rfl rfl rfl rfl rfl (by kernel_rfl) Try.func6 (by kernel_rfl)
    (of_decide_eq_true (by kernel_rfl)) (by unfold Func.isWrapper; first | (rw [if_pos (by decide +kernel)]; kernel_rfl) | (rw [if_neg (by decide +kernel)]; exact ⟨rfl, rfl⟩))
    (fun os started H enc _ => healthScript_holds_lifted os started H enc)
#print axioms healthScript_holds
end Go.Proofs.Ytadpnamooajpoaa
