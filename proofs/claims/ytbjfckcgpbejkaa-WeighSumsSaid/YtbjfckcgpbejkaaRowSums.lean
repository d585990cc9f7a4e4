/- The law WeighSums returns true for all arguments. No condition. -/
import Derived.Test.YtbjfckcgpbejkaaRows
import Derived.Test.YtbjfckcgpbejkaaP11
import Derived.Test.YtbjfckcgpbejkaaX19
namespace Go.Proofs.Ytbjfckcgpbejkaa
open Go.RowKit Go.ChangeShapes Go.WideShapes Go.ChangeAt Go.Deep Go.Joins
set_option linter.unusedSimpArgs false
set_option maxRecDepth 100000
theorem own : ownKnob Try.prog.godebug = none := by kernel_rfl
theorem laidOut : laidOutB Try.prog = true := by kernel_rfl
theorem trod_float1 {HH : Type} {enc : TypeId × Value → HH} {w : World} {fuel : Nat} {t : TypeId} {cs : List Value} {x : DataW HH × List MemPlace} (ht : Try.prog.underlying t = some (.float .f64)) (h : DataW.trod enc Try.prog w 0 (fun _ => true) true fuel t cs = some x) : ∃ n : Nat, cs = [.float .f64 n] := by
  cases fuel with
  | zero => simp [DataW.trod] at h
  | succ n =>
    unfold DataW.trod at h
    rw [ht] at h
    split at h <;> simp_all
abbrev GoodL  (v0 : Value) (v1 : Value) (w : World) : Prop := Calls Try.prog 4 #[v0, v1] w (fun e w1 => e = .returned (.bool true) ∧ Below w.heap.size w w1)
theorem lawgood_any  {w : World} {v0 : Value} {v1 : Value} (s0 : Sh w (fun t : U8 => [Value.int .u8 t.1]) v0) (s1 : ∃ (l : List (InS w (fun t : Int => [Value.int .i64 t]))) (oa : Option Addr) (c : Nat), v1 = .slice oa l.length c ∧ Opn w inC l oa c ∧ l.length ≤ 9223372036854775807) : GoodL  v0 v1 w := by
  obtain ⟨l0, oa0, c0, rfl, p0⟩ := opn_of_sh s0
  obtain ⟨l1, oa1, c1, rfl, p1, m1⟩ := s1
  obtain ⟨ll1, hll1⟩ : ∃ ll : List (List Int), ll = l1.map fun t => t.1.1 := ⟨_, rfl⟩
  have hle1 : ll1.length = l1.length := by rw [hll1]; simp
  obtain ⟨e, he⟩ : ∃ e : Nat → Ent, e = fun i => if i = 0 then (oa0, l0.length, c0, (l0.flatMap (fun t : U8 => [Value.int .u8 t.1]))) else if i = 1 then (oa1, l1.length, c1, ((List.range ll1.length).map fun j => Value.slice (some ⟨2 + j, 0, some 2⟩) (ll1.getD j []).length 0)) else ((l1.getD (i - 2) default).1.2.1, (l1.getD (i - 2) default).1.1.length, (l1.getD (i - 2) default).1.2.2, (l1.getD (i - 2) default).1.1.flatMap (fun t : Int => [Value.int .i64 t])) := ⟨_, rfl⟩
  have h0 : e 0 = (oa0, l0.length, c0, (l0.flatMap (fun t : U8 => [Value.int .u8 t.1]))) := by rw [he]; rfl
  have h1 : e 1 = (oa1, l1.length, c1, ((List.range ll1.length).map fun j => Value.slice (some ⟨2 + j, 0, some 2⟩) (ll1.getD j []).length 0)) := by rw [he]; rfl
  have hx : ∀ j, e (2 + j) = ((l1.getD j default).1.2.1, (l1.getD j default).1.1.length, (l1.getD j default).1.2.2, (l1.getD j default).1.1.flatMap (fun t : Int => [Value.int .i64 t])) := fun j => by
    rw [he]
    simp only [if_neg (show ¬ 2 + j = 0 by omega), if_neg (show ¬ 2 + j = 1 by omega), Nat.add_sub_cancel_left]
  letI : Inhabited RawG := ⟨rawOf e⟩
  have hL : LawOK Try.prog callW 10 100 4 [.slice (some ⟨0, 0, some 2⟩) l0.length 0, .slice (some ⟨1, 0, some 2⟩) ll1.length 0] [] 0 := law_any  l0 ll1 (by show (e 0).2.2.2 = _; rw [h0]; exact flatMap_one _) ⟨by show (e 1).2.2.2 = _; rw [h1], fun j hj => by show (e (2 + j)).2.2.2 = _; rw [hx j, show ll1.getD j [] = (l1.getD j default).1.1 by rw [hll1, List.getD_eq_getElem?_getD, List.getElem?_map, List.getElem?_eq_getElem (by omega), List.getD_eq_getElem?_getD, List.getElem?_eq_getElem (by omega)]; rfl]; exact flatMap_one _⟩ (by omega)
  refine law_raw callW_spec mixed hL rfl (fun i => match i with
    | 0 => vr_opq e h0
    | 1 => (by rw [hle1]; exact vr_opq e h1)
    | i + 2 => .und) (fun i => ?_)
  by_cases hi : i < 2
  · match i, hi with
    | 0, _ => exact rawAt_opn e (f := (fun t : U8 => [Value.int .u8 t.1])) h0 p0 (fun t u hu => by simp at hu; subst hu; rfl) (fun t h => by cases h)
    | 1, _ => exact rawAt_outer e hll1 h1 p1 (fun j _ => ⟨_, hx j⟩)
  · obtain ⟨j, rfl⟩ : ∃ j, i = 2 + j := ⟨i - 2, by omega⟩
    exact rawAt_opn e (f := (fun t : Int => [Value.int .i64 t])) (hx j) (l1.getD j default).2 (fun t u hu => by simp at hu; subst hu; rfl) (fun t h => by cases h)
theorem opened (W : World) {H : Type} {enc : TypeId × Value → H} {r : Reach} {base : Nat} {d0 d1 : DataW H} {p0 p1 : List MemPlace} (v0 v1 : Value) (o0 : Value.okWide Try.prog W r base 22 v0) (o1 : Value.okWide Try.prog W r base 36 v1)
    (h0 : DataW.Trod enc Try.prog W 0 (fun _ => true) true 22 v0 d0 p0) (h1 : DataW.Trod enc Try.prog W 0 (fun _ => true) true 36 v1 d1 p1) : Calls Try.prog 4 #[v0, v1] W fun e W' => e = .returned (.bool true) ∧ Below W.heap.size W W' := by
  exact lawgood_any  (sh_of_trod (f := (fun t : U8 => [Value.int .u8 t.1])) (sz := 1) Try.underlying22 (by kernel_rfl) (by decide) (fun _ => rfl) (fun fu cs y hl ht => by obtain ⟨b, e_b, _, hb⟩ := DataW.trod_int Try.underlying5 ht; exact ⟨⟨b, by simp only [Lit.wf, Bool.and_eq_true, decide_eq_true_eq] at hb; have h0 : IntKind.u8.min = 0 := rfl; have h1 : IntKind.u8.max = 255 := rfl; omega⟩, by simpa using e_b⟩) o0 h0) (shs_of_trod (f := (fun t : Int => [Value.int .i64 t])) Try.underlying36 (by kernel_rfl) (fun fu v y ht => sh_cells (f := (fun t : Int => [Value.int .i64 t])) (sz := 1) Try.underlying30 (by kernel_rfl) (by decide) (fun _ => rfl) (fun fu cs y hl ht => by obtain ⟨b, e_b, _, _⟩ := DataW.trod_int Try.underlying3 ht; exact ⟨b, by simpa using e_b⟩) ht) o1 h1)
theorem weighSums_holds_lifted (os : Os) (started : os.Started) (H : Type) (enc : TypeId × Value → H) :
    ReturnsInHanded {} Try.checked os 4 .any (Rows.weighSumsSpec.pre6 enc Try.prog Try.f4 Rows.weighSumsRow.domain false) (Rows.weighSumsSpec.post enc Try.prog Try.f4 false true false false) := by
  refine returnsInHanded_of_change (C := Try.checked) own started (by kernel_rfl) Try.func4
    (ChangeSpec.witness6 (enc := enc) (C := Try.checked) false ⟨#[], #[.slice none 0 0, .slice none 0 0], []⟩ 8 (by kernel_rfl) (by kernel_rfl) (by kernel_rfl) (by kernel_rfl)) ?_
  intro W base args ds gs before hval0 hW hcnd _
  have hval : ∀ (j : Nat) t v, Try.f4.params[j]? = some t → args[j]? = some v → Value.okWide Try.prog W .any base t v := hval0
  have hW' := hW
  obtain ⟨p, q, hA0, hV, rfl, hfz, hnd⟩ := hW
  have hA : DataW.TrodAll enc Try.prog W 0 (fun _ => true) true Try.f4.params.toList args.toList ds p := hA0
  rw [Try.params4] at hA hval
  obtain ⟨v0, vs0, d0, ds0, p0, q0, hargs, rfl, rfl, h0, r0⟩ := trodAll_cons hA
  obtain ⟨v1, vs1, d1, ds1, p1, q1, rfl, rfl, rfl, h1, r1⟩ := trodAll_cons r0
  obtain ⟨rfl, rfl, rfl⟩ := trodAll_nil r1
  obtain rfl : args = #[v0, v1] := by cases args; simp_all
  obtain ⟨rfl, rfl⟩ := trodVars_none hV
  have lt0 : ∀ x ∈ p0, x.block < W.heap.size := by obtain ⟨m, hm⟩ := h0; exact DataW.trod_lt m _ _ _ hm
  have lt1 : ∀ x ∈ p1, x.block < W.heap.size := by obtain ⟨m, hm⟩ := h1; exact DataW.trod_lt m _ _ _ hm
  clear hA0 hval0
  refine (opened W v0 v1 (hval 0 22 v0 rfl rfl) (hval 1 36 v1 rfl rfl) h0 h1).mono fun e W' ⟨he, bel⟩ => ?_
  subst he
  exact ⟨_, rfl, _, _, _, [], _, [], hW', trodAll_mk1 (shut_bool Try.underlying4 _), (trodAll_cons_mk (Below.trod laidOut (by kernel_rfl) (of_decide_eq_true (by kernel_rfl)) h0 bel lt0) (trodAll_cons_mk (Below.trod laidOut (by kernel_rfl) (of_decide_eq_true (by kernel_rfl)) h1 bel lt1) trodAll_mk0)), rfl, bel.frame _, fun h => by cases h⟩
theorem weighSums_holds : Rows.WeighSumsSaid :=
  OpenClaim.holds_of_wide 4 Try.f4 rfl rfl rfl rfl rfl rfl rfl ⟨rfl, rfl, rfl, rfl, rfl⟩ rfl rfl rfl rfl rfl (by kernel_rfl) Try.func4 (by kernel_rfl)
    (of_decide_eq_true (by kernel_rfl)) (by unfold Func.isWrapper; first | (rw [if_pos (by decide +kernel)]; kernel_rfl) | (rw [if_neg (by decide +kernel)]; exact ⟨rfl, rfl⟩))
    (fun os started H enc _ => weighSums_holds_lifted os started H enc)
#print axioms weighSums_holds
end Go.Proofs.Ytbjfckcgpbejkaa
