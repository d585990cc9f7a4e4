/- The law WeighParts returns true for all arguments. No condition. -/
import Derived.Test.YtbjfckcgpbejkaaRows
import Derived.Test.YtbjfckcgpbejkaaQ5
import Derived.Test.YtbjfckcgpbejkaaX19
namespace Go.Proofs.Ytbjfckcgpbejkaa
open Go.RowKit Go.ChangeShapes Go.WideShapes Go.ChangeAt Go.Deep Go.Joins
set_option linter.unusedSimpArgs false
set_option maxRecDepth 100000
theorem own : ownKnob Try.prog.godebug = none := by kernel_rfl
theorem laidOut : laidOutB Try.prog = true := by kernel_rfl
theorem trod_float1 {HH : Type} {enc : TypeId × Value → HH} {w : World} {fuel : Nat} {t : TypeId} {cs : List Value} {x : DataW HH × List MemPlace} (ht : Try.prog.underlying t = some (.float .f64)) (h : DataW.trod enc Try.prog w 0 (fun _ => true) true fuel t cs = some x) : ∃ n : Nat, cs = [.float .f64 n] := by
  cases fuel with
  | zero => simp [DataW.trod] at h
  | succ n =>
    unfold DataW.trod at h
    rw [ht] at h
    split at h <;> simp_all
abbrev GoodL  (v0 : Value) (w : World) : Prop := Calls Try.prog 3 #[v0] w (fun e w1 => e = .returned (.bool true) ∧ Below w.heap.size w w1)
theorem lawgood_any  {w : World} {v0 : Value} (s0 : Sh w (fun t : U8 => [Value.int .u8 t.1]) v0) : GoodL  v0 w := by
  obtain ⟨l0, oa0, c0, rfl, p0⟩ := opn_of_sh s0
  obtain ⟨e, he⟩ : ∃ e : Nat → Ent, e = fun i => if i = 0 then (oa0, l0.length, c0, (l0.flatMap (fun t : U8 => [Value.int .u8 t.1]))) else entD := ⟨_, rfl⟩
  have h0 : e 0 = (oa0, l0.length, c0, (l0.flatMap (fun t : U8 => [Value.int .u8 t.1]))) := by rw [he]; rfl
  have hx : ∀ j, e (1 + j) = entD := fun j => by
    rw [he]
    simp only [if_neg (show ¬ 1 + j = 0 by omega)]
  letI : Inhabited RawG := ⟨rawOf e⟩
  have hL : LawOK Try.prog callW 10 100 3 [.slice (some ⟨0, 0, some 2⟩) l0.length 0] [] 0 := law_parts  l0 (by show (e 0).2.2.2 = _; rw [h0]; exact flatMap_one _)
  refine law_raw callW_spec mixed hL rfl (fun i => match i with
    | 0 => vr_opq e h0
    | i + 1 => .und) (fun i => ?_)
  by_cases hi : i < 1
  · match i, hi with
    | 0, _ => exact rawAt_opn e (f := (fun t : U8 => [Value.int .u8 t.1])) h0 p0 (fun t u hu => by simp at hu; subst hu; rfl) (fun t h => by cases h)
  · obtain ⟨j, rfl⟩ : ∃ j, i = 1 + j := ⟨i - 1, by omega⟩
    exact rawAt_none e (hx j)
theorem opened (W : World) {H : Type} {enc : TypeId × Value → H} {r : Reach} {base : Nat} {d0 : DataW H} {p0 : List MemPlace} (v0 : Value) (o0 : Value.okWide Try.prog W r base 22 v0)
    (h0 : DataW.Trod enc Try.prog W 0 (fun _ => true) true 22 v0 d0 p0) : Calls Try.prog 3 #[v0] W fun e W' => e = .returned (.bool true) ∧ Below W.heap.size W W' := by
  exact lawgood_any  (sh_of_trod (f := (fun t : U8 => [Value.int .u8 t.1])) (sz := 1) Try.underlying22 (by kernel_rfl) (by decide) (fun _ => rfl) (fun fu cs y hl ht => by obtain ⟨b, e_b, _, hb⟩ := DataW.trod_int Try.underlying5 ht; exact ⟨⟨b, by simp only [Lit.wf, Bool.and_eq_true, decide_eq_true_eq] at hb; have h0 : IntKind.u8.min = 0 := rfl; have h1 : IntKind.u8.max = 255 := rfl; omega⟩, by simpa using e_b⟩) o0 h0)
theorem weighParts_holds_lifted (os : Os) (started : os.Started) (H : Type) (enc : TypeId × Value → H) :
    ReturnsInHanded {} Try.checked os 3 .any (Rows.weighPartsSpec.pre6 enc Try.prog Try.f3 Rows.weighPartsRow.domain false) (Rows.weighPartsSpec.post enc Try.prog Try.f3 false true false false) := by
  refine returnsInHanded_of_change (C := Try.checked) own started (by kernel_rfl) Try.func3
    (ChangeSpec.witness6 (enc := enc) (C := Try.checked) false ⟨#[], #[.slice none 0 0], []⟩ 8 (by kernel_rfl) (by kernel_rfl) (by kernel_rfl) (by kernel_rfl)) ?_
  intro W base args ds gs before hval0 hW hcnd _
  have hval : ∀ (j : Nat) t v, Try.f3.params[j]? = some t → args[j]? = some v → Value.okWide Try.prog W .any base t v := hval0
  have hW' := hW
  obtain ⟨p, q, hA0, hV, rfl, hfz, hnd⟩ := hW
  have hA : DataW.TrodAll enc Try.prog W 0 (fun _ => true) true Try.f3.params.toList args.toList ds p := hA0
  rw [Try.params3] at hA hval
  obtain ⟨v0, vs0, d0, ds0, p0, q0, hargs, rfl, rfl, h0, r0⟩ := trodAll_cons hA
  obtain ⟨rfl, rfl, rfl⟩ := trodAll_nil r0
  obtain rfl : args = #[v0] := by cases args; simp_all
  obtain ⟨rfl, rfl⟩ := trodVars_none hV
  have lt0 : ∀ x ∈ p0, x.block < W.heap.size := by obtain ⟨m, hm⟩ := h0; exact DataW.trod_lt m _ _ _ hm
  clear hA0 hval0
  refine (opened W v0 (hval 0 22 v0 rfl rfl) h0).mono fun e W' ⟨he, bel⟩ => ?_
  subst he
  exact ⟨_, rfl, _, _, _, [], _, [], hW', trodAll_mk1 (shut_bool Try.underlying4 _), (trodAll_cons_mk (Below.trod laidOut (by kernel_rfl) (of_decide_eq_true (by kernel_rfl)) h0 bel lt0) trodAll_mk0), rfl, bel.frame _, fun h => by cases h⟩
theorem weighParts_holds : Rows.WeighPartsSaid :=
  OpenClaim.holds_of_wide 3 Try.f3 rfl rfl rfl rfl rfl rfl rfl ⟨rfl, rfl, rfl, rfl, rfl⟩ rfl rfl rfl rfl rfl (by kernel_rfl) Try.func3 (by kernel_rfl)
    (of_decide_eq_true (by kernel_rfl)) (by unfold Func.isWrapper; first | (rw [if_pos (by decide +kernel)]; kernel_rfl) | (rw [if_neg (by decide +kernel)]; exact ⟨rfl, rfl⟩))
    (fun os started H enc _ => weighParts_holds_lifted os started H enc)
#print axioms weighParts_holds
end Go.Proofs.Ytbjfckcgpbejkaa
