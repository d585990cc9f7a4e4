/- The law WeighCalls returns true for all arguments. No condition. -/
import Derived.Test.YtbjfckcgpbejkaaRows
import Derived.Test.YtbjfckcgpbejkaaC9
import Derived.Test.YtbjfckcgpbejkaaX18
namespace Go.Proofs.Ytbjfckcgpbejkaa
open Go.RowKit Go.ChangeShapes Go.WideShapes Go.ChangeAt Go.Deep Go.Joins
set_option linter.unusedSimpArgs false
set_option maxRecDepth 100000
theorem own : ownKnob Try.prog.godebug = none := by kernel_rfl
theorem laidOut : laidOutB Try.prog = true := by kernel_rfl
theorem trod_float1 {HH : Type} {enc : TypeId × Value → HH} {w : World} {fuel : Nat} {t : TypeId} {cs : List Value} {x : DataW HH × List MemPlace} (ht : Try.prog.underlying t = some (.float .f64)) (h : DataW.trod enc Try.prog w 0 (fun _ => true) true fuel t cs = some x) : ∃ n : Nat, cs = [.float .f64 n] := by
  cases fuel with
  | zero => simp [DataW.trod] at h
  | succ n =>
    unfold DataW.trod at h
    rw [ht] at h
    split at h <;> simp_all
abbrev GoodL (a3 : ByteArray) (v0 : Value) (v1 : Value) (v2 : Value) (v4 : Value) (w : World) : Prop := Calls Try.prog 7 #[v0, v1, v2, .string a3, v4] w (fun e w1 => e = .returned (.bool true) ∧ Below w.heap.size w w1)
theorem lawgood_any (a3 : ByteArray) {w : World} {v0 : Value} {v1 : Value} {v2 : Value} {v4 : Value} (s0 : Sh w (fun t : Int => [Value.int .i64 t]) v0) (s1 : Sh w (fun t : Nat => [Value.float .f64 t]) v1) (s2 : Sh w (fun t : NS => [Value.string t.1]) v2) (s4 : Sh w (fun t : Int => [Value.int .i64 t]) v4) : GoodL a3 v0 v1 v2 v4 w := by
  obtain ⟨l0, oa0, c0, rfl, p0⟩ := opn_of_sh s0
  obtain ⟨l1, oa1, c1, rfl, p1⟩ := opn_of_sh s1
  obtain ⟨l2, oa2, c2, rfl, p2⟩ := opn_of_sh s2
  obtain ⟨l4, oa4, c4, rfl, p4⟩ := opn_of_sh s4
  let e : Nat → Ent := fun i => match i with | 0 => (oa0, l0.length, c0, l0.flatMap (fun t : Int => [Value.int .i64 t])) | 1 => (oa1, l1.length, c1, l1.flatMap (fun t : Nat => [Value.float .f64 t])) | 2 => (oa2, l2.length, c2, l2.flatMap (fun t : NS => [Value.string t.1])) | 3 => (oa4, l4.length, c4, l4.flatMap (fun t : Int => [Value.int .i64 t])) | _ + 4 => entD
  letI : Inhabited RawG := ⟨rawOf e⟩
  have hL : LawOK Try.prog callW 10 100 7 [.slice (some ⟨0, 0, some 2⟩) l0.length 0, .slice (some ⟨1, 0, some 2⟩) l1.length 0, .slice (some ⟨2, 0, some 2⟩) l2.length 0, .string a3, .slice (some ⟨3, 0, some 2⟩) l4.length 0] [] 0 := law_any a3 l0 l1 l2 l4 (flatMap_one _) (flatMap_one _) (flatMap_one _) (flatMap_one _)
  refine law_raw callW_spec mixed hL rfl (fun i => match i with
    | 0 => .opq 0 _ 0 rfl
    | 1 => .opq 1 _ 0 rfl
    | 2 => .opq 2 _ 0 rfl
    | 3 => .of_flat (by kernel_rfl)
    | 4 => .opq 3 _ 0 rfl
    | i + 5 => .und) (fun i => match i with
    | 0 => rawAt_opn e (f := (fun t : Int => [Value.int .i64 t])) rfl p0 (fun t u hu => by simp at hu; subst hu; rfl) (fun t h => by cases h)
    | 1 => rawAt_opn e (f := (fun t : Nat => [Value.float .f64 t])) rfl p1 (fun t u hu => by simp at hu; subst hu; rfl) (fun t h => by cases h)
    | 2 => rawAt_opn e (f := (fun t : NS => [Value.string t.1])) rfl p2 (fun t u hu => by simp at hu; subst hu; rfl) (fun t h => by cases h)
    | 3 => rawAt_opn e (f := (fun t : Int => [Value.int .i64 t])) rfl p4 (fun t u hu => by simp at hu; subst hu; rfl) (fun t h => by cases h)
    | i + 4 => rawAt_none e rfl)
theorem opened (W : World) {H : Type} {enc : TypeId × Value → H} {r : Reach} {base : Nat} {d0 d1 d2 d3 d4 : DataW H} {p0 p1 p2 p3 p4 : List MemPlace} (v0 v1 v2 v3 v4 : Value) (o0 : Value.okWide Try.prog W r base 30 v0) (o1 : Value.okWide Try.prog W r base 24 v1) (o2 : Value.okWide Try.prog W r base 41 v2) (o3 : Value.okWide Try.prog W r base 9 v3) (o4 : Value.okWide Try.prog W r base 30 v4)
    (h0 : DataW.Trod enc Try.prog W 0 (fun _ => true) true 30 v0 d0 p0) (h1 : DataW.Trod enc Try.prog W 0 (fun _ => true) true 24 v1 d1 p1) (h2 : DataW.Trod enc Try.prog W 0 (fun _ => true) true 41 v2 d2 p2) (h3 : DataW.Trod enc Try.prog W 0 (fun _ => true) true 9 v3 d3 p3) (h4 : DataW.Trod enc Try.prog W 0 (fun _ => true) true 30 v4 d4 p4) : Calls Try.prog 7 #[v0, v1, v2, v3, v4] W fun e W' => e = .returned (.bool true) ∧ Below W.heap.size W W' := by
  obtain ⟨a3, rfl⟩ := okWide_string Try.underlying9 o3
  exact lawgood_any a3 (sh_of_trod (f := (fun t : Int => [Value.int .i64 t])) (sz := 1) Try.underlying30 (by kernel_rfl) (by decide) (fun _ => rfl) (fun fu cs y hl ht => by obtain ⟨b, e_b, _, _⟩ := DataW.trod_int Try.underlying3 ht; exact ⟨b, by simpa using e_b⟩) o0 h0) (sh_of_trod (f := (fun t : Nat => [Value.float .f64 t])) (sz := 1) Try.underlying24 (by kernel_rfl) (by decide) (fun _ => rfl) (fun fu cs y hl ht => by obtain ⟨b, e_b⟩ := trod_float1 Try.underlying25 ht; exact ⟨b, by simpa using e_b⟩) o1 h1) (sh_of_trod (f := (fun t : NS => [Value.string t.1])) (sz := 1) Try.underlying41 (by kernel_rfl) (by decide) (fun _ => rfl) (fun fu cs y hl ht => by obtain ⟨b, e_b, _, hb⟩ := DataW.trod_string Try.underlying9 ht; exact ⟨⟨b, Nat.le_trans hb (by decide)⟩, by simpa using e_b⟩) o2 h2) (sh_of_trod (f := (fun t : Int => [Value.int .i64 t])) (sz := 1) Try.underlying30 (by kernel_rfl) (by decide) (fun _ => rfl) (fun fu cs y hl ht => by obtain ⟨b, e_b, _, _⟩ := DataW.trod_int Try.underlying3 ht; exact ⟨b, by simpa using e_b⟩) o4 h4)
theorem weighCalls_holds_lifted (os : Os) (started : os.Started) (H : Type) (enc : TypeId × Value → H) :
    ReturnsInHanded {} Try.checked os 7 .any (Rows.weighCallsSpec.pre6 enc Try.prog Try.f7 Rows.weighCallsRow.domain false) (Rows.weighCallsSpec.post enc Try.prog Try.f7 false true false false) := by
  refine returnsInHanded_of_change (C := Try.checked) own started (by kernel_rfl) Try.func7
    (ChangeSpec.witness6 (enc := enc) (C := Try.checked) false ⟨#[], #[.slice none 0 0, .slice none 0 0, .slice none 0 0, .string ⟨#[]⟩, .slice none 0 0], []⟩ 8 (by kernel_rfl) (by kernel_rfl) (by kernel_rfl) (by kernel_rfl)) ?_
  intro W base args ds gs before hval0 hW hcnd _
  have hval : ∀ (j : Nat) t v, Try.f7.params[j]? = some t → args[j]? = some v → Value.okWide Try.prog W .any base t v := hval0
  have hW' := hW
  obtain ⟨p, q, hA0, hV, rfl, hfz, hnd⟩ := hW
  have hA : DataW.TrodAll enc Try.prog W 0 (fun _ => true) true Try.f7.params.toList args.toList ds p := hA0
  rw [Try.params7] at hA hval
  obtain ⟨v0, vs0, d0, ds0, p0, q0, hargs, rfl, rfl, h0, r0⟩ := trodAll_cons hA
  obtain ⟨v1, vs1, d1, ds1, p1, q1, rfl, rfl, rfl, h1, r1⟩ := trodAll_cons r0
  obtain ⟨v2, vs2, d2, ds2, p2, q2, rfl, rfl, rfl, h2, r2⟩ := trodAll_cons r1
  obtain ⟨v3, vs3, d3, ds3, p3, q3, rfl, rfl, rfl, h3, r3⟩ := trodAll_cons r2
  obtain ⟨v4, vs4, d4, ds4, p4, q4, rfl, rfl, rfl, h4, r4⟩ := trodAll_cons r3
  obtain ⟨rfl, rfl, rfl⟩ := trodAll_nil r4
  obtain rfl : args = #[v0, v1, v2, v3, v4] := by cases args; simp_all
  obtain ⟨rfl, rfl⟩ := trodVars_none hV
  have lt0 : ∀ x ∈ p0, x.block < W.heap.size := by obtain ⟨m, hm⟩ := h0; exact DataW.trod_lt m _ _ _ hm
  have lt1 : ∀ x ∈ p1, x.block < W.heap.size := by obtain ⟨m, hm⟩ := h1; exact DataW.trod_lt m _ _ _ hm
  have lt2 : ∀ x ∈ p2, x.block < W.heap.size := by obtain ⟨m, hm⟩ := h2; exact DataW.trod_lt m _ _ _ hm
  have lt3 : ∀ x ∈ p3, x.block < W.heap.size := by obtain ⟨m, hm⟩ := h3; exact DataW.trod_lt m _ _ _ hm
  have lt4 : ∀ x ∈ p4, x.block < W.heap.size := by obtain ⟨m, hm⟩ := h4; exact DataW.trod_lt m _ _ _ hm
  clear hA0 hval0
  refine (opened W v0 v1 v2 v3 v4 (hval 0 30 v0 rfl rfl) (hval 1 24 v1 rfl rfl) (hval 2 41 v2 rfl rfl) (hval 3 9 v3 rfl rfl) (hval 4 30 v4 rfl rfl) h0 h1 h2 h3 h4).mono fun e W' ⟨he, bel⟩ => ?_
  subst he
  exact ⟨_, rfl, _, _, _, [], _, [], hW', trodAll_mk1 (shut_bool Try.underlying4 _), (trodAll_cons_mk (Below.trod laidOut (by kernel_rfl) (of_decide_eq_true (by kernel_rfl)) h0 bel lt0) (trodAll_cons_mk (Below.trod laidOut (by kernel_rfl) (of_decide_eq_true (by kernel_rfl)) h1 bel lt1) (trodAll_cons_mk (Below.trod laidOut (by kernel_rfl) (of_decide_eq_true (by kernel_rfl)) h2 bel lt2) (trodAll_cons_mk (Below.trod laidOut (by kernel_rfl) (of_decide_eq_true (by kernel_rfl)) h3 bel lt3) (trodAll_cons_mk (Below.trod laidOut (by kernel_rfl) (of_decide_eq_true (by kernel_rfl)) h4 bel lt4) trodAll_mk0))))), rfl, bel.frame _, fun h => by cases h⟩
theorem weighCalls_holds : Rows.WeighCallsSaid :=
  OpenClaim.holds_of_wide 7 Try.f7 rfl rfl rfl rfl rfl rfl rfl ⟨rfl, rfl, rfl, rfl, rfl⟩ rfl rfl rfl rfl rfl (by kernel_rfl) Try.func7 (by kernel_rfl)
    (of_decide_eq_true (by kernel_rfl)) (by unfold Func.isWrapper; first | (rw [if_pos (by decide +kernel)]; kernel_rfl) | (rw [if_neg (by decide +kernel)]; exact ⟨rfl, rfl⟩))
    (fun os started H enc _ => weighCalls_holds_lifted os started H enc)
#print axioms weighCalls_holds
end Go.Proofs.Ytbjfckcgpbejkaa
