/- The law PoolFinds returns true for all arguments. No condition. -/
import Derived.Test.YtkdalfdfepipiaaRows
import Derived.Test.YtkdalfdfepipiaaP21
import Derived.Test.YtkdalfdfepipiaaP22
import Derived.Test.YtkdalfdfepipiaaX19
namespace Go.Proofs.Ytkdalfdfepipiaa
open Go.RowKit Go.ChangeShapes Go.WideShapes Go.ChangeAt Go.Deep Go.Joins
set_option linter.unusedSimpArgs false
set_option linter.unusedSectionVars false
set_option maxRecDepth 100000
theorem own : ownKnob Try.prog.godebug = none := by kernel_rfl
theorem laidOut : laidOutB Try.prog = true := by kernel_rfl
theorem lawgood_any {w : World} {cn : ByteArray} {u : Value} {re co rs dl rq cs br bs bm by_ en li he ct bo : Int} {q : Nat} (hp : PoolsV w u) (wh at_ : Int) (host : ByteArray) : Calls Try.prog 3 #[.agg #[.string cn, u, .int .i64 re, .int .i64 co, .int .i64 rs, .int .i64 dl, .int .i64 rq, .int .i64 cs, .int .i64 br, .int .i64 bs, .int .i64 bm, .int .i64 by_, .int .i64 en, .float .f64 q, .int .i64 li, .int .i64 he, .int .i64 ct, .int .i64 bo], .int .i64 wh, .int .i64 at_, .string host] w (fun e w1 => e = .returned (.bool true) ∧ Below w.heap.size w w1) := by
  obtain ⟨l, oa, c, rfl, ho, hle⟩ := hp
  have hR : @RowsP ⟨rawOf (entP l oa c)⟩ (psOf l) := rowsP_ent l oa c
  have hV := @vr_cfg w l oa c cn re co rs dl rq cs br bs bm by_ en q li he ct bo
  have hW := fun i => rawP ho i
  letI : Inhabited RawG := ⟨rawOf (entP l oa c)⟩
  have hL : LawOK Try.prog callK 10 100 3 [.agg #[.string cn, .slice (some ⟨0, 0, some 2⟩) (psOf l).length 0, .int .i64 re, .int .i64 co, .int .i64 rs, .int .i64 dl, .int .i64 rq, .int .i64 cs, .int .i64 br, .int .i64 bs, .int .i64 bm, .int .i64 by_, .int .i64 en, .float .f64 q, .int .i64 li, .int .i64 he, .int .i64 ct, .int .i64 bo], .int .i64 wh, .int .i64 at_, .string host] [] 0 := law_any hR (by rw [psOf_len]; exact hle)
  refine law_raw callK_spec mixed hL rfl (fun i => ?_) hW
  exact (match i with
    | 0 => hV
    | 1 => .of_flat (by kernel_rfl)
    | 2 => .of_flat (by kernel_rfl)
    | 3 => .of_flat (by kernel_rfl)
    | i + 4 => .und)
theorem opened (W : World) {H : Type} {enc : TypeId × Value → H} {r : Reach} {base : Nat} {d0 d1 d2 d3 : DataW H} {p0 p1 p2 p3 : List MemPlace} (v0 v1 v2 v3 : Value) (o0 : Value.okWide Try.prog W r base 29 v0) (o1 : Value.okWide Try.prog W r base 3 v1) (o2 : Value.okWide Try.prog W r base 3 v2) (o3 : Value.okWide Try.prog W r base 9 v3)
    (h0 : DataW.Trod enc Try.prog W 0 (fun _ => true) true 29 v0 d0 p0) (h1 : DataW.Trod enc Try.prog W 0 (fun _ => true) true 3 v1 d1 p1) (h2 : DataW.Trod enc Try.prog W 0 (fun _ => true) true 3 v2 d2 p2) (h3 : DataW.Trod enc Try.prog W 0 (fun _ => true) true 9 v3 d3 p3) : Calls Try.prog 3 #[v0, v1, v2, v3] W fun e W' => e = .returned (.bool true) ∧ Below W.heap.size W W' := by
  obtain ⟨cn, u, re, co, rs, dl, rq, cs, br, bs, bm, by_, en, q, li, he, ct, bo, rfl, hp⟩ := cfg_of_trod o0 h0
  obtain ⟨wh, rfl⟩ := okWide_int Try.underlying3 o1
  obtain ⟨at_, rfl⟩ := okWide_int Try.underlying3 o2
  obtain ⟨host, rfl⟩ := okWide_string Try.underlying9 o3
  exact lawgood_any hp wh at_ host
theorem poolFinds_holds_lifted (os : Os) (started : os.Started) (H : Type) (enc : TypeId × Value → H) :
    ReturnsInHanded {} Try.checked os 3 .any (Rows.poolFindsSpec.pre6 enc Try.prog Try.f3 Rows.poolFindsRow.domain false) (Rows.poolFindsSpec.post enc Try.prog Try.f3 false true false false) := by
  refine returnsInHanded_of_change (C := Try.checked) own started (by kernel_rfl) Try.func3
    (ChangeSpec.witness6 (enc := enc) (C := Try.checked) false ⟨#[], #[.agg #[.string ⟨#[]⟩, .slice none 0 0, .int .i64 0, .int .i64 0, .int .i64 0, .int .i64 0, .int .i64 0, .int .i64 0, .int .i64 0, .int .i64 0, .int .i64 0, .int .i64 0, .int .i64 0, .float .f64 0, .int .i64 0, .int .i64 0, .int .i64 0, .int .i64 0], .int .i64 0, .int .i64 0, .string ⟨#[]⟩], []⟩ 8 (by kernel_rfl) (by kernel_rfl) (by kernel_rfl) (by kernel_rfl)) ?_
  intro W base args ds gs before hval0 hW hcnd _
  have hval : ∀ (j : Nat) t v, Try.f3.params[j]? = some t → args[j]? = some v → Value.okWide Try.prog W .any base t v := hval0
  have hW' := hW
  obtain ⟨p, q, hA0, hV, rfl, hfz, hnd⟩ := hW
  have hA : DataW.TrodAll enc Try.prog W 0 (fun _ => true) true Try.f3.params.toList args.toList ds p := hA0
  rw [Try.params3] at hA hval
  obtain ⟨v0, vs0, d0, ds0, p0, q0, hargs, rfl, rfl, h0, r0⟩ := trodAll_cons hA
  obtain ⟨v1, vs1, d1, ds1, p1, q1, rfl, rfl, rfl, h1, r1⟩ := trodAll_cons r0
  obtain ⟨v2, vs2, d2, ds2, p2, q2, rfl, rfl, rfl, h2, r2⟩ := trodAll_cons r1
  obtain ⟨v3, vs3, d3, ds3, p3, q3, rfl, rfl, rfl, h3, r3⟩ := trodAll_cons r2
  obtain ⟨rfl, rfl, rfl⟩ := trodAll_nil r3
  obtain rfl : args = #[v0, v1, v2, v3] := by cases args; simp_all
  obtain ⟨rfl, rfl⟩ := trodVars_none hV
  have lt0 : ∀ x ∈ p0, x.block < W.heap.size := by obtain ⟨m, hm⟩ := h0; exact DataW.trod_lt m _ _ _ hm
  have lt1 : ∀ x ∈ p1, x.block < W.heap.size := by obtain ⟨m, hm⟩ := h1; exact DataW.trod_lt m _ _ _ hm
  have lt2 : ∀ x ∈ p2, x.block < W.heap.size := by obtain ⟨m, hm⟩ := h2; exact DataW.trod_lt m _ _ _ hm
  have lt3 : ∀ x ∈ p3, x.block < W.heap.size := by obtain ⟨m, hm⟩ := h3; exact DataW.trod_lt m _ _ _ hm
  clear hA0 hval0
  refine (opened W v0 v1 v2 v3 (hval 0 29 v0 rfl rfl) (hval 1 3 v1 rfl rfl) (hval 2 3 v2 rfl rfl) (hval 3 9 v3 rfl rfl) h0 h1 h2 h3).mono fun e W' ⟨he, bel⟩ => ?_
  subst he
  exact ⟨_, rfl, _, _, _, [], _, [], hW', trodAll_mk1 (shut_bool Try.underlying4 _), (trodAll_cons_mk (Below.trod laidOut (by kernel_rfl) (of_decide_eq_true (by kernel_rfl)) h0 bel lt0) (trodAll_cons_mk (Below.trod laidOut (by kernel_rfl) (of_decide_eq_true (by kernel_rfl)) h1 bel lt1) (trodAll_cons_mk (Below.trod laidOut (by kernel_rfl) (of_decide_eq_true (by kernel_rfl)) h2 bel lt2) (trodAll_cons_mk (Below.trod laidOut (by kernel_rfl) (of_decide_eq_true (by kernel_rfl)) h3 bel lt3) trodAll_mk0)))), rfl, bel.frame _, fun h => by cases h⟩
theorem poolFinds_holds : Rows.PoolFindsSaid :=
  OpenClaim.holds_of_wide 3 Try.f3 rfl rfl rfl rfl rfl rfl rfl ⟨rfl, rfl, rfl, rfl, rfl⟩ rfl rfl rfl rfl rfl (by kernel_rfl) Try.func3 (by kernel_rfl)
    (of_decide_eq_true (by kernel_rfl)) (by unfold Func.isWrapper; first | (rw [if_pos (by decide +kernel)]; kernel_rfl) | (rw [if_neg (by decide +kernel)]; exact ⟨rfl, rfl⟩))
    (fun os started H enc _ => poolFinds_holds_lifted os started H enc)
#print axioms poolFinds_holds
end Go.Proofs.Ytkdalfdfepipiaa
