/- The law PoolCopies returns true for all arguments. No condition. -/
import Derived.Test.YtkdalfdfepipiaaRows
import Derived.Test.YtkdalfdfepipiaaNC
namespace Go.Proofs.Ytkdalfdfepipiaa
open Go.RowKit Go.ChangeShapes Go.WideShapes Go.ChangeAt Go.Deep Go.Joins
set_option linter.unusedSimpArgs false
set_option linter.unusedSectionVars false
set_option linter.unusedVariables false
set_option maxRecDepth 100000
theorem own : ownKnob Try.prog.godebug = none := by kernel_rfl
theorem laidOut : laidOutB Try.prog = true := by kernel_rfl
/-- A pool that came in, with the headers of its rows. -/
def toPX {w : World} (t : InP w) : PX := (t.1.1, .slice t.1.2.1.1 t.1.1.hs.length t.1.2.1.2, .slice t.1.2.2.1 t.1.1.bk.length t.1.2.2.2)
theorem lawgood_any {w : World} {cn : ByteArray} {u : Value} {re co rs dl rq cs br bs bm by_ en : Int} {q : Nat} {li he ct bo : Int} (hp : PoolsV w u) (wh : Int) : Calls Try.prog 4 #[.agg #[.string cn, u, .int .i64 re, .int .i64 co, .int .i64 rs, .int .i64 dl, .int .i64 rq, .int .i64 cs, .int .i64 br, .int .i64 bs, .int .i64 bm, .int .i64 by_, .int .i64 en, .float .f64 q, .int .i64 li, .int .i64 he, .int .i64 ct, .int .i64 bo], .int .i64 wh] w (fun e w1 => e = .returned (.bool true) ∧ Below w.heap.size w w1) := by
  obtain ⟨l, oa, c, rfl, ho, hle⟩ := hp
  have e : (l.map toPX).flatMap realP = l.flatMap inP := by rw [List.flatMap_map]; rfl
  have hl : (l.map toPX).length = l.length := by simp
  have h := copies_ok (w0 := w) (K := ⟨cn, re, co, rs, dl, rq, cs, br, bs, bm, by_, en, q, li, he, ct, bo⟩) (Lc := l.map toPX) (oa := oa) (cc := c) (wh := wh) (fun t ht => by
    obtain ⟨s, _, rfl⟩ := List.mem_map.1 ht
    exact ⟨⟨_, _, rfl, s.2.1⟩, ⟨_, _, rfl, s.2.2⟩⟩) ⟨by rw [hl]; exact ho.le, fun hp => by rw [e]; exact ho.row (by rw [← hl]; exact hp)⟩ (by rw [hl]; exact hle)
  rw [hl] at h
  exact h
theorem opened (W : World) {H : Type} {enc : TypeId × Value → H} {r : Reach} {base : Nat} {d0 d1 : DataW H} {p0 p1 : List MemPlace} (v0 v1 : Value) (o0 : Value.okWide Try.prog W r base 29 v0) (o1 : Value.okWide Try.prog W r base 3 v1)
    (h0 : DataW.Trod enc Try.prog W 0 (fun _ => true) true 29 v0 d0 p0) (h1 : DataW.Trod enc Try.prog W 0 (fun _ => true) true 3 v1 d1 p1) : Calls Try.prog 4 #[v0, v1] W fun e W' => e = .returned (.bool true) ∧ Below W.heap.size W W' := by
  obtain ⟨cn, u, re, co, rs, dl, rq, cs, br, bs, bm, by_, en, q, li, he, ct, bo, rfl, hp⟩ := cfg_of_trod o0 h0
  obtain ⟨wh, rfl⟩ := okWide_int Try.underlying3 o1
  exact lawgood_any hp wh
theorem poolCopies_holds_lifted (os : Os) (started : os.Started) (H : Type) (enc : TypeId × Value → H) :
    ReturnsInHanded {} Try.checked os 4 .any (Rows.poolCopiesSpec.pre6 enc Try.prog Try.f4 Rows.poolCopiesRow.domain false) (Rows.poolCopiesSpec.post enc Try.prog Try.f4 false true false false) := by
  refine returnsInHanded_of_change (C := Try.checked) own started (by kernel_rfl) Try.func4
    (ChangeSpec.witness6 (enc := enc) (C := Try.checked) false ⟨#[], #[.agg #[.string ⟨#[]⟩, .slice none 0 0, .int .i64 0, .int .i64 0, .int .i64 0, .int .i64 0, .int .i64 0, .int .i64 0, .int .i64 0, .int .i64 0, .int .i64 0, .int .i64 0, .int .i64 0, .float .f64 0, .int .i64 0, .int .i64 0, .int .i64 0, .int .i64 0], .int .i64 0], []⟩ 8 (by kernel_rfl) (by kernel_rfl) (by kernel_rfl) (by kernel_rfl)) ?_
  intro W base args ds gs before hval0 hW hcnd _
  have hval : ∀ (j : Nat) t v, Try.f4.params[j]? = some t → args[j]? = some v → Value.okWide Try.prog W .any base t v := hval0
  have hW' := hW
  obtain ⟨p, q, hA0, hV, rfl, hfz, hnd⟩ := hW
  have hA : DataW.TrodAll enc Try.prog W 0 (fun _ => true) true Try.f4.params.toList args.toList ds p := hA0
  rw [Try.params4] at hA hval
  obtain ⟨v0, vs0, d0, ds0, p0, q0, hargs, rfl, rfl, h0, r0⟩ := trodAll_cons hA
  obtain ⟨v1, vs1, d1, ds1, p1, q1, rfl, rfl, rfl, h1, r1⟩ := trodAll_cons r0
  obtain ⟨rfl, rfl, rfl⟩ := trodAll_nil r1
  obtain rfl : args = #[v0, v1] := by cases args; simp_all
  obtain ⟨rfl, rfl⟩ := trodVars_none hV
  have lt0 : ∀ x ∈ p0, x.block < W.heap.size := by obtain ⟨m, hm⟩ := h0; exact DataW.trod_lt m _ _ _ hm
  have lt1 : ∀ x ∈ p1, x.block < W.heap.size := by obtain ⟨m, hm⟩ := h1; exact DataW.trod_lt m _ _ _ hm
  clear hA0 hval0
  refine (opened W v0 v1 (hval 0 29 v0 rfl rfl) (hval 1 3 v1 rfl rfl) h0 h1).mono fun e W' ⟨he, bel⟩ => ?_
  subst he
  exact ⟨_, rfl, _, _, _, [], _, [], hW', trodAll_mk1 (shut_bool Try.underlying4 _), (trodAll_cons_mk (Below.trod laidOut (by kernel_rfl) (of_decide_eq_true (by kernel_rfl)) h0 bel lt0) (trodAll_cons_mk (Below.trod laidOut (by kernel_rfl) (of_decide_eq_true (by kernel_rfl)) h1 bel lt1) trodAll_mk0)), rfl, bel.frame _, fun h => by cases h⟩
theorem poolCopies_holds : Rows.PoolCopiesSaid :=
  OpenClaim.holds_of_wide 4 Try.f4 rfl rfl rfl rfl rfl rfl rfl ⟨rfl, rfl, rfl, rfl, rfl⟩ rfl rfl rfl rfl rfl (by kernel_rfl) Try.func4 (by kernel_rfl)
    (of_decide_eq_true (by kernel_rfl)) (by unfold Func.isWrapper; first | (rw [if_pos (by decide +kernel)]; kernel_rfl) | (rw [if_neg (by decide +kernel)]; exact ⟨rfl, rfl⟩))
    (fun os started H enc _ => poolCopies_holds_lifted os started H enc)
#print axioms poolCopies_holds
end Go.Proofs.Ytkdalfdfepipiaa
