/- The law ProbeEvery returns true for every configuration and all slices. No condition. -/
import Derived.Test.YtbmgigbcilgieaaRows
import Derived.WalkKit
import Derived.ProofKit
import Derived.OpenShut
import Derived.ShutString
import Derived.ChangeOld
import Derived.Below
import Derived.Test.YtbmgigbcilgieaaE3
import Derived.Test.YtbmgigbcilgieaaO
namespace Go.Proofs.Ytbmgigbcilgieaa
open Go.RowKit Go.ChangeShapes Go.WideShapes Go.ChangeAt Go.Deep Go.Joins
set_option maxRecDepth 100000
theorem own : ownKnob Try.prog.godebug = none := by kernel_rfl
theorem laidOut : laidOutB Try.prog = true := by kernel_rfl
/-- A configuration that came in. -/
theorem conf_of_trod {H : Type} {enc : TypeId × Value → H} {w : World} {v : Value} {d : DataW H} {p : List MemPlace} {r : Reach} {b0 : Nat} (hv : Value.okWide Try.prog w r b0 23 v) (h : DataW.Trod enc Try.prog w 0 (fun _ => true) true 23 v d p) :
    ∃ ce cw cr cf : Int, v = eC ce cw cr cf := by
  obtain ⟨c0, c1, c2, c3, y0, y1, y2, y3, n', rfl, _, _, t0, t1, t2, t3⟩ := open_agg4 Try.underlying23 (by kernel_rfl) (by kernel_rfl) hv h
  obtain ⟨a, e0, _, _⟩ := DataW.trod_int Try.underlying2 t0
  obtain ⟨b, e1, _, _⟩ := DataW.trod_int Try.underlying2 t1
  obtain ⟨r, e2, _, _⟩ := DataW.trod_int Try.underlying3 t2
  obtain ⟨f, e3, _, _⟩ := DataW.trod_int Try.underlying3 t3
  simp at e0 e1 e2 e3
  subst e0 e1 e2 e3
  exact ⟨a, b, r, f, rfl⟩
/-- A slice of one-cell elements that came in. -/
theorem sh_of_trod {T HH : Type} {enc : TypeId × Value → HH} {w : World} {f : T → Value} {t e : TypeId} (ht : Try.prog.underlying t = some (.slice e)) (hsz : Try.prog.cellsOf e = 1) (hR : ∀ fu cs y, cs.length = 1 → DataW.trod enc Try.prog w 0 (fun _ => true) true fu e cs = some y → ∃ u, cs = [f u]) {v : Value} {d : DataW HH} {p : List MemPlace}
    {r : Reach} {b0 : Nat} (hv : Value.okWide Try.prog w r b0 t v) (h : DataW.Trod enc Try.prog w 0 (fun _ => true) true t v d p) : Sh w f v := by
  obtain ⟨A, n0, c0, rfl⟩ := okWide_slice ht hv
  obtain ⟨fuel, h⟩ := h
  change DataW.trod enc Try.prog w 0 (fun _ => true) true fuel t [.slice A n0 c0] = some (d, p) at h
  rcases slice_arg ht hsz (by decide) h (fun cs => ∃ u, cs = [f u]) hR with hv' | ⟨a, n, c, xs, hv', hlen, hnc, _, hR', hb⟩
  · exact .inl hv'
  · rw [hv']
    clear h hv hv'
    rcases Nat.eq_zero_or_pos n with rfl | hn
    · exact .inr (.inl ⟨a, c, rfl⟩)
    · obtain ⟨hs, cs, el, fz, hh, hx⟩ := hb hn
      obtain ⟨l, hl, rfl⟩ := list_of (f := fun u => [f u]) (sz := 1) (fun _ => rfl) n xs hlen hR'
      obtain ⟨b, o, s⟩ := a
      simp only at hs
      subst hs hl
      refine .inr (.inr ⟨l, b, o, c, el, cs, fz, hn, hnc, rfl, hh, fun i u hu => hx i u ?_⟩)
      rw [← hu]
      congr 1
      clear hx hu hR' hlen hn hnc hb hh
      induction l with
      | nil => rfl
      | cons y t ih => simp [List.flatMap_cons, ih]
theorem opened (W : World) {H : Type} {enc : TypeId × Value → H} {r : Reach} {base : Nat} {d0 d1 d2 : DataW H} {p0 p1 p2 : List MemPlace} (v0 v1 v2 : Value) (o0 : Value.okWide Try.prog W r base 23 v0) (o1 : Value.okWide Try.prog W r base 41 v1) (o2 : Value.okWide Try.prog W r base 24 v2)
    (h0 : DataW.Trod enc Try.prog W 0 (fun _ => true) true 23 v0 d0 p0) (h1 : DataW.Trod enc Try.prog W 0 (fun _ => true) true 41 v1 d1 p1) (h2 : DataW.Trod enc Try.prog W 0 (fun _ => true) true 24 v2 d2 p2) : Calls Try.prog 6 #[v0, v1, v2] W fun e W' => e = .returned (.bool true) ∧ Below W.heap.size W W' := by
  obtain ⟨ce, cw, cr, cf, rfl⟩ := conf_of_trod o0 h0
  exact every_any ce cw cr cf
    (sh_of_trod (f := fun x : Int => Value.int .i64 x) Try.underlying41 (by kernel_rfl) (fun fu cs y hl ht => by obtain ⟨b, e, _, _⟩ := DataW.trod_int Try.underlying2 ht; exact ⟨b, by simpa using e⟩) o1 h1)
    (sh_of_trod (f := fun x : Bool => Value.bool x) Try.underlying24 (by kernel_rfl) (fun fu cs y hl ht => by obtain ⟨b, e, _⟩ := DataW.trod_bool Try.underlying4 ht; exact ⟨b, by simpa using e⟩) o2 h2)
theorem probeEvery_holds_lifted (os : Os) (started : os.Started) (H : Type) (enc : TypeId × Value → H) :
    ReturnsInHanded {} Try.checked os 6 .any (Rows.probeEverySpec.pre6 enc Try.prog Try.f6 Rows.probeEveryRow.domain false) (Rows.probeEverySpec.post enc Try.prog Try.f6 false true false false) := by
  refine returnsInHanded_of_change (C := Try.checked) own started (by kernel_rfl) Try.func6
    (ChangeSpec.witness6 (enc := enc) (C := Try.checked) false ⟨#[], #[.agg #[.int .i64 0, .int .i64 0, .int .i64 0, .int .i64 0], .slice none 0 0, .slice none 0 0], []⟩ 8 (by kernel_rfl) (by kernel_rfl) (by kernel_rfl) (by kernel_rfl)) ?_
  intro W base args ds gs before hval0 hW hcnd _
  have hval : ∀ (j : Nat) t v, Try.f6.params[j]? = some t → args[j]? = some v → Value.okWide Try.prog W .any base t v := hval0
  have hW' := hW
  obtain ⟨p, q, hA0, hV, rfl, hfz, hnd⟩ := hW
  have hA : DataW.TrodAll enc Try.prog W 0 (fun _ => true) true Try.f6.params.toList args.toList ds p := hA0
  rw [Try.params6] at hA hval
  obtain ⟨v0, vs0, d0, ds0, p0, q0, hargs, rfl, rfl, h0, r0⟩ := trodAll_cons hA
  obtain ⟨v1, vs1, d1, ds1, p1, q1, rfl, rfl, rfl, h1, r1⟩ := trodAll_cons r0
  obtain ⟨v2, vs2, d2, ds2, p2, q2, rfl, rfl, rfl, h2, r2⟩ := trodAll_cons r1
  obtain ⟨rfl, rfl, rfl⟩ := trodAll_nil r2
  obtain rfl : args = #[v0, v1, v2] := by cases args; simp_all
  obtain ⟨rfl, rfl⟩ := trodVars_none hV
  have lt0 : ∀ x ∈ p0, x.block < W.heap.size := by obtain ⟨m, hm⟩ := h0; exact DataW.trod_lt m _ _ _ hm
  have lt1 : ∀ x ∈ p1, x.block < W.heap.size := by obtain ⟨m, hm⟩ := h1; exact DataW.trod_lt m _ _ _ hm
  have lt2 : ∀ x ∈ p2, x.block < W.heap.size := by obtain ⟨m, hm⟩ := h2; exact DataW.trod_lt m _ _ _ hm
  clear hA0 hval0
  refine (opened W v0 v1 v2 (hval 0 23 v0 rfl rfl) (hval 1 41 v1 rfl rfl) (hval 2 24 v2 rfl rfl) h0 h1 h2).mono fun e W' ⟨he, bel⟩ => ?_
  subst he
  exact ⟨_, rfl, _, _, _, [], _, [], hW', trodAll_mk1 (shut_bool Try.underlying4 _), (trodAll_cons_mk (Below.trod laidOut (by kernel_rfl) (of_decide_eq_true (by kernel_rfl)) h0 bel lt0) (trodAll_cons_mk (Below.trod laidOut (by kernel_rfl) (of_decide_eq_true (by kernel_rfl)) h1 bel lt1) (trodAll_cons_mk (Below.trod laidOut (by kernel_rfl) (of_decide_eq_true (by kernel_rfl)) h2 bel lt2) trodAll_mk0))), rfl, bel.frame _, fun h => by cases h⟩
theorem probeEvery_holds : Rows.ProbeEverySaid :=
  OpenClaim.holds_of_wide 6 Try.f6 rfl rfl rfl rfl rfl rfl rfl ⟨rfl, rfl, rfl, rfl, rfl⟩ rfl rfl rfl rfl rfl (by kernel_rfl) Try.func6 (by kernel_rfl)
    (of_decide_eq_true (by kernel_rfl)) (by unfold Func.isWrapper; first | (rw [if_pos (by decide +kernel)]; kernel_rfl) | (rw [if_neg (by decide +kernel)]; exact ⟨rfl, rfl⟩))
    (fun os started H enc _ => probeEvery_holds_lifted os started H enc)
#print axioms probeEvery_holds
end Go.Proofs.Ytbmgigbcilgieaa
