/- The law BreakerOpens returns true for every configuration and time. No condition. -/
import Derived.Test.YtaocnakbhicgiaaRows
import Derived.WalkKit
import Derived.ProofKit
import Derived.OpenShut
import Derived.ShutString
import Derived.ChangeOld
import Derived.Below
import Derived.Test.YtaocnakbhicgiaaB2
import Derived.Test.YtaocnakbhicgiaaO
namespace Go.Proofs.Ytaocnakbhicgiaa
open Go.RowKit Go.ChangeShapes Go.WideShapes Go.ChangeAt Go.Deep Go.Joins
set_option maxRecDepth 100000
theorem own : ownKnob Try.prog.godebug = none := by kernel_rfl
theorem laidOut : laidOutB Try.prog = true := by kernel_rfl
theorem until_ok {cd now : Int} (h0 : 0 ≤ now) (h1 : now ≤ 253402300799) (h2 : 1 ≤ cd) (h3 : cd ≤ 253402300799) :
    (opU cd now != if IntKind.i64.wrap (now + if IntKind.i64.wrap (253402300799 - now) < cd then IntKind.i64.wrap (253402300799 - now) else cd) < 253402300799 then IntKind.i64.wrap (now + if IntKind.i64.wrap (253402300799 - now) < cd then IntKind.i64.wrap (253402300799 - now) else cd) else 253402300799) = false := by
  have hu := opU_bd h0 h1 h2 h3
  rw [w64 (n := 253402300799 - now) (by omega)]
  by_cases h : 253402300799 - now < cd
  · rw [if_pos h, w64 (n := now + (253402300799 - now)) (by omega), if_neg (by omega)]
    simp [hu.2.2.2.2 (by omega)]
  · rw [if_neg h, w64 (n := now + cd) (by omega)]
    by_cases h4 : now + cd < 253402300799
    · rw [if_pos h4]; simp [hu.2.2.2.1 (by omega)]
    · rw [if_neg h4]; simp [hu.2.2.2.2 (by omega)]
theorem opens_any (cf cd ct cg now : Int) (w : World) : Calls Try.prog 3 #[.agg #[.int .i64 cf, .int .i64 cd, .int .i64 ct, .int .i64 cg], .int .i64 now] w (fun e w1 => e = .returned (.bool true) ∧ Below w.heap.size w w1) := by
  have mk : ∀ (ω : Orc) (ps : List Prop), resVO (aFuncO Try.prog callB ω 0 100 3 [.agg #[.int .i64 cf, .int .i64 cd, .int .i64 ct, .int .i64 cg], .int .i64 now] [] 0) = some (.bool true, ps) → Ob ps → Calls Try.prog 3 #[.agg #[.int .i64 cf, .int .i64 cd, .int .i64 ct, .int .i64 cg], .int .i64 now] w (fun e w1 => e = .returned (.bool true) ∧ Below w.heap.size w w1) :=
    fun ω ps h hp => calls_orc (av := [.agg #[.int .i64 cf, .int .i64 cd, .int .i64 ct, .int .i64 cg], .int .i64 now]) callB_spec mixed h hp (by kernel_rfl) rfl w
  rcases (check_or cf cd ct cg).symm with hc | hc
  · exact mk [(384, .soft (.bool true))] [(check_0 cf cd ct cg != 0) = true] (by kernel_rfl) (ob_cons (by rw [hc]; rfl) ob_nil)
  have hz := check_zero hc
  have c0 : (check_0 cf cd ct cg != 0) = false := by rw [hc]; rfl
  by_cases h1 : 60 < cf
  · exact mk [(384, .soft (.bool false)), (640, .soft (.bool true))] [(check_0 cf cd ct cg != 0) = false, decide (cf > 60) = true] (by kernel_rfl) (ob_cons c0 (ob_cons (by simpa using h1) ob_nil))
  have c1 : decide (cf > 60) = false := by simpa using h1
  by_cases h2 : 60 < ct
  · exact mk [(384, .soft (.bool false)), (640, .soft (.bool false)), (960, .soft (.bool true))] [(check_0 cf cd ct cg != 0) = false, decide (cf > 60) = false, decide (ct > 60) = true] (by kernel_rfl) (ob_cons c0 (ob_cons c1 (ob_cons (by simpa using h2) ob_nil)))
  have c2 : decide (ct > 60) = false := by simpa using h2
  by_cases h3 : now < 0
  · exact mk [(384, .soft (.bool false)), (640, .soft (.bool false)), (960, .soft (.bool false)), (1216, .soft (.bool true))] [(check_0 cf cd ct cg != 0) = false, decide (cf > 60) = false, decide (ct > 60) = false, decide (now < 0) = true] (by kernel_rfl) (ob_cons c0 (ob_cons c1 (ob_cons c2 (ob_cons (by simpa using h3) ob_nil))))
  have c3 : decide (now < 0) = false := by simpa using h3
  by_cases h4 : 253402300799 < now
  · exact mk [(384, .soft (.bool false)), (640, .soft (.bool false)), (960, .soft (.bool false)), (1216, .soft (.bool false)), (1472, .soft (.bool true))] [(check_0 cf cd ct cg != 0) = false, decide (cf > 60) = false, decide (ct > 60) = false, decide (now < 0) = false, decide (now > 253402300799) = true] (by kernel_rfl) (ob_cons c0 (ob_cons c1 (ob_cons c2 (ob_cons c3 (ob_cons (by simpa using h4) ob_nil)))))
  have c4 : decide (now > 253402300799) = false := by simpa using h4
  have n0 : 0 ≤ now := by omega
  have n1 : now ≤ 253402300799 := by omega
  have hu := opU_bd n0 n1 hz.2.2.2.2.1 hz.2.2.2.2.2
  have L1 := loop1 hc n0 n1
  have L2 := loop2 (now := now) (u := opU cd now) hc hu.2.1
  have c5 := until_ok n0 n1 hz.2.2.2.2.1 hz.2.2.2.2.2
  have c8 : allows_0 cf cd ct cg 2 0 (opU cd now) 0 0 1 (opU cd now) = true := by rw [allows_open hc (by omega) (by omega)]; simp
  by_cases h5 : now < opU cd now
  · have c6 : decide (now < opU cd now) = true := by simpa using h5
    have wu : IntKind.i64.wrap (opU cd now - 1) = opU cd now - 1 := w64 (by omega)
    have c7 : allows_0 cf cd ct cg 2 0 (opU cd now) 0 0 1 (IntKind.i64.wrap (opU cd now - 1)) = false := by
      rw [wu, allows_open hc (by omega) (by omega)]; exact decide_eq_false (by omega)
    exact mk [(384, .soft (.bool false)), (640, .soft (.bool false)), (960, .soft (.bool false)), (1216, .soft (.bool false)), (1472, .soft (.bool false)), (1857, .loop [1, 2, 4, 5, 6] (.exit 0) (o1F now cf) [oC cf cd ct cg, oB 2 0 (opU cd now) 0 0 1] 2112), (3008, .soft (.bool false)), (3392, .soft (.bool true)), (3840, .soft (.bool false)), (4352, .soft (.bool true)), (4673, .loop [1, 2, 4, 5, 8] (.exit 2) (o2F now cg) [oC cf cd ct cg, oB 1 0 0 0 0 3] 4928)]
      [(check_0 cf cd ct cg != 0) = false, decide (cf > 60) = false, decide (ct > 60) = false, decide (now < 0) = false, decide (now > 253402300799) = false,
       LoopOK Try.prog (loopN Try.prog 3 0) (o1F now 0) [oC cf cd ct cg, oB 1 0 0 0 0 0] 1856 ⟨.exit 0, o1F now cf, [oC cf cd ct cg, oB 2 0 (opU cd now) 0 0 1], 2112, []⟩,
       (opU cd now != if IntKind.i64.wrap (now + if IntKind.i64.wrap (253402300799 - now) < cd then IntKind.i64.wrap (253402300799 - now) else cd) < 253402300799 then IntKind.i64.wrap (now + if IntKind.i64.wrap (253402300799 - now) < cd then IntKind.i64.wrap (253402300799 - now) else cd) else 253402300799) = false,
       decide (now < opU cd now) = true, allows_0 cf cd ct cg 2 0 (opU cd now) 0 0 1 (IntKind.i64.wrap (opU cd now - 1)) = false, allows_0 cf cd ct cg 2 0 (opU cd now) 0 0 1 (opU cd now) = true,
       LoopOK Try.prog (loopN Try.prog 3 1) (o2F now 0) [oC cf cd ct cg, oB 2 0 (opU cd now) 0 0 1] 4672 ⟨.exit 2, o2F now cg, [oC cf cd ct cg, oB 1 0 0 0 0 3], 4928, []⟩]
      (by kernel_rfl) (ob_cons c0 (ob_cons c1 (ob_cons c2 (ob_cons c3 (ob_cons c4 (ob_cons L1 (ob_cons c5 (ob_cons c6 (ob_cons c7 (ob_cons c8 (ob_cons L2 ob_nil)))))))))))
  · have c6 : decide (now < opU cd now) = false := by simpa using h5
    exact mk [(384, .soft (.bool false)), (640, .soft (.bool false)), (960, .soft (.bool false)), (1216, .soft (.bool false)), (1472, .soft (.bool false)), (1857, .loop [1, 2, 4, 5, 6] (.exit 0) (o1F now cf) [oC cf cd ct cg, oB 2 0 (opU cd now) 0 0 1] 2112), (3008, .soft (.bool false)), (3392, .soft (.bool false)), (4352, .soft (.bool true)), (4673, .loop [1, 2, 4, 5, 8] (.exit 2) (o2F now cg) [oC cf cd ct cg, oB 1 0 0 0 0 3] 4928)]
      [(check_0 cf cd ct cg != 0) = false, decide (cf > 60) = false, decide (ct > 60) = false, decide (now < 0) = false, decide (now > 253402300799) = false,
       LoopOK Try.prog (loopN Try.prog 3 0) (o1F now 0) [oC cf cd ct cg, oB 1 0 0 0 0 0] 1856 ⟨.exit 0, o1F now cf, [oC cf cd ct cg, oB 2 0 (opU cd now) 0 0 1], 2112, []⟩,
       (opU cd now != if IntKind.i64.wrap (now + if IntKind.i64.wrap (253402300799 - now) < cd then IntKind.i64.wrap (253402300799 - now) else cd) < 253402300799 then IntKind.i64.wrap (now + if IntKind.i64.wrap (253402300799 - now) < cd then IntKind.i64.wrap (253402300799 - now) else cd) else 253402300799) = false,
       decide (now < opU cd now) = false, allows_0 cf cd ct cg 2 0 (opU cd now) 0 0 1 (opU cd now) = true,
       LoopOK Try.prog (loopN Try.prog 3 1) (o2F now 0) [oC cf cd ct cg, oB 2 0 (opU cd now) 0 0 1] 4672 ⟨.exit 2, o2F now cg, [oC cf cd ct cg, oB 1 0 0 0 0 3], 4928, []⟩]
      (by kernel_rfl) (ob_cons c0 (ob_cons c1 (ob_cons c2 (ob_cons c3 (ob_cons c4 (ob_cons L1 (ob_cons c5 (ob_cons c6 (ob_cons c8 (ob_cons L2 ob_nil))))))))))
/-- A configuration that came in. -/
theorem conf_of_trod {H : Type} {enc : TypeId × Value → H} {w : World} {v : Value} {d : DataW H} {p : List MemPlace} {r : Reach} {b0 : Nat} (hv : Value.okWide Try.prog w r b0 23 v) (h : DataW.Trod enc Try.prog w 0 (fun _ => true) true 23 v d p) :
    ∃ cf cd ct cg : Int, v = .agg #[.int .i64 cf, .int .i64 cd, .int .i64 ct, .int .i64 cg] := by
  obtain ⟨c0, c1, c2, c3, y0, y1, y2, y3, n', rfl, _, _, t0, t1, t2, t3⟩ := open_agg4 Try.underlying23 (by kernel_rfl) (by kernel_rfl) hv h
  obtain ⟨a, e0, _, _⟩ := DataW.trod_int Try.underlying3 t0
  obtain ⟨b, e1, _, _⟩ := DataW.trod_int Try.underlying2 t1
  obtain ⟨r, e2, _, _⟩ := DataW.trod_int Try.underlying3 t2
  obtain ⟨f, e3, _, _⟩ := DataW.trod_int Try.underlying3 t3
  simp at e0 e1 e2 e3
  subst e0 e1 e2 e3
  exact ⟨a, b, r, f, rfl⟩
theorem opened (W : World) {H : Type} {enc : TypeId × Value → H} {r : Reach} {base : Nat} {d0 d1 : DataW H} {p0 p1 : List MemPlace} (v0 v1 : Value) (o0 : Value.okWide Try.prog W r base 23 v0) (o1 : Value.okWide Try.prog W r base 2 v1)
    (h0 : DataW.Trod enc Try.prog W 0 (fun _ => true) true 23 v0 d0 p0) (h1 : DataW.Trod enc Try.prog W 0 (fun _ => true) true 2 v1 d1 p1) : Calls Try.prog 3 #[v0, v1] W fun e W' => e = .returned (.bool true) ∧ Below W.heap.size W W' := by
  obtain ⟨cf, cd, ct, cg, rfl⟩ := conf_of_trod o0 h0
  obtain ⟨now, rfl⟩ := okWide_int Try.underlying2 o1
  exact opens_any cf cd ct cg now W
theorem breakerOpens_holds_lifted (os : Os) (started : os.Started) (H : Type) (enc : TypeId × Value → H) :
    ReturnsInHanded {} Try.checked os 3 .any (Rows.breakerOpensSpec.pre6 enc Try.prog Try.f3 Rows.breakerOpensRow.domain false) (Rows.breakerOpensSpec.post enc Try.prog Try.f3 false true false false) := by
  refine returnsInHanded_of_change (C := Try.checked) own started (by kernel_rfl) Try.func3
    (ChangeSpec.witness6 (enc := enc) (C := Try.checked) false ⟨#[], #[.agg #[.int .i64 0, .int .i64 0, .int .i64 0, .int .i64 0], .int .i64 0], []⟩ 8 (by kernel_rfl) (by kernel_rfl) (by kernel_rfl) (by kernel_rfl)) ?_
  intro W base args ds gs before hval0 hW hcnd _
  have hval : ∀ (j : Nat) t v, Try.f3.params[j]? = some t → args[j]? = some v → Value.okWide Try.prog W .any base t v := hval0
  have hW' := hW
  obtain ⟨p, q, hA0, hV, rfl, hfz, hnd⟩ := hW
  have hA : DataW.TrodAll enc Try.prog W 0 (fun _ => true) true Try.f3.params.toList args.toList ds p := hA0
  rw [Try.params3] at hA hval
  obtain ⟨v0, vs0, d0, ds0, p0, q0, hargs, rfl, rfl, h0, r0⟩ := trodAll_cons hA
  obtain ⟨v1, vs1, d1, ds1, p1, q1, rfl, rfl, rfl, h1, r1⟩ := trodAll_cons r0
  obtain ⟨rfl, rfl, rfl⟩ := trodAll_nil r1
  obtain rfl : args = #[v0, v1] := by cases args; simp_all
  obtain ⟨rfl, rfl⟩ := trodVars_none hV
  have lt0 : ∀ x ∈ p0, x.block < W.heap.size := by obtain ⟨m, hm⟩ := h0; exact DataW.trod_lt m _ _ _ hm
  have lt1 : ∀ x ∈ p1, x.block < W.heap.size := by obtain ⟨m, hm⟩ := h1; exact DataW.trod_lt m _ _ _ hm
  clear hA0 hval0
  refine (opened W v0 v1 (hval 0 23 v0 rfl rfl) (hval 1 2 v1 rfl rfl) h0 h1).mono fun e W' ⟨he, bel⟩ => ?_
  subst he
  exact ⟨_, rfl, _, _, _, [], _, [], hW', trodAll_mk1 (shut_bool Try.underlying4 _), (trodAll_cons_mk (Below.trod laidOut (by kernel_rfl) (of_decide_eq_true (by kernel_rfl)) h0 bel lt0) (trodAll_cons_mk (Below.trod laidOut (by kernel_rfl) (of_decide_eq_true (by kernel_rfl)) h1 bel lt1) trodAll_mk0)), rfl, bel.frame _, fun h => by cases h⟩
theorem breakerOpens_holds : Rows.BreakerOpensSaid :=
  OpenClaim.holds_of_wide 3 Try.f3 rfl rfl rfl rfl rfl rfl rfl ⟨rfl, rfl, rfl, rfl, rfl⟩ rfl rfl rfl rfl rfl (by kernel_rfl) Try.func3 (by kernel_rfl)
    (of_decide_eq_true (by kernel_rfl)) (by unfold Func.isWrapper; first | (rw [if_pos (by decide +kernel)]; kernel_rfl) | (rw [if_neg (by decide +kernel)]; exact ⟨rfl, rfl⟩))
    (fun os started H enc _ => breakerOpens_holds_lifted os started H enc)
#print axioms breakerOpens_holds
end Go.Proofs.Ytaocnakbhicgiaa
