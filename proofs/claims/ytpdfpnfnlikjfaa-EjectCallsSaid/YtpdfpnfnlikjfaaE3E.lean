/- EjectCalls: the law, shape E; printed by a program of mine. -/
import Derived.Test.YtpdfpnfnlikjfaaE2
import Derived.KernelRfl
namespace Go.Proofs.Ytpdfpnfnlikjfaa
open Go.RowKit
set_option linter.unusedSectionVars false
set_option linter.unusedSimpArgs false
set_option linter.unusedVariables false
set_option maxRecDepth 100000
variable [Inhabited RawG]
def avE (cf cb cm cp e : Int) (i now times : Int) (well : Bool) : List Value := [.agg #[.int .i64 cf, .int .i64 cb, .int .i64 cm, .int .i64 cp], .slice (some ⟨0, 0, some 2⟩) 0 0, .int .i64 i, .bool well, .int .i64 now, .int .i64 times]
def H1E (cf cb cm cp e : Int) (i now times : Int) (well : Bool) : Heap := [(0, ⟨24, [Value.int IntKind.i64 cf, Value.int IntKind.i64 cb, Value.int IntKind.i64 cm, Value.int IntKind.i64 cp], 0⟩), (64, ⟨28, [Value.slice (some { block := 0, off := 0, spot := some 2 }) 0 0], 0⟩), (128, ⟨2, [Value.int IntKind.i64 now], 0⟩), (192, ⟨4, [Value.bool false], 0⟩), (576, ⟨27, [], 0⟩), (2240, ⟨3, [Value.int IntKind.i64 0], 0⟩), (2497, ⟨2, [Value.int IntKind.i64 now], 0⟩), (2496, ⟨28, [Value.slice (some { block := 0, off := 0, spot := some 2 }) 0 0], 0⟩)]
def HRE (cf cb cm cp e : Int) (i now times : Int) (well : Bool) : Heap := [(0, ⟨24, [Value.int IntKind.i64 cf, Value.int IntKind.i64 cb, Value.int IntKind.i64 cm, Value.int IntKind.i64 cp], 0⟩), (576, ⟨27, [], 0⟩)]
def F1E (cf cb cm cp e : Int) (i now times : Int) (well : Bool) : List Value := mkF [(2, Value.int IntKind.i64 i), (5, Value.int IntKind.i64 times), (6, Value.pointer (some { block := 0, off := 0 })), (7, Value.pointer (some { block := 64, off := 0 })), (10, Value.pointer (some { block := 128, off := 0 })), (12, Value.pointer (some { block := 192, off := 0 })), (13, Value.slice (some { block := 576, off := 0 }) 0 0), (14, Value.slice none 0 0), (15, Value.int IntKind.i64 e), (16, Value.slice none 0 0), (17, Value.int IntKind.i64 e), (18, Value.pointer (some { block := 2240, off := 0 })), (52, Value.func (Fn.func 27) #[] #[Value.pointer (some { block := 2496, off := 0 }), Value.pointer (some { block := 2497, off := 0 })])] 146 0
def FPE (cf cb cm cp e : Int) (i now times : Int) (well : Bool) : List Value := mkF [(2, Value.int IntKind.i64 i), (5, Value.int IntKind.i64 times), (6, Value.pointer (some { block := 0, off := 0 })), (7, Value.pointer (some { block := 64, off := 0 })), (10, Value.pointer (some { block := 128, off := 0 })), (12, Value.pointer (some { block := 192, off := 0 })), (13, Value.slice (some { block := 576, off := 0 }) 0 0), (14, Value.slice none 0 0), (15, Value.int IntKind.i64 e), (16, Value.slice none 0 0), (17, Value.int IntKind.i64 e), (18, Value.pointer (some { block := 2240, off := 0 }))] 146 0
theorem run1E {cf cb cm cp e : Int} {i now times : Int} {well : Bool} : stopV [2, 5, 6, 7, 10, 12, 13, 14, 15, 16, 17, 18, 52] (aChain Try.prog callL [(1152, OV.call (Value.tuple #[Value.slice none 0 0, Value.int IntKind.i64 e]) []), (1856, OV.call (Value.tuple #[Value.slice none 0 0, Value.int IntKind.i64 e]) [])] 100 200 (heads 9 c4 ++ [q4.r]) (avE cf cb cm cp e i now times well ++ List.replicate (146 - (avE cf cb cm cp e i now times well).length) undef) [] 0) = some (.normal, F1E cf cb cm cp e i now times well, H1E cf cb cm cp e i now times well, 2816, [CallOK Try.prog 10 [Value.agg #[Value.int IntKind.i64 cf, Value.int IntKind.i64 cb, Value.int IntKind.i64 cm, Value.int IntKind.i64 cp], Value.slice (some { block := 0, off := 0, spot := some 2 }) 0 0, Value.int IntKind.i64 i, Value.bool well, Value.int IntKind.i64 now] [] 0 (Value.tuple #[Value.slice none 0 0, Value.int IntKind.i64 e]) [], CallOK Try.prog 17 [Value.agg #[Value.int IntKind.i64 cf, Value.int IntKind.i64 cb, Value.int IntKind.i64 cm, Value.int IntKind.i64 cp], Value.slice (some { block := 0, off := 0, spot := some 2 }) 0 0, Value.int IntKind.i64 i, Value.bool well, Value.int IntKind.i64 now] [] 0 (Value.tuple #[Value.slice none 0 0, Value.int IntKind.i64 e]) []]) := by kernel_rfl
theorem ob1E {cf cb cm cp e : Int} {i now times : Int} {well : Bool} (hA : CE ([] : List EjT)) (h10 : CallOK Try.prog 10 [.agg #[.int .i64 cf, .int .i64 cb, .int .i64 cm, .int .i64 cp], .slice (some ⟨0, 0, some 2⟩) 0 0, .int .i64 i, .bool well, .int .i64 now] [] 0 (.tuple #[.slice none 0 0, .int .i64 e]) []) (h17 : CallOK Try.prog 17 [.agg #[.int .i64 cf, .int .i64 cb, .int .i64 cm, .int .i64 cp], .slice (some ⟨0, 0, some 2⟩) 0 0, .int .i64 i, .bool well, .int .i64 now] [] 0 (.tuple #[.slice none 0 0, .int .i64 e]) []) : Ob [CallOK Try.prog 10 [Value.agg #[Value.int IntKind.i64 cf, Value.int IntKind.i64 cb, Value.int IntKind.i64 cm, Value.int IntKind.i64 cp], Value.slice (some { block := 0, off := 0, spot := some 2 }) 0 0, Value.int IntKind.i64 i, Value.bool well, Value.int IntKind.i64 now] [] 0 (Value.tuple #[Value.slice none 0 0, Value.int IntKind.i64 e]) [], CallOK Try.prog 17 [Value.agg #[Value.int IntKind.i64 cf, Value.int IntKind.i64 cb, Value.int IntKind.i64 cm, Value.int IntKind.i64 cp], Value.slice (some { block := 0, off := 0, spot := some 2 }) 0 0, Value.int IntKind.i64 i, Value.bool well, Value.int IntKind.i64 now] [] 0 (Value.tuple #[Value.slice none 0 0, Value.int IntKind.i64 e]) []] := (ob_cons h10 (ob_cons h17 ob_nil))
theorem run2E {cf cb cm cp e : Int} {i now times : Int} {well : Bool} : retV Try.prog Try.f4.results.toList (aCode Try.prog callL [(4360, OV.soft (Value.bool true)), (5128, OV.soft (Value.bool true)), (5384, OV.call (Value.bool (outB [] i now)) []), (5640, OV.call (Value.bool (outB [] i now)) []), (5832, OV.soft (Value.bool true)), (6024, OV.call (Value.int IntKind.i64 0) [])] 100 200 q4.post (F1E cf cb cm cp e i now times well) (HkN ([] : List EjT) now 0 ++ HRE cf cb cm cp e i now times well) 2824) = some (.ret, Value.bool (until_0 cf cb cm cp times now == runtil_0 cf cb cm cp times now), [(e == e) = true, (check_0 cf cb cm cp == rcheck_0 cf cb cm cp) = true, CallOK Try.prog 14 [Value.slice (some { block := 0, off := 0, spot := some 2 }) 0 0, Value.int IntKind.i64 i, Value.int IntKind.i64 now] [] 0 (Value.bool (outB [] i now)) [], CallOK Try.prog 18 [Value.slice (some { block := 0, off := 0, spot := some 2 }) 0 0, Value.int IntKind.i64 i, Value.int IntKind.i64 now] [] 0 (Value.bool (outB [] i now)) [], (outB [] i now == outB [] i now) = true, CallOK Try.prog 13 [Value.slice (some { block := 0, off := 0, spot := some 2 }) 0 0, Value.int IntKind.i64 now] [] 0 (Value.int IntKind.i64 0) []]) := by kernel_rfl
theorem ob2E {cf cb cm cp e : Int} {i now times : Int} {well : Bool} (hA : CE ([] : List EjT))  : Ob [(e == e) = true, (check_0 cf cb cm cp == rcheck_0 cf cb cm cp) = true, CallOK Try.prog 14 [Value.slice (some { block := 0, off := 0, spot := some 2 }) 0 0, Value.int IntKind.i64 i, Value.int IntKind.i64 now] [] 0 (Value.bool (outB [] i now)) [], CallOK Try.prog 18 [Value.slice (some { block := 0, off := 0, spot := some 2 }) 0 0, Value.int IntKind.i64 i, Value.int IntKind.i64 now] [] 0 (Value.bool (outB [] i now)) [], (outB [] i now == outB [] i now) = true, CallOK Try.prog 13 [Value.slice (some { block := 0, off := 0, spot := some 2 }) 0 0, Value.int IntKind.i64 now] [] 0 (Value.int IntKind.i64 0) []] := (ob_cons (by simp) (ob_cons (by rw [rcheck_eq]; simp) (ob_cons (out_o (es := ([] : List EjT)) hA) (ob_cons (rout_o (es := ([] : List EjT)) hA) (ob_cons (by simp) (ob_cons (count_o (es := ([] : List EjT)) hA (by decide)) ob_nil))))))
theorem restE {cf cb cm cp e : Int} {i now times : Int} {well : Bool} : ∀ b k', hget (HRE cf cb cm cp e i now times well) b = some k' → hget (H1E cf cb cm cp e i now times well) b = some k' ∧ hget (HkN ([] : List EjT) now (kvOf [])) b = none := by
  intro b k' h
  unfold HRE at h
  simp only [hget] at h
  repeat' split at h
  all_goals first | (cases h; done) | skip
  all_goals (rename_i he; have hb := beq_iff_eq.1 he; subst hb; cases h; exact ⟨by kernel_rfl, by kernel_rfl⟩)
theorem subE {cf cb cm cp e : Int} {i now times : Int} {well : Bool} : ∀ b k', hget (HkN ([] : List EjT) now (kvOf [])) b = some k' → hget (H1E cf cb cm cp e i now times well) b = some k' ∧ b ≠ 2496 ∧ b ≠ 2497 ∧ k'.mode ≠ 2 := by
  intro b k' h
  unfold HkN at h
  simp only [hget] at h
  repeat' split at h
  all_goals first | (cases h; done) | skip
  all_goals (rename_i he; have hb := beq_iff_eq.1 he; subst hb; cases h; exact ⟨by kernel_rfl, by decide, by decide, by show (0 : Nat) ≠ 2; decide⟩)
theorem frB_eqE {cf cb cm cp e : Int} {i now times : Int} {well : Bool} (x : Nat) : forgetF [7, 10, 12, 18, 20, 53] (setF (setF (F1E cf cb cm cp e i now times well) (some 53) (.int .i64 (x : Int))) (some 20) (.int .i64 (x : Int))) 0 = frB x := by kernel_rfl
theorem callsE {cf cb cm cp e : Int} {i now times : Int} {well : Bool} (hA : CE ([] : List EjT)) (h10 : CallOK Try.prog 10 [.agg #[.int .i64 cf, .int .i64 cb, .int .i64 cm, .int .i64 cp], .slice (some ⟨0, 0, some 2⟩) 0 0, .int .i64 i, .bool well, .int .i64 now] [] 0 (.tuple #[.slice none 0 0, .int .i64 e]) []) (h17 : CallOK Try.prog 17 [.agg #[.int .i64 cf, .int .i64 cb, .int .i64 cm, .int .i64 cp], .slice (some ⟨0, 0, some 2⟩) 0 0, .int .i64 i, .bool well, .int .i64 now] [] 0 (.tuple #[.slice none 0 0, .int .i64 e]) []) {W : World} {args : Array Value} (hsz : args.size = 6) (hav : ∀ j, VR (fun _ => False) (fun _ => default) ((avE cf cb cm cp e i now times well).getD j undef) (args.getD j undef)) (hr : ∀ j, RawAt W j) : Calls Try.prog 4 args W fun e W' => e = .returned (.bool true) ∧ Below W.heap.size W W' := by
  refine callsIn_wide.1 (callsIn_of_wp_marks (n := 3) Try.func4 body4 trivial (wpIn_wide.2 ?_) rfl)
  rw [← chain_heads 9 c4, rf_code q4_is]
  refine wp_of_chain _ ?_
  obtain ⟨o1, ho1, hs1⟩ : ∃ o1, aChain Try.prog callL [(1152, OV.call (Value.tuple #[Value.slice none 0 0, Value.int IntKind.i64 e]) []), (1856, OV.call (Value.tuple #[Value.slice none 0 0, Value.int IntKind.i64 e]) [])] 100 200 (heads 9 c4 ++ [q4.r]) (avE cf cb cm cp e i now times well ++ List.replicate (146 - (avE cf cb cm cp e i now times well).length) undef) [] 0 = some o1 ∧ (o1.ax, forgetF [2, 5, 6, 7, 10, 12, 13, 14, 15, 16, 17, 18, 52] o1.fr 0, o1.hp, o1.nx, o1.ob) = (.normal, F1E cf cb cm cp e i now times well, H1E cf cb cm cp e i now times well, 2816, [CallOK Try.prog 10 [Value.agg #[Value.int IntKind.i64 cf, Value.int IntKind.i64 cb, Value.int IntKind.i64 cm, Value.int IntKind.i64 cp], Value.slice (some { block := 0, off := 0, spot := some 2 }) 0 0, Value.int IntKind.i64 i, Value.bool well, Value.int IntKind.i64 now] [] 0 (Value.tuple #[Value.slice none 0 0, Value.int IntKind.i64 e]) [], CallOK Try.prog 17 [Value.agg #[Value.int IntKind.i64 cf, Value.int IntKind.i64 cb, Value.int IntKind.i64 cm, Value.int IntKind.i64 cp], Value.slice (some { block := 0, off := 0, spot := some 2 }) 0 0, Value.int IntKind.i64 i, Value.bool well, Value.int IntKind.i64 now] [] 0 (Value.tuple #[Value.slice none 0 0, Value.int IntKind.i64 e]) []]) := by
    have h := run1E (cf := cf) (cb := cb) (cm := cm) (cp := cp) (e := e) (i := i) (now := now) (times := times) (well := well)
    unfold stopV at h
    split at h
    · rename_i o ho; exact ⟨o, ho, by simpa using h⟩
    · cases h
  simp only [Prod.mk.injEq] at hs1
  obtain ⟨_, s2, s3, s4, s5⟩ := hs1
  have hw0 : WR (szP Try.prog) (fun _ => False) (fun _ => default) (hget []) W := wr_raw hr
  have key := chain_run (ds := []) (K := fun a w => ∃ (D1 : Nat → Prop) (ρ1 : Nat → Pl), T (szP Try.prog) (fun _ => False) (fun _ => default) (hget []) W D1 ρ1 (hget (H1E cf cb cm cp e i now times well)) w ∧ FR [] D1 ρ1 (F1E cf cb cm cp e i now times well) a ∧ ∀ b, D1 b → b < 2816) callL_spec mixed
    _ _ _ _ o1 (fun _ => False) (fun _ => default) { tmps := args ++ Array.replicate (146 - args.size) undef, defers := [] } W ho1 (by rw [s5]; exact ob1E (times := times) hA h10 h17) (fun b hb => hb.elim) (fr_av hsz hav) hw0
    (fun a w ⟨_, D1, ρ1, t1, f1, b1, _⟩ => ⟨D1, ρ1, s3 ▸ t1, s2 ▸ f1.forget, fun b hb => s4 ▸ b1 b hb⟩)
  rw [wpChain_app] at key
  refine wpChain_mono ?_ _ key
  intro a0 w0 h0
  refine wp_seq (wp_seq (wp_mono h0 ?_))
  rintro e0 a w ⟨rfl, D1, ρ1, t1, f1, b1⟩
  refine wp_block ?_
  have hw1 := t1.wr
  have hsub := subE (cf := cf) (cb := cb) (cm := cm) (cp := cp) (e := e) (i := i) (now := now) (times := times) (well := well)
  have hrest1 := restE (cf := cf) (cb := cb) (cm := cm) (cp := cp) (e := e) (i := i) (now := now) (times := times) (well := well)
  obtain ⟨lb, XX, hlb, hseq, hX⟩ := seq_ok (Hr := HkN ([] : List EjT) now (kvOf [])) (bl := 2496) (bt := 2497) (el1 := 28) (el2 := 2) (vl := .slice (some ⟨0, 0, some 2⟩) 0 0) (now := now) (es := ([] : List EjT)) hw1 (by kernel_rfl) (by kernel_rfl) (by decide)
    (fun c l hc => ⟨(hsub c l hc).1, (hsub c l hc).2.1, (hsub c l hc).2.2.1, (hsub c l hc).2.2.2⟩)
    (fun u hu => ⟨(ej_hold hA hw1 hu).1, fun k' hk' => ⟨((ej_hold hA hw1 hu).2 k' hk').1, ((ej_hold hA hw1 hu).2 k' hk').2 _ fun b q hb => (hsub b q hb).1⟩⟩)
  have hg : a.eval q4.g = .func (.func 27) #[] lb := by
    rw [parts4.1]
    exact hlb _ (f1.all 52 (by rfl))
  have hfr : ∀ x : Nat, FR [] D1 ρ1 (frB x) ((a.put (some 53) (.int .i64 (x : Int))).put (some 20) (.int .i64 (x : Int))) := fun x => by
    rw [← frB_eqE (cf := cf) (cb := cb) (cm := cm) (cp := cp) (e := e) (i := i) (now := now) (times := times) (well := well) x]
    exact ((f1.put (dst := some 53) (.scal _ rfl)).put (dst := some 20) (.scal _ rfl)).forget
  refine rf_wp callL_spec (LF := 100) (F := 200) (H := H1E cf cb cm cp e i now times well) b1 hw1 (show 2816 ≤ 2824 by decide) hg (enters_of Try.func27 (by kernel_rfl) rfl) hseq (by show q4.ps.size = 1; rw [parts4.2]; rfl) (JJ ([] : List EjT) now) (fun pre => HkN ([] : List EjT) now (kvOf pre)) (jj_nil _ _) (fun b k h => (hsub b k h).1) hX
    (fun x => (a.put (some 53) (.int .i64 (x : Int))).put (some 20) (.int .i64 (x : Int))) ?assign frB hfr ?round ?done
  case assign =>
    intro l x W1 K hK
    have hd := f1.defers
    have hlen : (F1E cf cb cm cp e i now times well).length = 146 := by kernel_rfl
    have h93 : 53 < a.tmps.size := by rw [f1.size, hlen]; decide
    show q4.a.wpIn (Fence.wide.inRound l) 1 Try.prog (Exit.then K fun _ _ _ => False) { tmps := (q4.ps.zip #[Value.int .i64 (x : Int)]).foldl (fun t (p, v) => t.setIfInBounds p v) a.tmps, defers := [] } W1
    rw [parts4.2]
    refine asg_wp (p := 53) (q := 20) (by kernel_rfl) ?_
    have e : ({ tmps := ((#[53] : Array Nat).zip #[Value.int .i64 (x : Int)]).foldl (fun t (p, v) => t.setIfInBounds p v) a.tmps, defers := [] } : Act) = a.put (some 53) (.int .i64 (x : Int)) := by
      obtain ⟨tm, de⟩ := a
      simp only at hd
      subst hd
      rw [zip_put]; rfl
    rw [e]
    have e2 : (a.put (some 53) (.int .i64 (x : Int))).tmps.getD 53 undef = .int .i64 (x : Int) := by
      simp [Act.put, Array.getD, h93]
    rw [e2]
    exact hK
  case round =>
    intro l pre x hj _
    exact rounds4 hA (by decide) l pre x hj
  case done =>
    intro d xs W2 D2 ρ2 hd hs hj t2 b2 _ hk
    have hrest := rest_out hj hs
    have hk0 : kvOf xs = 0 := Nat.le_zero.1 hj.1
    rw [hk0] at t2
    have t3 := T.back hw1 t2 (fun b k h => (hsub b k h).1) hrest1
    have f2 : FR [{ target := .collected d, args := #[] }] D2 ρ2 (F1E cf cb cm cp e i now times well) { a with defers := { target := .collected d, args := #[] } :: a.defers } := by
      have h := f1.mono t3.sub t3.same
      exact ⟨h.size, h.all, by rw [h.defers]⟩
    obtain ⟨o2, ho2, v2, hv2, hs2⟩ : ∃ o2, aCode Try.prog callL [(4360, OV.soft (Value.bool true)), (5128, OV.soft (Value.bool true)), (5384, OV.call (Value.bool (outB [] i now)) []), (5640, OV.call (Value.bool (outB [] i now)) []), (5832, OV.soft (Value.bool true)), (6024, OV.call (Value.int IntKind.i64 0) [])] 100 200 q4.post (F1E cf cb cm cp e i now times well) (HkN ([] : List EjT) now 0 ++ HRE cf cb cm cp e i now times well) 2824 = some o2 ∧ ∃ vs, resL Try.prog o2.fr o2.hp Try.f4.results.toList = some vs ∧ (o2.ax, resO vs, o2.ob) = (.ret, Value.bool (until_0 cf cb cm cp times now == runtil_0 cf cb cm cp times now), [(e == e) = true, (check_0 cf cb cm cp == rcheck_0 cf cb cm cp) = true, CallOK Try.prog 14 [Value.slice (some { block := 0, off := 0, spot := some 2 }) 0 0, Value.int IntKind.i64 i, Value.int IntKind.i64 now] [] 0 (Value.bool (outB [] i now)) [], CallOK Try.prog 18 [Value.slice (some { block := 0, off := 0, spot := some 2 }) 0 0, Value.int IntKind.i64 i, Value.int IntKind.i64 now] [] 0 (Value.bool (outB [] i now)) [], (outB [] i now == outB [] i now) = true, CallOK Try.prog 13 [Value.slice (some { block := 0, off := 0, spot := some 2 }) 0 0, Value.int IntKind.i64 now] [] 0 (Value.int IntKind.i64 0) []]) := by
      have h := run2E (cf := cf) (cb := cb) (cm := cm) (cp := cp) (e := e) (i := i) (now := now) (times := times) (well := well)
      unfold retV at h
      split at h
      · rename_i o ho
        split at h
        · rename_i vs hvs; exact ⟨o, ho, vs, hvs, by simpa using h⟩
        · cases h
      · cases h
    simp only [Prod.mk.injEq] at hs2
    obtain ⟨z1, z2, z3⟩ := hs2
    refine wp_mono (code_spec callL_spec mixed 200 q4.post _ _ _ _ ho2 (by rw [z3]; exact ob2E (times := times) (well := well) hA) D2 ρ2 _ W2 b2 f2 t3.wr) ?_
    rintro e3 a3 w3 ⟨rfl, _, D3, ρ3, t4, f4, _, _⟩
    rw [z1]
    have hk3 : w3.heap[d]? = some (.deferred (some [])) := by
      rw [t4.keep d (Array.getElem?_eq_some_iff.1 hk).1 ?_]
      · exact hk
      · intro hi
        obtain ⟨cs, el, fz, h4⟩ := img_cells t3.wr hi
        rw [hk] at h4
        cases h4
    have tt := (t1.trans t3).trans t4
    refine rf_end (H := []) f4 tt (by have := t1.size; omega) hk3 hv2 fun u W4 hu hT => ?_
    rw [z2, until_eq] at hu
    refine ⟨?_, below_of_t hT⟩
    rw [hu.flat0_eq rfl]
    simp
end Go.Proofs.Ytpdfpnfnlikjfaa
