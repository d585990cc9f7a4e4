/- EjectNames: the law; a range over a function in its own body. -/
import Derived.Test.YtpdfpnfnlikjfaaX25
import Derived.KernelRfl
namespace Go.Proofs.Ytpdfpnfnlikjfaa
open Go.RowKit
set_option linter.unusedSectionVars false
set_option linter.unusedSimpArgs false
set_option linter.unusedVariables false
set_option maxRecDepth 100000
noncomputable def callN : CallF := aCall Try.prog ΨK1 100 200 12
theorem callN_spec : CallSpec Try.prog callN := call_spec ΨK1_spec mixed 12
noncomputable def c3 : Code := bodyC Try.prog 3
noncomputable def q3 : RfP := rfParts (tl 14 c3)
theorem q3_is : rfIs (tl 14 c3) = true := by kernel_rfl
theorem body3 : Try.f3.body = some c3 := by kernel_rfl
def H1 : Heap := [(0, ⟨4, [Value.bool false], 0⟩), (256, ⟨24, [Value.int IntKind.i64 1, Value.int IntKind.i64 10, Value.int IntKind.i64 15, Value.int IntKind.i64 50], 0⟩), (512, ⟨27, [Value.int IntKind.i64 0, Value.int IntKind.i64 1, Value.int IntKind.i64 10, Value.int IntKind.i64 1, Value.int IntKind.i64 0, Value.int IntKind.i64 0], 0⟩), (2304, ⟨27, [Value.int IntKind.i64 0, Value.int IntKind.i64 1, Value.int IntKind.i64 10, Value.int IntKind.i64 1, Value.int IntKind.i64 0, Value.int IntKind.i64 0], 3⟩), (2816, ⟨27, [Value.int IntKind.i64 0, Value.int IntKind.i64 0, Value.int IntKind.i64 10, Value.int IntKind.i64 1, Value.int IntKind.i64 0, Value.int IntKind.i64 0], 3⟩), (3328, ⟨27, [Value.int IntKind.i64 1, Value.int IntKind.i64 1, Value.int IntKind.i64 10, Value.int IntKind.i64 1, Value.int IntKind.i64 0, Value.int IntKind.i64 0], 3⟩), (3840, ⟨27, [Value.int IntKind.i64 0, Value.int IntKind.i64 1, Value.int IntKind.i64 10, Value.int IntKind.i64 2, Value.int IntKind.i64 0, Value.int IntKind.i64 0], 3⟩), (4289, ⟨2, [Value.int IntKind.i64 5], 0⟩), (4288, ⟨28, [Value.slice (some { block := 512, off := 0 }) 2 2], 0⟩), (5824, ⟨35, [Value.slice none 0 0], 0⟩)]
def HR : Heap := [(0, ⟨4, [Value.bool false], 0⟩), (256, ⟨24, [Value.int IntKind.i64 1, Value.int IntKind.i64 10, Value.int IntKind.i64 15, Value.int IntKind.i64 50], 0⟩), (512, ⟨27, [Value.int IntKind.i64 0, Value.int IntKind.i64 1, Value.int IntKind.i64 10, Value.int IntKind.i64 1, Value.int IntKind.i64 0, Value.int IntKind.i64 0], 0⟩), (2304, ⟨27, [Value.int IntKind.i64 0, Value.int IntKind.i64 1, Value.int IntKind.i64 10, Value.int IntKind.i64 1, Value.int IntKind.i64 0, Value.int IntKind.i64 0], 3⟩), (2816, ⟨27, [Value.int IntKind.i64 0, Value.int IntKind.i64 0, Value.int IntKind.i64 10, Value.int IntKind.i64 1, Value.int IntKind.i64 0, Value.int IntKind.i64 0], 3⟩), (3328, ⟨27, [Value.int IntKind.i64 1, Value.int IntKind.i64 1, Value.int IntKind.i64 10, Value.int IntKind.i64 1, Value.int IntKind.i64 0, Value.int IntKind.i64 0], 3⟩), (3840, ⟨27, [Value.int IntKind.i64 0, Value.int IntKind.i64 1, Value.int IntKind.i64 10, Value.int IntKind.i64 2, Value.int IntKind.i64 0, Value.int IntKind.i64 0], 3⟩), (4289, ⟨2, [Value.int IntKind.i64 5], 0⟩), (4288, ⟨28, [Value.slice (some { block := 512, off := 0 }) 2 2], 0⟩)]
def F1 : List Value := mkF [(0, Value.pointer (some { block := 0, off := 0 })), (1, Value.pointer (some { block := 256, off := 0 })), (2, Value.slice (some { block := 512, off := 0 }) 2 2), (4, Value.int IntKind.i64 2), (6, Value.int IntKind.i64 2), (8, Value.int IntKind.i64 200), (9, Value.slice (some { block := 2304, off := 0 }) 2 2), (11, Value.slice (some { block := 2816, off := 0 }) 2 2), (13, Value.slice (some { block := 3328, off := 0 }) 2 2), (15, Value.slice (some { block := 3840, off := 0 }) 2 2), (18, Value.pointer (some { block := 5824, off := 0 })), (92, Value.func (Fn.func 27) #[] #[Value.pointer (some { block := 4288, off := 0 }), Value.pointer (some { block := 4289, off := 0 })])] 200 0
theorem run1 : stopV [0, 1, 2, 4, 6, 8, 9, 11, 13, 15, 18, 92] (aChain Try.prog callN [] 100 200 (heads 14 c3 ++ [q3.r]) (List.replicate 200 undef) [] 0) = some (.normal, F1, H1, 5952, []) := by kernel_rfl
/-- What rounds change. -/
def Hk : List Nat → Heap
  | [] => [(5824, ⟨35, [.slice none 0 0], 0⟩)]
  | l => [(5824, ⟨35, [.slice (some ⟨5952, 0, none⟩) l.length l.length], 0⟩), (5952, ⟨3, l.map fun x : Nat => Value.int .i64 (x : Int), 3⟩)]
def frB (x : Nat) : List Value := mkF [(18, .pointer (some ⟨5824, 0, none⟩)), (19, .int .i64 (x : Int)), (93, .int .i64 (x : Int))] 200 0
theorem round0 (l x : Nat) : RoundToI l 1 Try.prog callN 100 200 q3.b 5952 5960 .normal (frB x) (Hk []) (Hk [x]) :=
  roundToI_of [] [5824] [6344] (ps := []) (by kernel_rfl) ob_nil (by decide)
theorem round1 (l x y : Nat) : RoundToI l 1 Try.prog callN 100 200 q3.b 5952 5960 .normal (frB x) (Hk [y]) (Hk [y, x]) :=
  roundToI_of [] [5824] [6344] (ps := []) (by kernel_rfl) ob_nil (by decide)
theorem run2 : retV Try.prog Try.f3.results.toList (aCode Try.prog callN [] 100 200 q3.post F1 (Hk [1] ++ HR) 5960) = some (.ret, .bool true, []) := by kernel_rfl
theorem parts3 : q3.g = .tmp 92 ∧ q3.ps = #[93] := ⟨by kernel_rfl, by kernel_rfl⟩
theorem frB_eq (x : Nat) : forgetF [18, 19, 93] (setF (setF F1 (some 93) (.int .i64 (x : Int))) (some 19) (.int .i64 (x : Int))) 0 = frB x := by kernel_rfl
theorem sub1 : ∀ b k, hget (Hk []) b = some k → hget H1 b = some k ∧ b ≠ 4288 ∧ b ≠ 4289 ∧ b ≠ 512 ∧ k.mode ≠ 2 := by
  intro b k h
  simp only [Hk, hget] at h
  split at h
  · rename_i he
    have : 5824 = b := by simpa using he
    subst this
    cases h
    exact ⟨by kernel_rfl, by decide, by decide, by decide, by decide⟩
  · cases h
theorem rest1 : ∀ b k, hget HR b = some k → hget H1 b = some k ∧ hget (Hk []) b = none := by
  intro b k h
  unfold HR at h
  simp only [hget] at h
  repeat' split at h
  all_goals first | (cases h; done) | skip
  all_goals (rename_i he; have hb := beq_iff_eq.1 he; subst hb; cases h; exact ⟨by kernel_rfl, by kernel_rfl⟩)
theorem names_true (W : World) : Calls Try.prog 3 #[] W fun e W' => e = .returned (.bool true) ∧ Below W.heap.size W W' := by
  refine callsIn_wide.1 (callsIn_of_wp_marks (n := 3) Try.func3 body3 trivial (wpIn_wide.2 ?_) rfl)
  rw [← chain_heads 14 c3, rf_code q3_is]
  refine wp_of_chain _ ?_
  obtain ⟨o1, ho1, hs1⟩ : ∃ o1, aChain Try.prog callN [] 100 200 (heads 14 c3 ++ [q3.r]) (List.replicate 200 undef) [] 0 = some o1 ∧ (o1.ax, forgetF [0, 1, 2, 4, 6, 8, 9, 11, 13, 15, 18, 92] o1.fr 0, o1.hp, o1.nx, o1.ob) = (.normal, F1, H1, 5952, []) := by
    have h := run1
    unfold stopV at h
    split at h
    · rename_i o ho; exact ⟨o, ho, by simpa using h⟩
    · cases h
  simp only [Prod.mk.injEq] at hs1
  obtain ⟨_, s2, s3, s4, s5⟩ := hs1
  have hw0 : WR (szP Try.prog) (fun _ => False) (fun _ => default) (hget []) W := ⟨fun b k hb => (by cases hb), fun b k hb => (by cases hb), fun b c k l hb => (by cases hb), raw_none (D := fun _ => False)⟩
  have key := chain_run (ds := []) (K := fun a w => ∃ (D1 : Nat → Prop) (ρ1 : Nat → Pl), T (szP Try.prog) (fun _ => False) (fun _ => default) (hget []) W D1 ρ1 (hget H1) w ∧ FR [] D1 ρ1 F1 a ∧ ∀ b, D1 b → b < 5952) callN_spec mixed
    _ _ _ _ o1 (fun _ => False) (fun _ => default) { tmps := #[] ++ Array.replicate (200 - 0) undef, defers := [] } W ho1 (by rw [s5]; exact ob_nil) (fun b hb => hb.elim) fr_undef hw0
    (fun a w ⟨_, D1, ρ1, t1, f1, b1, _⟩ => ⟨D1, ρ1, s3 ▸ t1, s2 ▸ f1.forget, fun b hb => s4 ▸ b1 b hb⟩)
  rw [wpChain_app] at key
  refine wpChain_mono ?_ _ key
  intro a0 w0 h0
  refine wp_seq (wp_seq (wp_mono h0 ?_))
  rintro e a w ⟨rfl, D1, ρ1, t1, f1, b1⟩
  refine wp_block ?_
  have hw1 := t1.wr
  obtain ⟨lb, X, hlb, hseq, hX⟩ := seq_ok (Hr := Hk []) (bl := 4288) (bt := 4289) (el1 := 28) (el2 := 2) (vl := .slice (some ⟨512, 0, none⟩) 2 2) (now := 5) (es := [(0, 1, 10), (1, 0, 0)]) hw1 (by kernel_rfl) (by kernel_rfl) (by decide)
    (fun c l hc => ⟨(sub1 c l hc).1, (sub1 c l hc).2.1, (sub1 c l hc).2.2.1, (sub1 c l hc).2.2.2.2⟩)
    (by
      intro v hv
      obtain ⟨hD, cap', e1, e2, _⟩ := hv.slice_inv
      have h512 : hget H1 512 = some ⟨27, ([(0, 1, 10), (1, 0, 0)] : List EjT).flatMap ejF, 0⟩ := by kernel_rfl
      obtain ⟨cs, fz, q1, q2, _⟩ := (hw1.here 512 _ h512).has
      subst e1
      refine ⟨.inl ⟨_, _, cap', rfl, e2, by decide, cs, _, fz, q1, fun i u hu => ?_⟩, ?_⟩
      · obtain ⟨u', h1, h2⟩ := q2 i u hu
        rw [Nat.add_zero, h1, h2.flat0_eq ?_]
        obtain ⟨t, _, ht⟩ := List.mem_flatMap.1 (List.mem_of_getElem? hu)
        exact ej_flat t u ht
      · rintro k ⟨b, o, len, c, e, _, rfl⟩
        cases e
        exact ⟨(Array.getElem?_eq_some_iff.1 q1).1, far_img hw1 h512 fun c l hc => ⟨(sub1 c l hc).1, (sub1 c l hc).2.2.2.1, (sub1 c l hc).2.2.2.2⟩⟩)
  have hg : a.eval q3.g = .func (.func 27) #[] lb := by
    rw [parts3.1]
    exact hlb _ (f1.all 92 (by kernel_rfl))
  have hfr : ∀ x : Nat, FR [] D1 ρ1 (frB x) ((a.put (some 93) (.int .i64 (x : Int))).put (some 19) (.int .i64 (x : Int))) := fun x => by
    rw [← frB_eq x]
    exact ((f1.put (dst := some 93) (.scal _ rfl)).put (dst := some 19) (.scal _ rfl)).forget
  refine rf_wp callN_spec (LF := 100) (F := 200) (H := H1) b1 hw1 (show 5952 ≤ 5960 by decide) hg (enters_of Try.func27 (by kernel_rfl) rfl) hseq (by show q3.ps.size = 1; rw [parts3.2]; rfl) (fun pre => True) Hk trivial (fun b k h => (sub1 b k h).1) hX
    (fun x => (a.put (some 93) (.int .i64 (x : Int))).put (some 19) (.int .i64 (x : Int))) ?assign frB hfr ?round ?done
  case assign =>
    intro l x W1 K hK
    have hd := f1.defers
    have h93 : 93 < a.tmps.size := by rw [f1.size]; decide
    show q3.a.wpIn (Fence.wide.inRound l) 1 Try.prog (Exit.then K fun _ _ _ => False) { tmps := (q3.ps.zip #[Value.int .i64 (x : Int)]).foldl (fun t (p, v) => t.setIfInBounds p v) a.tmps, defers := [] } W1
    rw [parts3.2]
    refine asg_wp (p := 93) (q := 19) (by kernel_rfl) ?_
    have e : ({ tmps := ((#[93] : Array Nat).zip #[Value.int .i64 (x : Int)]).foldl (fun t (p, v) => t.setIfInBounds p v) a.tmps, defers := [] } : Act) = a.put (some 93) (.int .i64 (x : Int)) := by
      obtain ⟨tm, de⟩ := a
      simp only at hd
      subst hd
      rw [zip_put]; rfl
    rw [e]
    have e2 : (a.put (some 93) (.int .i64 (x : Int))).tmps.getD 93 undef = .int .i64 (x : Int) := by
      simp [Act.put, Array.getD, h93]
    rw [e2]
    exact hK
  case round =>
    intro l pre x _ hlen
    match pre, hlen with
    | [], _ => exact .inl ⟨trivial, round0 l x⟩
    | [y], _ => exact .inl ⟨trivial, round1 l x y⟩
    | _ :: _ :: _, h => exact absurd h (by simp)
  case done =>
    intro d xs W2 D2 ρ2 hd hs _ t2 b2 _ hk
    have hxs : xs = [1] := by rw [hs]; rfl
    subst hxs
    have t3 := T.back hw1 t2 (fun b k h => (sub1 b k h).1) rest1
    have f2 : FR [{ target := .collected d, args := #[] }] D2 ρ2 F1 { a with defers := { target := .collected d, args := #[] } :: a.defers } := by
      have h := f1.mono t3.sub t3.same
      exact ⟨h.size, h.all, by rw [h.defers]⟩
    obtain ⟨o2, ho2, v2, hv2, hs2⟩ : ∃ o2, aCode Try.prog callN [] 100 200 q3.post F1 (Hk [1] ++ HR) 5960 = some o2 ∧ ∃ vs, resL Try.prog o2.fr o2.hp Try.f3.results.toList = some vs ∧ (o2.ax, resO vs, o2.ob) = (.ret, .bool true, []) := by
      have h := run2
      unfold retV at h
      split at h
      · rename_i o ho
        split at h
        · rename_i vs hvs; exact ⟨o, ho, vs, hvs, by simpa using h⟩
        · cases h
      · cases h
    simp only [Prod.mk.injEq] at hs2
    obtain ⟨z1, z2, z3⟩ := hs2
    refine wp_mono (code_spec callN_spec mixed 200 q3.post _ _ _ _ ho2 (by rw [z3]; exact ob_nil) D2 ρ2 _ W2 b2 f2 t3.wr) ?_
    rintro e3 a3 w3 ⟨rfl, _, D3, ρ3, t4, f4, _, _⟩
    rw [z1]
    have hk3 : w3.heap[d]? = some (.deferred (some [])) := by
      rw [t4.keep d (Array.getElem?_eq_some_iff.1 hk).1 ?_]
      · exact hk
      · intro hi
        obtain ⟨cs, el, fz, h4⟩ := img_cells t3.wr hi
        rw [hk] at h4
        cases h4
    have tt := (t1.trans t3).trans t4
    refine rf_end (H := []) f4 tt (by have := t1.size; omega) hk3 hv2 fun u W4 hu hT => ?_
    rw [z2] at hu
    exact ⟨by rw [hu.flat0_eq rfl], below_of_t hT⟩
end Go.Proofs.Ytpdfpnfnlikjfaa
