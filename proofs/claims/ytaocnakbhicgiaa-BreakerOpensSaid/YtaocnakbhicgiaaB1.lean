/- BreakerOpens: the first loop. -/
import Derived.Test.YtaocnakbhicgiaaS6
import Derived.IntWalk
namespace Go.Proofs.Ytaocnakbhicgiaa
open Go.RowKit
set_option linter.unusedVariables false
set_option maxRecDepth 100000
theorem within_iff (n : Int) : within_0 n = true ↔ 1 ≤ n ∧ n ≤ 1048576 := by
  unfold within_0
  by_cases h1 : 1 ≤ n <;> by_cases h2 : n ≤ 1048576 <;> simp [h1, h2]
theorem check_zero {cf cd ct cg : Int} (h : check_0 cf cd ct cg = 0) : (1 ≤ cf ∧ cf ≤ 1048576) ∧ (1 ≤ ct ∧ ct ≤ 1048576) ∧ (1 ≤ cg ∧ cg ≤ 1048576) ∧ cg ≤ ct ∧ 1 ≤ cd ∧ cd ≤ 253402300799 := by
  unfold check_0 at h
  cases h1 : within_0 cf <;> cases h2 : within_0 ct <;> cases h3 : within_0 cg <;> simp [h1, h2, h3] at h
  rw [within_iff] at h1 h2 h3
  refine ⟨h1, h2, h3, ?_⟩
  by_cases h4 : ct < cg <;> by_cases h5 : cd < 1 <;> by_cases h6 : 253402300799 < cd <;> simp [h4, h5, h6] at h
  omega
theorem check_or (cf cd ct cg : Int) : check_0 cf cd ct cg = 0 ∨ check_0 cf cd ct cg = 190 := by
  unfold check_0
  cases within_0 cf <;> cases within_0 ct <;> cases within_0 cg <;> simp
  by_cases h4 : ct < cg <;> by_cases h5 : cd < 1 <;> by_cases h6 : 253402300799 < cd <;> simp [h4, h5, h6]
theorem may_zero {cf cd ct cg now : Int} (h : check_0 cf cd ct cg = 0) (h0 : 0 ≤ now) (h1 : now ≤ 253402300799) : may_0 cf cd ct cg now = 0 := by
  unfold may_0
  simp [h, show ¬ now < 0 by omega, show ¬ 253402300799 < now by omega]
def opU (cd now : Int) : Int := (if 253402300799 - cd < now then 253402300799 - cd else now) + cd
theorem opU_wrap {cd now : Int} (h0 : 0 ≤ now) (h1 : now ≤ 253402300799) (h2 : 1 ≤ cd) (h3 : cd ≤ 253402300799) :
    IntKind.i64.wrap ((if IntKind.i64.wrap (253402300799 - cd) < now then IntKind.i64.wrap (253402300799 - cd) else now) + cd) = opU cd now := by
  rw [IntWalk.i64_in (253402300799 - cd) (by omega)]
  unfold opU
  refine IntWalk.i64_in _ ?_
  split <;> omega
theorem opU_bd {cd now : Int} (h0 : 0 ≤ now) (h1 : now ≤ 253402300799) (h2 : 1 ≤ cd) (h3 : cd ≤ 253402300799) : now ≤ opU cd now ∧ opU cd now ≤ 253402300799 ∧ (opU cd now = 253402300799 ∨ opU cd now = now + cd) ∧ (now + cd ≤ 253402300799 → opU cd now = now + cd) ∧ (253402300799 ≤ now + cd → opU cd now = 253402300799) := by
  unfold opU
  split <;> omega
/-- A failure while it is closed. -/
theorem fail_more {cf cd ct cg now k : Int} (hc : check_0 cf cd ct cg = 0) (h0 : 0 ≤ now) (h1 : now ≤ 253402300799) (hk : 0 ≤ k) (hk2 : k + 1 < cf) :
    bend_0 cf cd ct cg 1 k 0 0 0 0 0 false now = 1 ∧ bend_1 cf cd ct cg 1 k 0 0 0 0 0 false now = k + 1 ∧ bend_2 cf cd ct cg 1 k 0 0 0 0 0 false now = 0 ∧ bend_3 cf cd ct cg 1 k 0 0 0 0 0 false now = 0 ∧ bend_4 cf cd ct cg 1 k 0 0 0 0 0 false now = 0 ∧ bend_5 cf cd ct cg 1 k 0 0 0 0 0 false now = 0 := by
  have hz := check_zero hc
  have hm := may_zero hc h0 h1
  have w1 : IntKind.i64.wrap (k + 1) = k + 1 := IntWalk.i64_in _ (by omega)
  have hn : ¬ cf ≤ k + 1 := by omega
  simp [bend_0, bend_1, bend_2, bend_3, bend_4, bend_5, hm, ended_0, ended_1, ended_2, ended_3, ended_4, ended_5, w1, hn]
theorem fail_last {cf cd ct cg now k : Int} (hc : check_0 cf cd ct cg = 0) (h0 : 0 ≤ now) (h1 : now ≤ 253402300799) (hk : 0 ≤ k) (hk2 : k + 1 = cf) :
    bend_0 cf cd ct cg 1 k 0 0 0 0 0 false now = 2 ∧ bend_1 cf cd ct cg 1 k 0 0 0 0 0 false now = 0 ∧ bend_2 cf cd ct cg 1 k 0 0 0 0 0 false now = opU cd now ∧ bend_3 cf cd ct cg 1 k 0 0 0 0 0 false now = 0 ∧ bend_4 cf cd ct cg 1 k 0 0 0 0 0 false now = 0 ∧ bend_5 cf cd ct cg 1 k 0 0 0 0 0 false now = 1 := by
  have hz := check_zero hc
  have hm := may_zero hc h0 h1
  have w1 : IntKind.i64.wrap (k + 1) = k + 1 := IntWalk.i64_in _ (by omega)
  have w2 : IntKind.i64.wrap 1 = 1 := IntWalk.i64_in _ (by omega)
  have hn : cf ≤ k + 1 := by omega
  have hu := opU_wrap h0 h1 hz.2.2.2.2.1 hz.2.2.2.2.2
  simp [bend_0, bend_1, bend_2, bend_3, bend_4, bend_5, hm, ended_0, ended_1, ended_2, ended_3, ended_4, ended_5, w1, w2, hn, hu]
/-! the states of the loop -/
def o1s (cf k : Int) : Int := if k < cf then 1 else 2
def o1f (cf k : Int) : Int := if k < cf then k else 0
def o1u (cf cd now k : Int) : Int := if k < cf then 0 else opU cd now
def o1e (cf k : Int) : Int := if k < cf then 0 else 1
abbrev o1F (now k : Int) : List Value := mkF [(1, .int .i64 now), (2, .pointer (some ⟨0, 0, none⟩)), (4, .bool false), (5, .pointer (some ⟨1664, 0, none⟩)), (6, .int .i64 k)] 131 0
abbrev oC (cf cd ct cg : Int) : Nat × ABlk := (0, ⟨23, [.int .i64 cf, .int .i64 cd, .int .i64 ct, .int .i64 cg], 0⟩)
abbrev oB (s f u o g e : Int) : Nat × ABlk := (1664, ⟨28, [.int .i64 s, .int .i64 f, .int .i64 u, .int .i64 o, .int .i64 g, .int .i64 e], 0⟩)
noncomputable def callB : CallF := aCall Try.prog ΨS6 10 100 4
theorem callB_spec : CallSpec Try.prog callB := call_spec ΨS6_spec mixed 4
theorem loop1 {cf cd ct cg now : Int} (hc : check_0 cf cd ct cg = 0) (h0 : 0 ≤ now) (h1 : now ≤ 253402300799) :
    LoopOK Try.prog (loopN Try.prog 3 0) (o1F now 0) [oC cf cd ct cg, oB 1 0 0 0 0 0] 1856 ⟨.exit 0, o1F now cf, [oC cf cd ct cg, oB 2 0 (opU cd now) 0 0 1], 2112, []⟩ := by
  have hz := check_zero hc
  have hn : ((cf.toNat : Nat) : Int) = cf := by omega
  have key := loop_ind (P := Try.prog) (call := callB) callB_spec mixed (LF := 0) (F := 100) (x := loopN Try.prog 3 0) cf.toNat (fun k => o1F now (k : Int)) (fun k => [oC cf cd ct cg, oB (o1s cf k) (o1f cf k) (o1u cf cd now k) 0 0 (o1e cf k)]) (nx0 := 1856) (nxb := 1856) (keys := [1, 2, 4, 5, 6]) (keysE := [1, 2, 4, 5, 6])
    (o := ⟨.exit 0, o1F now cf, [oC cf cd ct cg, oB 2 0 (opU cd now) 0 0 1], 2112, []⟩) (Nat.le_refl _) (by show 1856 ≤ 2112; decide) rfl ?_ ?_ (by intro h; cases h)
  · have e1 : o1s cf ((0 : Nat) : Int) = 1 := by simp [o1s]; omega
    have e2 : o1f cf ((0 : Nat) : Int) = 0 := by simp [o1f]
    have e3 : o1u cf cd now ((0 : Nat) : Int) = 0 := by simp [o1u]; omega
    have e4 : o1e cf ((0 : Nat) : Int) = 0 := by simp [o1e]; omega
    simp only [e1, e2, e3, e4] at key
    exact key
  · intro k hk
    have hk' : (k : Int) < cf := by omega
    have e1 : o1s cf k = 1 := if_pos hk'
    have e2 : o1f cf k = k := if_pos hk'
    have e3 : o1u cf cd now k = 0 := if_pos hk'
    have e4 : o1e cf k = 0 := if_pos hk'
    have w1 : IntKind.i64.wrap ((k : Int) + 1) = ((k + 1 : Nat) : Int) := by rw [IntWalk.i64_in _ (by omega)]; omega
    have hs : bend_0 cf cd ct cg 1 k 0 0 0 0 0 false now = o1s cf ((k + 1 : Nat) : Int) ∧ bend_1 cf cd ct cg 1 k 0 0 0 0 0 false now = o1f cf ((k + 1 : Nat) : Int) ∧ bend_2 cf cd ct cg 1 k 0 0 0 0 0 false now = o1u cf cd now ((k + 1 : Nat) : Int) ∧ bend_3 cf cd ct cg 1 k 0 0 0 0 0 false now = 0 ∧ bend_4 cf cd ct cg 1 k 0 0 0 0 0 false now = 0 ∧ bend_5 cf cd ct cg 1 k 0 0 0 0 0 false now = o1e cf ((k + 1 : Nat) : Int) := by
      have hcast : ((k + 1 : Nat) : Int) = (k : Int) + 1 := by omega
      simp only [o1s, o1f, o1u, o1e, hcast]
      by_cases hl : (k : Int) + 1 < cf
      · simp only [if_pos hl]
        exact fail_more hc h0 h1 (by omega) hl
      · simp only [if_neg hl]
        exact fail_last hc h0 h1 (by omega) (by omega)
    simp only [e1, e2, e3, e4]
    exact roundTo_of [(2048, .soft (.bool true)), (2240, .soft (.bool false)), (2752, .soft (.agg #[.int .i64 (o1s cf ((k + 1 : Nat) : Int)), .int .i64 (o1f cf ((k + 1 : Nat) : Int)), .int .i64 (o1u cf cd now ((k + 1 : Nat) : Int)), .int .i64 0, .int .i64 0, .int .i64 (o1e cf ((k + 1 : Nat) : Int))])), (3008, .soft (.int .i64 ((k + 1 : Nat) : Int)))] []
      (ps := [decide ((k : Int) < cf) = true, ((1 : Int) != 1) = false, bend_0 cf cd ct cg 1 k 0 0 0 0 0 false now = o1s cf ((k + 1 : Nat) : Int), bend_1 cf cd ct cg 1 k 0 0 0 0 0 false now = o1f cf ((k + 1 : Nat) : Int), bend_2 cf cd ct cg 1 k 0 0 0 0 0 false now = o1u cf cd now ((k + 1 : Nat) : Int), bend_3 cf cd ct cg 1 k 0 0 0 0 0 false now = 0, bend_4 cf cd ct cg 1 k 0 0 0 0 0 false now = 0, bend_5 cf cd ct cg 1 k 0 0 0 0 0 false now = o1e cf ((k + 1 : Nat) : Int), IntKind.i64.wrap ((k : Int) + 1) = ((k + 1 : Nat) : Int)])
      (by kernel_rfl) (ob_cons (by simpa using hk') (ob_cons rfl (ob_cons hs.1 (ob_cons hs.2.1 (ob_cons hs.2.2.1 (ob_cons hs.2.2.2.1 (ob_cons hs.2.2.2.2.1 (ob_cons hs.2.2.2.2.2 (ob_cons w1 ob_nil))))))))) (by decide)
  · have hk' : ¬ ((cf.toNat : Nat) : Int) < cf := by omega
    have e1 : o1s cf (cf.toNat : Nat) = 2 := if_neg hk'
    have e2 : o1f cf (cf.toNat : Nat) = 0 := if_neg hk'
    have e3 : o1u cf cd now (cf.toNat : Nat) = opU cd now := if_neg hk'
    have e4 : o1e cf (cf.toNat : Nat) = 1 := if_neg hk'
    simp only [hn] at e1 e2 e3 e4 ⊢
    simp only [e1, e2, e3, e4]
    exact roundTo_of [(2048, .soft (.bool false))] [] (ps := [decide (cf < cf) = false]) (by kernel_rfl) (ob_cons (by simp) ob_nil) (by decide)
end Go.Proofs.Ytaocnakbhicgiaa
