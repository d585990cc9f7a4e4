/- BreakerOpens: the second loop; the whole. -/
import Derived.Test.YtaocnakbhicgiaaB1
namespace Go.Proofs.Ytaocnakbhicgiaa
open Go.RowKit
set_option linter.unusedVariables false
set_option maxRecDepth 100000
theorem w64 {n : Int} (h : -9223372036854775808 ≤ n ∧ n ≤ 9223372036854775807) : IntKind.i64.wrap n = n := IntWalk.i64_in n h
theorem allows_open {cf cd ct cg u now : Int} (hc : check_0 cf cd ct cg = 0) (h0 : 0 ≤ now) (h1 : now ≤ 253402300799) (f o g p : Int) : allows_0 cf cd ct cg 2 f u o g p now = decide (u ≤ now) := by
  by_cases h : u ≤ now <;> simp [allows_0, may_zero hc h0 h1, h]
theorem allows_half {cf cd ct cg u now : Int} (hc : check_0 cf cd ct cg = 0) (h0 : 0 ≤ now) (h1 : now ≤ 253402300799) (f o g p : Int) : allows_0 cf cd ct cg 3 f u o g p now = decide (o < ct) := by
  by_cases h : o < ct <;> simp [allows_0, may_zero hc h0 h1, h]
theorem begin_open {cf cd ct cg u : Int} (hc : check_0 cf cd ct cg = 0) (hu : u ≤ 253402300799) :
    bbegin_0 cf cd ct cg 2 0 u 0 0 1 253402300799 = 3 ∧ bbegin_3 cf cd ct cg 2 0 u 0 0 1 253402300799 = 1 ∧ bbegin_4 cf cd ct cg 2 0 u 0 0 1 253402300799 = 0 ∧ bbegin_5 cf cd ct cg 2 0 u 0 0 1 253402300799 = 2 ∧ bbegin_6 cf cd ct cg 2 0 u 0 0 1 253402300799 = 2 ∧ bbegin_7 cf cd ct cg 2 0 u 0 0 1 253402300799 = 0 := by
  have hm := may_zero hc (now := 253402300799) (by omega) (by omega)
  have ha := allows_open (u := u) hc (now := 253402300799) (by omega) (by omega) 0 0 0 1
  have w : IntKind.i64.wrap 2 = 2 := w64 (by omega)
  simp [bbegin_0, bbegin_3, bbegin_4, bbegin_5, bbegin_6, bbegin_7, hm, ha, hu, w]
theorem begin_half {cf cd ct cg u i : Int} (hc : check_0 cf cd ct cg = 0) :
    bbegin_0 cf cd ct cg 3 0 u 0 i 2 253402300799 = 3 ∧ bbegin_3 cf cd ct cg 3 0 u 0 i 2 253402300799 = 1 ∧ bbegin_4 cf cd ct cg 3 0 u 0 i 2 253402300799 = i ∧ bbegin_5 cf cd ct cg 3 0 u 0 i 2 253402300799 = 2 ∧ bbegin_6 cf cd ct cg 3 0 u 0 i 2 253402300799 = 2 ∧ bbegin_7 cf cd ct cg 3 0 u 0 i 2 253402300799 = 0 := by
  have hz := check_zero hc
  have hm := may_zero hc (now := 253402300799) (by omega) (by omega)
  have ha := allows_half (u := u) hc (now := 253402300799) (by omega) (by omega) 0 0 i 2
  have w : IntKind.i64.wrap 1 = 1 := w64 (by omega)
  simp [bbegin_0, bbegin_3, bbegin_4, bbegin_5, bbegin_6, bbegin_7, hm, ha, show (0 : Int) < ct by omega, w]
def o2s (cg k : Int) : Int := if k = 0 then 2 else if k < cg then 3 else 1
def o2u (cg u k : Int) : Int := if k < cg then u else 0
def o2g (cg k : Int) : Int := if k < cg then k else 0
def o2e (cg k : Int) : Int := if k = 0 then 1 else if k < cg then 2 else 3
theorem end_good {cf cd ct cg u i : Int} (hc : check_0 cf cd ct cg = 0) (h0 : 0 ≤ i) (h1 : i < cg) :
    bend_0 cf cd ct cg 3 0 u 1 i 2 2 true 253402300799 = o2s cg (i + 1) ∧ bend_1 cf cd ct cg 3 0 u 1 i 2 2 true 253402300799 = 0 ∧ bend_2 cf cd ct cg 3 0 u 1 i 2 2 true 253402300799 = o2u cg u (i + 1) ∧ bend_3 cf cd ct cg 3 0 u 1 i 2 2 true 253402300799 = 0 ∧ bend_4 cf cd ct cg 3 0 u 1 i 2 2 true 253402300799 = o2g cg (i + 1) ∧ bend_5 cf cd ct cg 3 0 u 1 i 2 2 true 253402300799 = o2e cg (i + 1) := by
  have hz := check_zero hc
  have hm := may_zero hc (now := 253402300799) (by omega) (by omega)
  have w1 : IntKind.i64.wrap (i + 1) = i + 1 := w64 (by omega)
  have w0 : IntKind.i64.wrap 0 = 0 := w64 (by omega)
  have w3 : IntKind.i64.wrap 3 = 3 := w64 (by omega)
  have hi : ¬ i + 1 = 0 := by omega
  by_cases hl : i + 1 < cg
  · have hn : ¬ cg ≤ i + 1 := by omega
    simp [bend_0, bend_1, bend_2, bend_3, bend_4, bend_5, tried_0, tried_1, tried_2, tried_3, tried_4, tried_5, o2s, o2u, o2g, o2e, hm, w1, w0, hl, hn, hi]
  · have hn : cg ≤ i + 1 := by omega
    simp [bend_0, bend_1, bend_2, bend_3, bend_4, bend_5, tried_0, tried_1, tried_2, tried_3, tried_4, tried_5, o2s, o2u, o2g, o2e, hm, w1, w0, w3, hl, hn, hi]
abbrev o2F (now k : Int) : List Value := mkF [(1, .int .i64 now), (2, .pointer (some ⟨0, 0, none⟩)), (4, .bool false), (5, .pointer (some ⟨1664, 0, none⟩)), (8, .int .i64 k)] 131 0
theorem loop2 {cf cd ct cg now u : Int} (hc : check_0 cf cd ct cg = 0) (hu : u ≤ 253402300799) :
    LoopOK Try.prog (loopN Try.prog 3 1) (o2F now 0) [oC cf cd ct cg, oB 2 0 u 0 0 1] 4672 ⟨.exit 2, o2F now cg, [oC cf cd ct cg, oB 1 0 0 0 0 3], 4928, []⟩ := by
  have hz := check_zero hc
  have hn : ((cg.toNat : Nat) : Int) = cg := by omega
  have key := loop_ind (P := Try.prog) (call := callB) callB_spec mixed (LF := 0) (F := 100) (x := loopN Try.prog 3 1) cg.toNat (fun k => o2F now (k : Int)) (fun k => [oC cf cd ct cg, oB (o2s cg k) 0 (o2u cg u k) 0 (o2g cg k) (o2e cg k)]) (nx0 := 4672) (nxb := 4672) (keys := [1, 2, 4, 5, 8]) (keysE := [1, 2, 4, 5, 8])
    (o := ⟨.exit 2, o2F now cg, [oC cf cd ct cg, oB 1 0 0 0 0 3], 4928, []⟩) (Nat.le_refl _) (by show 4672 ≤ 4928; decide) rfl ?_ ?_ (by intro h; cases h)
  · have e1 : o2s cg ((0 : Nat) : Int) = 2 := rfl
    have e2 : o2u cg u ((0 : Nat) : Int) = u := by simp [o2u]; omega
    have e3 : o2g cg ((0 : Nat) : Int) = 0 := by simp [o2g]
    have e4 : o2e cg ((0 : Nat) : Int) = 1 := rfl
    simp only [e1, e2, e3, e4] at key
    exact key
  · intro k hk
    have hk' : (k : Int) < cg := by omega
    have hcast : ((k + 1 : Nat) : Int) = (k : Int) + 1 := by omega
    have w1 : IntKind.i64.wrap ((k : Int) + 1) = ((k + 1 : Nat) : Int) := by rw [w64 (by omega)]; omega
    have hE := end_good (u := u) (i := (k : Int)) hc (by omega) hk'
    rw [← hcast] at hE
    rcases Nat.eq_zero_or_pos k with h0 | h0
    · subst h0
      have hB := begin_open (cf := cf) (cd := cd) (ct := ct) (cg := cg) (u := u) hc hu
      have e1 : o2s cg ((0 : Nat) : Int) = 2 := rfl
      have e2 : o2u cg u ((0 : Nat) : Int) = u := by simp [o2u]; omega
      have e3 : o2g cg ((0 : Nat) : Int) = 0 := by simp [o2g]
      have e4 : o2e cg ((0 : Nat) : Int) = 1 := rfl
      simp only [e1, e2, e3, e4]
      exact roundTo_of [(4864, .soft (.bool true)), (4992, .soft (.bool false)), (5632, .soft (.agg #[.int .i64 3, .int .i64 0, .int .i64 u, .int .i64 1, .int .i64 0, .int .i64 2])), (5696, .soft (.int .i64 2)), (5760, .soft (.int .i64 0)), (6784, .soft (.agg #[.int .i64 (o2s cg ((0 + 1 : Nat) : Int)), .int .i64 0, .int .i64 (o2u cg u ((0 + 1 : Nat) : Int)), .int .i64 0, .int .i64 (o2g cg ((0 + 1 : Nat) : Int)), .int .i64 (o2e cg ((0 + 1 : Nat) : Int))])), (7040, .soft (.int .i64 ((0 + 1 : Nat) : Int)))] []
        (ps := [decide (((0 : Nat) : Int) < cg) = true, decide (((0 : Nat) : Int) > 0) = false, bbegin_0 cf cd ct cg 2 0 u 0 0 1 253402300799 = 3, (0 : Int) = 0, u = u, bbegin_3 cf cd ct cg 2 0 u 0 0 1 253402300799 = 1, bbegin_4 cf cd ct cg 2 0 u 0 0 1 253402300799 = 0, bbegin_5 cf cd ct cg 2 0 u 0 0 1 253402300799 = 2, bbegin_6 cf cd ct cg 2 0 u 0 0 1 253402300799 = 2, bbegin_7 cf cd ct cg 2 0 u 0 0 1 253402300799 = 0,
          bend_0 cf cd ct cg 3 0 u 1 0 2 2 true 253402300799 = o2s cg ((0 + 1 : Nat) : Int), bend_1 cf cd ct cg 3 0 u 1 0 2 2 true 253402300799 = 0, bend_2 cf cd ct cg 3 0 u 1 0 2 2 true 253402300799 = o2u cg u ((0 + 1 : Nat) : Int), bend_3 cf cd ct cg 3 0 u 1 0 2 2 true 253402300799 = 0, bend_4 cf cd ct cg 3 0 u 1 0 2 2 true 253402300799 = o2g cg ((0 + 1 : Nat) : Int), bend_5 cf cd ct cg 3 0 u 1 0 2 2 true 253402300799 = o2e cg ((0 + 1 : Nat) : Int), IntKind.i64.wrap (((0 : Nat) : Int) + 1) = ((0 + 1 : Nat) : Int)])
        (by kernel_rfl) (ob_cons (by simpa using hk') (ob_cons rfl (ob_cons hB.1 (ob_cons rfl (ob_cons rfl (ob_cons hB.2.1 (ob_cons hB.2.2.1 (ob_cons hB.2.2.2.1 (ob_cons hB.2.2.2.2.1 (ob_cons hB.2.2.2.2.2 (ob_cons hE.1 (ob_cons hE.2.1 (ob_cons hE.2.2.1 (ob_cons hE.2.2.2.1 (ob_cons hE.2.2.2.2.1 (ob_cons hE.2.2.2.2.2 (ob_cons w1 ob_nil))))))))))))))))) (by decide)
    · have hB := begin_half (cf := cf) (cd := cd) (ct := ct) (cg := cg) (u := u) (i := (k : Int)) hc
      have e1 : o2s cg (k : Int) = 3 := by simp [o2s, hk']; omega
      have e2 : o2u cg u (k : Int) = u := if_pos hk'
      have e3 : o2g cg (k : Int) = k := if_pos hk'
      have e4 : o2e cg (k : Int) = 2 := by simp [o2e, hk']; omega
      simp only [e1, e2, e3, e4]
      exact roundTo_of [(4864, .soft (.bool true)), (4992, .soft (.bool true)), (5632, .soft (.agg #[.int .i64 3, .int .i64 0, .int .i64 u, .int .i64 1, .int .i64 k, .int .i64 2])), (5696, .soft (.int .i64 2)), (5760, .soft (.int .i64 0)), (6784, .soft (.agg #[.int .i64 (o2s cg ((k + 1 : Nat) : Int)), .int .i64 0, .int .i64 (o2u cg u ((k + 1 : Nat) : Int)), .int .i64 0, .int .i64 (o2g cg ((k + 1 : Nat) : Int)), .int .i64 (o2e cg ((k + 1 : Nat) : Int))])), (7040, .soft (.int .i64 ((k + 1 : Nat) : Int)))] []
        (ps := [decide ((k : Int) < cg) = true, decide ((k : Int) > 0) = true, bbegin_0 cf cd ct cg 3 0 u 0 k 2 253402300799 = 3, (0 : Int) = 0, u = u, bbegin_3 cf cd ct cg 3 0 u 0 k 2 253402300799 = 1, bbegin_4 cf cd ct cg 3 0 u 0 k 2 253402300799 = k, bbegin_5 cf cd ct cg 3 0 u 0 k 2 253402300799 = 2, bbegin_6 cf cd ct cg 3 0 u 0 k 2 253402300799 = 2, bbegin_7 cf cd ct cg 3 0 u 0 k 2 253402300799 = 0,
          bend_0 cf cd ct cg 3 0 u 1 k 2 2 true 253402300799 = o2s cg ((k + 1 : Nat) : Int), bend_1 cf cd ct cg 3 0 u 1 k 2 2 true 253402300799 = 0, bend_2 cf cd ct cg 3 0 u 1 k 2 2 true 253402300799 = o2u cg u ((k + 1 : Nat) : Int), bend_3 cf cd ct cg 3 0 u 1 k 2 2 true 253402300799 = 0, bend_4 cf cd ct cg 3 0 u 1 k 2 2 true 253402300799 = o2g cg ((k + 1 : Nat) : Int), bend_5 cf cd ct cg 3 0 u 1 k 2 2 true 253402300799 = o2e cg ((k + 1 : Nat) : Int), IntKind.i64.wrap ((k : Int) + 1) = ((k + 1 : Nat) : Int)])
        (by kernel_rfl) (ob_cons (by simpa using hk') (ob_cons (by simpa using h0) (ob_cons hB.1 (ob_cons rfl (ob_cons rfl (ob_cons hB.2.1 (ob_cons hB.2.2.1 (ob_cons hB.2.2.2.1 (ob_cons hB.2.2.2.2.1 (ob_cons hB.2.2.2.2.2 (ob_cons hE.1 (ob_cons hE.2.1 (ob_cons hE.2.2.1 (ob_cons hE.2.2.2.1 (ob_cons hE.2.2.2.2.1 (ob_cons hE.2.2.2.2.2 (ob_cons w1 ob_nil))))))))))))))))) (by decide)
  · have e1 : o2s cg cg = 1 := by simp [o2s]; omega
    have e2 : o2u cg u cg = 0 := by simp [o2u]
    have e3 : o2g cg cg = 0 := by simp [o2g]
    have e4 : o2e cg cg = 3 := by simp [o2e]; omega
    simp only [hn, e1, e2, e3, e4]
    exact roundTo_of [(4864, .soft (.bool false))] [] (ps := [decide (cg < cg) = false]) (by kernel_rfl) (ob_cons (by simp) ob_nil) (by decide)
end Go.Proofs.Ytaocnakbhicgiaa
