/- Health: the reference's plain answers are the program's. Health: the reference: Out, Count, Report over a row; printed by a program of mine. Health: the reference: Report over a row; printed by a program of mine. Health: the reference: New; printed by a program of mine. Health: refusals of New; printed by a program of mine. -/
import Derived.Test.YtadpnamooajpoaaSB
import Derived.Test.YtadpnamooajpoaaP1
import Derived.Test.YtadpnamooajpoaaX17
import Derived.Test.YtadpnamooajpoaaH0
import Derived.KernelRfl
namespace Go.Proofs.Ytadpnamooajpoaa
section
open Go.RowKit
set_option linter.unusedSectionVars false
set_option linter.unusedSimpArgs false
set_option linter.unusedVariables false
theorem bw_if {n a b : Int} : (bif !bwithin_0 n then a else b) = bif decide (n < 1) then a else bif decide (n > 1048576) then a else b := by
  unfold bwithin_0
  by_cases h1 : n < 1
  · rw [show decide (n ≥ 1) = false from decide_eq_false (by omega), decide_eq_true h1]; rfl
  · rw [show decide (n ≥ 1) = true from decide_eq_true (by omega), decide_eq_false h1]
    by_cases h2 : n > 1048576
    · rw [show decide (n ≤ 1048576) = false from decide_eq_false (by omega), decide_eq_true h2]; rfl
    · rw [show decide (n ≤ 1048576) = true from decide_eq_true (by omega), decide_eq_false h2]; rfl
theorem pw_if {n m a b : Int} : (bif !pwithin_0 n m then a else b) = bif decide (n < 1) then a else bif decide (n > m) then a else b := by
  unfold pwithin_0
  by_cases h1 : n < 1
  · rw [show decide (n ≥ 1) = false from decide_eq_false (by omega), decide_eq_true h1]; rfl
  · rw [show decide (n ≥ 1) = true from decide_eq_true (by omega), decide_eq_false h1]
    by_cases h2 : n > m
    · rw [show decide (n ≤ m) = false from decide_eq_false (by omega), decide_eq_true h2]; rfl
    · rw [show decide (n ≤ m) = true from decide_eq_true (by omega), decide_eq_false h2]; rfl
theorem rbcheck_eq (cf cd ct cg : Int) : rbcheck_0 cf cd ct cg = bcheck_0 cf cd ct cg := by
  unfold rbcheck_0 bcheck_0
  rw [bw_if, bw_if, bw_if]
  by_cases h1 : ct > 1048576
  · rw [decide_eq_true h1]; rfl
  · by_cases h2 : cg > 1048576
    · rw [decide_eq_true h2, decide_eq_true (show cg > ct by omega)]; rfl
    · rw [decide_eq_false h2]; rfl
theorem rcheck_eq (cf cb cm cp : Int) : rcheck_0 cf cb cm cp = check_0 cf cb cm cp := rfl
theorem rpcheck_eq (ce cw cr cf : Int) : rpcheck_0 ce cw cr cf = pcheck_0 ce cw cr cf := by
  unfold rpcheck_0 pcheck_0
  rw [pw_if, pw_if, pw_if, pw_if]
theorem rhcheck_eq (b1 b2 b3 b4 e1 e2 e3 e4 p1 p2 p3 p4 : Int) : rhcheck_0 b1 b2 b3 b4 e1 e2 e3 e4 p1 p2 p3 p4 = hcheck_0 b1 b2 b3 b4 e1 e2 e3 e4 p1 p2 p3 p4 := by
  unfold rhcheck_0 hcheck_0
  rw [rbcheck_eq, rcheck_eq, rpcheck_eq]
  by_cases h1 : bcheck_0 b1 b2 b3 b4 = 0
  · rw [h1]
    by_cases h2 : check_0 e1 e2 e3 e4 = 0
    · rw [h2]; rfl
    · rw [show (check_0 e1 e2 e3 e4 == 0) = false from beq_false_of_ne h2, show (check_0 e1 e2 e3 e4 != 0) = true from bne_iff_ne.2 h2]; rfl
  · rw [show (bcheck_0 b1 b2 b3 b4 == 0) = false from beq_false_of_ne h1, show (bcheck_0 b1 b2 b3 b4 != 0) = true from bne_iff_ne.2 h1]; rfl
theorem time_iff (now : Int) : time_0 now = true ↔ 0 ≤ now ∧ now ≤ 253402300799 := by
  unfold time_0
  by_cases h1 : now ≥ 0 <;> by_cases h2 : now ≤ 253402300799 <;> simp [h1, h2] <;> omega
theorem bmay_t {cf cd ct cg now : Int} (h : bcheck_0 cf cd ct cg = 0) (ht : 0 ≤ now ∧ now ≤ 253402300799) : bmay_0 cf cd ct cg now = 0 := by
  unfold bmay_0
  rw [h, decide_eq_false (show ¬ now < 0 by omega), decide_eq_false (show ¬ now > 253402300799 by omega)]
  rfl
theorem pmay_t {cf cd ct cg now : Int} (h : pcheck_0 cf cd ct cg = 0) (ht : 0 ≤ now ∧ now ≤ 253402300799) : pmay_0 cf cd ct cg now = 0 := by
  unfold pmay_0
  rw [h, decide_eq_false (show ¬ now < 0 by omega), decide_eq_false (show ¬ now > 253402300799 by omega)]
  rfl
theorem rallows_eq {cf cd ct cg s f u o g p now : Int} (h : bcheck_0 cf cd ct cg = 0) (ht : 0 ≤ now ∧ now ≤ 253402300799) : rallows_0 cf cd ct cg s f u o g p now = allows_0 cf cd ct cg s f u o g p now := by
  unfold rallows_0 allows_0
  rw [rbcheck_eq, h, bmay_t h ht, (time_iff now).2 ht]
  rfl
theorem rdue_eq (up : Bool) (run nxt : Int) (out : Bool) (since now : Int) : rdue_0 up run nxt out since now = due_0 up run nxt out since now := rfl
theorem rerrs_t {cf cd ct cg now : Int} (h : bcheck_0 cf cd ct cg = 0) (ht : 0 ≤ now ∧ now ≤ 253402300799) : rerrs_0 cf cd ct cg now = 0 := by
  unfold rerrs_0
  rw [rbcheck_eq, h, (time_iff now).2 ht]
  rfl
theorem rperrs_t {cf cd ct cg now : Int} {ok : Bool} (h : pcheck_0 cf cd ct cg = 0) (ht : 0 ≤ now ∧ now ≤ 253402300799) : rperrs_0 cf cd ct cg now ok = bif ok then 0 else 8 := by
  unfold rperrs_0
  rw [rpcheck_eq, h, (time_iff now).2 ht]
  cases ok <;> rfl
theorem behind_eq {now x : Int} (h0 : 0 ≤ now) (h1 : now ≤ 253402300799) (x0 : 0 ≤ x) (x1 : x ≤ 253402300799) : behind_0 now x = IntKind.i64.wrap ((if IntKind.i64.wrap (253402300799 - x) < now then IntKind.i64.wrap (253402300799 - x) else now) + x) := by
  unfold behind_0
  rw [w64 (n := 253402300799 - now) (by omega), w64 (n := 253402300799 - x) (by omega), w64 (n := now + x) (by omega)]
  by_cases h : x > 253402300799 - now
  · rw [show decide (x > 253402300799 - now) = true from decide_eq_true h, if_pos (by omega), w64 (by omega)]
    simp only [cond_true]; omega
  · rw [show decide (x > 253402300799 - now) = false from decide_eq_false h, if_neg (by omega), w64 (by omega)]
    rfl
theorem bcheck_d {cf cd ct cg : Int} (h : bcheck_0 cf cd ct cg = 0) : 1 ≤ cd ∧ cd ≤ 253402300799 := by
  rw [← rbcheck_eq] at h
  unfold rbcheck_0 at h
  simp only [cond_eq_ite, decide_eq_true_eq] at h
  repeat' split at h
  all_goals first | (exact absurd h (by decide)) | omega
theorem pcheck_d {ce cw cr cf : Int} (h : pcheck_0 ce cw cr cf = 0) : 1 ≤ ce ∧ ce ≤ 253402300799 ∧ 1 ≤ cw ∧ cw ≤ 253402300799 := by
  rw [← rpcheck_eq] at h
  unfold rpcheck_0 at h
  simp only [cond_eq_ite, decide_eq_true_eq] at h
  repeat' split at h
  all_goals first | (exact absurd h (by decide)) | omega
theorem rbegin0_eq {cf cd ct cg s f u o g p now : Int} (h : bcheck_0 cf cd ct cg = 0) (ht : 0 ≤ now ∧ now ≤ 253402300799) : rbegin_0 cf cd ct cg s f u o g p now = bbegin_0 cf cd ct cg s f u o g p now := by
  unfold rbegin_0 bbegin_0
  rw [rerrs_t h ht, bmay_t h ht, rallows_eq h ht]
  rfl
theorem rbegin3_eq {cf cd ct cg s f u o g p now : Int} (h : bcheck_0 cf cd ct cg = 0) (ht : 0 ≤ now ∧ now ≤ 253402300799) : rbegin_3 cf cd ct cg s f u o g p now = bbegin_3 cf cd ct cg s f u o g p now := by
  unfold rbegin_3 bbegin_3
  rw [rerrs_t h ht, bmay_t h ht, rallows_eq h ht]
  rfl
theorem rbegin4_eq {cf cd ct cg s f u o g p now : Int} (h : bcheck_0 cf cd ct cg = 0) (ht : 0 ≤ now ∧ now ≤ 253402300799) : rbegin_4 cf cd ct cg s f u o g p now = bbegin_4 cf cd ct cg s f u o g p now := by
  unfold rbegin_4 bbegin_4
  rw [rerrs_t h ht, bmay_t h ht, rallows_eq h ht]
  rfl
theorem rbegin5_eq {cf cd ct cg s f u o g p now : Int} (h : bcheck_0 cf cd ct cg = 0) (ht : 0 ≤ now ∧ now ≤ 253402300799) : rbegin_5 cf cd ct cg s f u o g p now = bbegin_5 cf cd ct cg s f u o g p now := by
  unfold rbegin_5 bbegin_5
  rw [rerrs_t h ht, bmay_t h ht, rallows_eq h ht]
  rfl
theorem rbegin6_eq {cf cd ct cg s f u o g p now : Int} (h : bcheck_0 cf cd ct cg = 0) (ht : 0 ≤ now ∧ now ≤ 253402300799) : rbegin_6 cf cd ct cg s f u o g p now = bbegin_6 cf cd ct cg s f u o g p now := by
  unfold rbegin_6 bbegin_6
  rw [rerrs_t h ht, bmay_t h ht, rallows_eq h ht]
  rfl
theorem rbegin7_eq {cf cd ct cg s f u o g p now : Int} (h : bcheck_0 cf cd ct cg = 0) (ht : 0 ≤ now ∧ now ≤ 253402300799) : rbegin_7 cf cd ct cg s f u o g p now = bbegin_7 cf cd ct cg s f u o g p now := by
  unfold rbegin_7 bbegin_7
  rw [rerrs_t h ht, bmay_t h ht, rallows_eq h ht]
  rfl
theorem rend0_eq {cf cd ct cg s f u o g p now ep : Int} (h : bcheck_0 cf cd ct cg = 0) (ht : 0 ≤ now ∧ now ≤ 253402300799) {well : Bool} : rend_0 cf cd ct cg s f u o g p ep well now = bend_0 cf cd ct cg s f u o g p ep well now := by
  have hd := bcheck_d h
  unfold rend_0 bend_0
  rw [rerrs_t h ht, bmay_t h ht]
  skip
  unfold ended_0 tried_0
  cases well <;> rfl
theorem rend1_eq {cf cd ct cg s f u o g p now ep : Int} (h : bcheck_0 cf cd ct cg = 0) (ht : 0 ≤ now ∧ now ≤ 253402300799) {well : Bool} : rend_1 cf cd ct cg s f u o g p ep well now = bend_1 cf cd ct cg s f u o g p ep well now := by
  have hd := bcheck_d h
  unfold rend_1 bend_1
  rw [rerrs_t h ht, bmay_t h ht]
  skip
  unfold ended_1 tried_1
  cases well <;> rfl
theorem rend2_eq {cf cd ct cg s f u o g p now ep : Int} (h : bcheck_0 cf cd ct cg = 0) (ht : 0 ≤ now ∧ now ≤ 253402300799) {well : Bool} : rend_2 cf cd ct cg s f u o g p ep well now = bend_2 cf cd ct cg s f u o g p ep well now := by
  have hd := bcheck_d h
  unfold rend_2 bend_2
  rw [rerrs_t h ht, bmay_t h ht]
  rw [behind_eq ht.1 ht.2 (by omega) hd.2]
  unfold ended_2 tried_2
  cases well <;> rfl
theorem rend3_eq {cf cd ct cg s f u o g p now ep : Int} (h : bcheck_0 cf cd ct cg = 0) (ht : 0 ≤ now ∧ now ≤ 253402300799) {well : Bool} : rend_3 cf cd ct cg s f u o g p ep well now = bend_3 cf cd ct cg s f u o g p ep well now := by
  have hd := bcheck_d h
  unfold rend_3 bend_3
  rw [rerrs_t h ht, bmay_t h ht]
  skip
  unfold ended_3 tried_3
  cases well <;> rfl
theorem rend4_eq {cf cd ct cg s f u o g p now ep : Int} (h : bcheck_0 cf cd ct cg = 0) (ht : 0 ≤ now ∧ now ≤ 253402300799) {well : Bool} : rend_4 cf cd ct cg s f u o g p ep well now = bend_4 cf cd ct cg s f u o g p ep well now := by
  have hd := bcheck_d h
  unfold rend_4 bend_4
  rw [rerrs_t h ht, bmay_t h ht]
  skip
  unfold ended_4 tried_4
  cases well <;> rfl
theorem rend5_eq {cf cd ct cg s f u o g p now ep : Int} (h : bcheck_0 cf cd ct cg = 0) (ht : 0 ≤ now ∧ now ≤ 253402300799) {well : Bool} : rend_5 cf cd ct cg s f u o g p ep well now = bend_5 cf cd ct cg s f u o g p ep well now := by
  have hd := bcheck_d h
  unfold rend_5 bend_5
  rw [rerrs_t h ht, bmay_t h ht]
  skip
  unfold ended_5 tried_5
  cases well <;> rfl
theorem rend6_eq {cf cd ct cg s f u o g p now ep : Int} (h : bcheck_0 cf cd ct cg = 0) (ht : 0 ≤ now ∧ now ≤ 253402300799) {well : Bool} : rend_6 cf cd ct cg s f u o g p ep well now = bend_6 cf cd ct cg s f u o g p ep well now := by
  have hd := bcheck_d h
  unfold rend_6 bend_6
  rw [rerrs_t h ht, bmay_t h ht]
  skip
  cases well <;> simp
theorem rgive_eq {cf cd ct cg s f u o g p ep : Int} (h : bcheck_0 cf cd ct cg = 0) : rgive_3 cf cd ct cg s f u o g p ep = give_3 cf cd ct cg s f u o g p ep := by
  unfold rgive_3 give_3
  rw [rbcheck_eq, h]
  rfl
theorem rlate_eq {ce cw cr cf run nxt since now : Int} {up out : Bool} (h : pcheck_0 ce cw cr cf = 0) (ht : 0 ≤ now ∧ now ≤ 253402300799) (hs : 0 ≤ since) : rlate_0 ce cw cr cf up run nxt out since now = late_0 ce cw cr cf up run nxt out since now := by
  have hd := pcheck_d h
  unfold rlate_0 late_0
  rw [rpcheck_eq, h, w64 (n := now - cw) (by omega)]
  cases out
  · rfl
  · by_cases h1 : now ≥ since
    · rw [decide_eq_true h1, w64 (n := now - since) (by omega)]
      simp only [cond_true, beq_self_eq_true]
      exact decide_eq_decide.2 (by omega)
    · rw [decide_eq_false h1, decide_eq_false (show ¬ since ≤ now - cw by omega)]
      rfl
theorem rpbegin3_eq {ce cw cr cf run nxt since now : Int} {up out : Bool} (h : pcheck_0 ce cw cr cf = 0) (ht : 0 ≤ now ∧ now ≤ 253402300799) : rpbegin_3 ce cw cr cf up run nxt out since now = pbegin_3 ce cw cr cf up run nxt out since now := by
  unfold rpbegin_3 pbegin_3
  rw [rperrs_t h ht, pmay_t h ht, rdue_eq]
  cases due_0 up run nxt out since now <;> rfl
theorem rpbegin4_eq {ce cw cr cf run nxt since now : Int} {up out : Bool} (h : pcheck_0 ce cw cr cf = 0) (ht : 0 ≤ now ∧ now ≤ 253402300799) : rpbegin_4 ce cw cr cf up run nxt out since now = pbegin_4 ce cw cr cf up run nxt out since now := by
  unfold rpbegin_4 pbegin_4
  rw [rperrs_t h ht, pmay_t h ht, rdue_eq]
  cases due_0 up run nxt out since now <;> rfl
theorem rpbegin5_eq {ce cw cr cf run nxt since now : Int} {up out : Bool} (h : pcheck_0 ce cw cr cf = 0) (ht : 0 ≤ now ∧ now ≤ 253402300799) : rperrs_0 ce cw cr cf now (rdue_0 up run nxt out since now) = pbegin_5 ce cw cr cf up run nxt out since now := by
  unfold pbegin_5
  rw [rperrs_t h ht, pmay_t h ht, rdue_eq]
  cases due_0 up run nxt out since now <;> rfl
theorem rpend0_eq {ce cw cr cf run nxt since now : Int} {up out : Bool} (h : pcheck_0 ce cw cr cf = 0) (ht : 0 ≤ now ∧ now ≤ 253402300799) {well : Bool} : rpend_0 ce cw cr cf up run nxt out since well now = pend_0 ce cw cr cf up run nxt out since well now := by
  have hd := pcheck_d h
  unfold rpend_0 pend_0
  rw [rperrs_t h ht, pmay_t h ht]
  skip
  cases up <;> cases out <;> cases well <;> rfl
theorem rpend1_eq {ce cw cr cf run nxt since now : Int} {up out : Bool} (h : pcheck_0 ce cw cr cf = 0) (ht : 0 ≤ now ∧ now ≤ 253402300799) {well : Bool} : rpend_1 ce cw cr cf up run nxt out since well now = pend_1 ce cw cr cf up run nxt out since well now := by
  have hd := pcheck_d h
  unfold rpend_1 pend_1
  rw [rperrs_t h ht, pmay_t h ht]
  skip
  cases up <;> cases out <;> cases well <;> rfl
theorem rpend2_eq {ce cw cr cf run nxt since now : Int} {up out : Bool} (h : pcheck_0 ce cw cr cf = 0) (ht : 0 ≤ now ∧ now ≤ 253402300799) {well : Bool} : rpend_2 ce cw cr cf up run nxt out since well now = pend_2 ce cw cr cf up run nxt out since well now := by
  have hd := pcheck_d h
  unfold rpend_2 pend_2
  rw [rperrs_t h ht, pmay_t h ht]
  rw [behind_eq ht.1 ht.2 (by omega) hd.2.1]
  cases up <;> cases out <;> cases well <;> rfl
theorem rpend3_eq {ce cw cr cf run nxt since now : Int} {up out : Bool} (h : pcheck_0 ce cw cr cf = 0) (ht : 0 ≤ now ∧ now ≤ 253402300799) {well : Bool} : rpend_3 ce cw cr cf up run nxt out since well now = pend_3 ce cw cr cf up run nxt out since well now := by
  have hd := pcheck_d h
  unfold rpend_3 pend_3
  rw [rperrs_t h ht, pmay_t h ht]
  skip
  cases up <;> cases out <;> cases well <;> rfl
theorem rpend4_eq {ce cw cr cf run nxt since now : Int} {up out : Bool} (h : pcheck_0 ce cw cr cf = 0) (ht : 0 ≤ now ∧ now ≤ 253402300799) {well : Bool} : rpend_4 ce cw cr cf up run nxt out since well now = pend_4 ce cw cr cf up run nxt out since well now := by
  have hd := pcheck_d h
  unfold rpend_4 pend_4
  rw [rperrs_t h ht, pmay_t h ht]
  skip
  cases up <;> cases out <;> cases well <;> rfl
theorem rpend5_eq {ce cw cr cf run nxt since now : Int} {up out : Bool} (h : pcheck_0 ce cw cr cf = 0) (ht : 0 ≤ now ∧ now ≤ 253402300799) {well : Bool} : rpend_5 ce cw cr cf up run nxt out since well now = pend_5 ce cw cr cf up run nxt out since well now := by
  have hd := pcheck_d h
  unfold rpend_5 pend_5
  rw [rperrs_t h ht, pmay_t h ht]
  skip
  cases up <;> cases out <;> cases well <;> rfl
end
section
open Go.RowKit
set_option linter.unusedSimpArgs false
set_option linter.unusedVariables false
set_option linter.unusedSectionVars false
set_option maxRecDepth 100000
variable [Inhabited RawG]
noncomputable def callQ : CallF := aCall Try.prog ΨSA 10 100 6
theorem callQ_spec : CallSpec Try.prog callQ := call_spec ΨSA_spec mixed 6
/-- How many of the first are out. -/
def outC (es : List EjT) (now : Int) (x : Nat) : Nat := ((es.take x).filter fun t => decide (t.2.2 > now)).length
theorem outC_all (es : List EjT) (now : Int) : outC es now es.length = ejCount es now := by unfold outC ejCount; rw [List.take_length]
theorem outC_step {es : List EjT} {now : Int} {x : Nat} (hx : x < es.length) : outC es now (x + 1) = outC es now x + (if decide ((es.getD x default).2.2 > now) = true then 1 else 0) := by
  unfold outC
  have e : es.getD x default = es[x] := by rw [List.getD_eq_getElem?_getD, List.getElem?_eq_getElem hx]; rfl
  rw [e, List.take_succ_eq_append_getElem hx, List.filter_append, List.length_append]
  congr 1
  by_cases h : es[x].2.2 > now <;> simp [h]
theorem outC_le (es : List EjT) (now : Int) (x : Nat) : outC es now x ≤ x := by
  unfold outC
  exact Nat.le_trans (List.length_filter_le _ _) (by simp; omega)
theorem row_at {es : List EjT} {k : Nat} (hk : k < es.length) : List.take 3 (List.drop (0 + k * 3) (es.flatMap ejF)) = ejF (es.getD k default) := by
  rw [Nat.zero_add]
  exact flatMap_at ej3 default _ _ hk
theorem rout_r {es : List EjT} {k : Nat} {now : Int} (hk : k < es.length) : CallOK Try.prog 69 [.slice (some ⟨0, 0, none⟩) es.length es.length, vI (k : Int), vI now] [(0, ⟨48, es.flatMap ejF, 3⟩)] 1 (.bool (decide ((es.getD k default).2.2 > now))) [(0, ⟨48, es.flatMap ejF, 3⟩)] := by
  have k0 : (decide ((↑k : Int) < (↑es.length : Int))) = true := (decide_eq_true (by omega))
  exact callOK_keep (call := callQ) [0] callQ_spec mixed (ω := [(577, oT), (769, OV.idx k), (897, OV.ld (vI (es.getD k default).snd.snd))]) (LF := 10) (F := 100) (ps := [decide ((↑k : Int) < (↑es.length : Int)) = true, 0 ≤ (↑k : Int) ∧ (↑k : Int) < (↑es.length : Int) ∧ (↑k : Int).toNat = k, (List.flatMap ejF es)[0 + k * 3 + 2]? = some (vI (es.getD k default).snd.snd)]) (by kernel_rfl) (ob_cons k0 (ob_cons (by omega) (ob_cons ((flatMap_cell ej3 default hk (by decide : 2 < 3)).trans rfl) ob_nil)))

theorem rc_false {es : List EjT} {now : Int} {x n : Nat} (h80 : es.length ≤ 64) (hx : x < es.length) (hn : n ≤ x) (he : decide ((es.getD x default).2.2 > now) = false) : RoundTo Try.prog callQ 10 100 (loopN Try.prog 86 0) 193 194 [0, 1, 5, 6] .normal (mkF [(0, .slice (some ⟨0, 0, none⟩) es.length es.length), (1, vI now), (5, vI ((n : Nat) : Int)), (6, vI ((x : Nat) : Int))] 20 0) [(0, ⟨48, es.flatMap ejF, 3⟩)] (mkF [(0, Value.slice (some ⟨0, 0, none⟩) es.length es.length), (1, vI now), (5, vI (↑n : Int)), (6, vI (↑(x + 1) : Int))] 20 0) [(0, ⟨48, List.flatMap ejF es, 3⟩)] 194 := by
  have k0 : (decide ((↑x : Int) < (↑es.length : Int))) = true := (decide_eq_true (by omega))
  exact roundTo_of [(386, oT), (642, OV.call (Value.bool false) [(0, ⟨48, List.flatMap ejF es, 3⟩)]), (770, OV.soft (vI (↑(x + 1) : Int)))] [] (ps := [decide ((↑x : Int) < (↑es.length : Int)) = true, CallOK Try.prog 69 [Value.slice (some ⟨0, 0, none⟩) es.length es.length, vI (↑x : Int), vI now] [(0, ⟨48, List.flatMap ejF es, 3⟩)] 1 (Value.bool false) [(0, ⟨48, List.flatMap ejF es, 3⟩)], IntKind.i64.wrap ((↑x : Int) + 1) = (↑(x + 1) : Int)]) (by kernel_rfl) (ob_cons k0 (ob_cons (he ▸ rout_r hx) (ob_cons (up1 (by omega)) ob_nil))) (by decide)

theorem rc_true {es : List EjT} {now : Int} {x n : Nat} (h80 : es.length ≤ 64) (hx : x < es.length) (hn : n ≤ x) (he : decide ((es.getD x default).2.2 > now) = true) : RoundTo Try.prog callQ 10 100 (loopN Try.prog 86 0) 193 194 [0, 1, 5, 6] .normal (mkF [(0, .slice (some ⟨0, 0, none⟩) es.length es.length), (1, vI now), (5, vI ((n : Nat) : Int)), (6, vI ((x : Nat) : Int))] 20 0) [(0, ⟨48, es.flatMap ejF, 3⟩)] (mkF [(0, Value.slice (some ⟨0, 0, none⟩) es.length es.length), (1, vI now), (5, vI (↑(n + 1) : Int)), (6, vI (↑(x + 1) : Int))] 20 0) [(0, ⟨48, List.flatMap ejF es, 3⟩)] 194 := by
  have k0 : (decide ((↑x : Int) < (↑es.length : Int))) = true := (decide_eq_true (by omega))
  exact roundTo_of [(386, oT), (642, OV.call (Value.bool true) [(0, ⟨48, List.flatMap ejF es, 3⟩)]), (770, OV.soft (vI (↑(n + 1) : Int))), (962, OV.soft (vI (↑(x + 1) : Int)))] [] (ps := [decide ((↑x : Int) < (↑es.length : Int)) = true, CallOK Try.prog 69 [Value.slice (some ⟨0, 0, none⟩) es.length es.length, vI (↑x : Int), vI now] [(0, ⟨48, List.flatMap ejF es, 3⟩)] 1 (Value.bool true) [(0, ⟨48, List.flatMap ejF es, 3⟩)], IntKind.i64.wrap ((↑n : Int) + 1) = (↑(n + 1) : Int), IntKind.i64.wrap ((↑x : Int) + 1) = (↑(x + 1) : Int)]) (by kernel_rfl) (ob_cons k0 (ob_cons (he ▸ rout_r hx) (ob_cons (up1 (by omega)) (ob_cons (up1 (by omega)) ob_nil)))) (by decide)

theorem rc_end {es : List EjT} {now : Int} {x n : Nat} (hx : x = es.length) : RoundTo Try.prog callQ 10 100 (loopN Try.prog 86 0) 193 194 [0, 5] (.exit 0) (mkF [(0, .slice (some ⟨0, 0, none⟩) es.length es.length), (1, vI now), (5, vI ((n : Nat) : Int)), (6, vI ((x : Nat) : Int))] 20 0) [(0, ⟨48, es.flatMap ejF, 3⟩)] (mkF [(0, Value.slice (some ⟨0, 0, none⟩) es.length es.length), (5, vI (↑n : Int))] 20 0) [(0, ⟨48, List.flatMap ejF es, 3⟩)] 257 := by
  have k0 : (decide ((↑x : Int) < (↑es.length : Int))) = false := (decide_eq_false (by omega))
  exact roundTo_of [(386, oF)] [] (ps := [decide ((↑x : Int) < (↑es.length : Int)) = false]) (by kernel_rfl) (ob_cons k0 ob_nil) (by decide)

theorem rc_loop {es : List EjT} {now : Int} (h80 : es.length ≤ 64) : LoopOK Try.prog (loopN Try.prog 86 0) (mkF [(0, .slice (some ⟨0, 0, none⟩) es.length es.length), (1, vI now), (5, vI ((0 : Nat) : Int)), (6, vI ((0 : Nat) : Int))] 20 0) [(0, ⟨48, es.flatMap ejF, 3⟩)] 193 ⟨.exit 0, mkF [(0, .slice (some ⟨0, 0, none⟩) es.length es.length), (5, vI ((ejCount es now : Nat) : Int))] 20 0, [(0, ⟨48, es.flatMap ejF, 3⟩)], 257, []⟩ := by
  refine loop_ind callQ_spec mixed (LF := 10) (F := 100) (nxb := 194) (keys := [0, 1, 5, 6]) (keysE := [0, 5]) es.length (fun x => mkF [(0, .slice (some ⟨0, 0, none⟩) es.length es.length), (1, vI now), (5, vI ((outC es now x : Nat) : Int)), (6, vI ((x : Nat) : Int))] 20 0) (fun _ => [(0, ⟨48, es.flatMap ejF, 3⟩)]) (by decide) (by simp) rfl ?_ ?_ (fun h => by cases h)
  · intro y hy
    have hs := outC_step (now := now) hy
    rcases Bool.eq_false_or_eq_true (decide ((es.getD y default).2.2 > now)) with he | he
    · rw [he] at hs
      rw [hs]
      exact rc_true h80 hy (outC_le es now y) he
    · rw [he] at hs
      rw [hs]
      exact rc_false h80 hy (outC_le es now y) he
  · rw [← outC_all]
    exact rc_end rfl
theorem rcount_r {es : List EjT} {now : Int} (h80 : es.length ≤ 64) : CallOK Try.prog 86 [.slice (some ⟨0, 0, none⟩) es.length es.length, vI now] [(0, ⟨48, es.flatMap ejF, 3⟩)] 1 (vI ((ejCount es now : Nat) : Int)) [(0, ⟨48, es.flatMap ejF, 3⟩)] := by
  exact callOK_keep (call := callQ) [0] callQ_spec mixed (ω := [(194, OV.loop [0, 1, 5, 6] (AX.exit 0) (mkF [(0, Value.slice (some ⟨0, 0, none⟩) es.length es.length), (5, vI (↑(ejCount es now) : Int))] 20 0) [(0, ⟨48, List.flatMap ejF es, 3⟩)] 257)]) (LF := 10) (F := 100) (ps := [LoopOK Try.prog (loopN Try.prog 86 0) (mkF [(0, .slice (some ⟨0, 0, none⟩) es.length es.length), (1, vI now), (5, vI ((0 : Nat) : Int)), (6, vI ((0 : Nat) : Int))] 20 0) [(0, ⟨48, es.flatMap ejF, 3⟩)] 193 ⟨.exit 0, mkF [(0, .slice (some ⟨0, 0, none⟩) es.length es.length), (5, vI ((ejCount es now : Nat) : Int))] 20 0, [(0, ⟨48, es.flatMap ejF, 3⟩)], 257, []⟩]) (by kernel_rfl) (ob_cons (rc_loop h80) ob_nil)

end
section
open Go.RowKit
set_option linter.unusedSimpArgs false
set_option linter.unusedVariables false
set_option linter.unusedSectionVars false
set_option maxRecDepth 100000
variable [Inhabited RawG]
theorem until_eq (cf cb cm cp times now : Int) : until_0 cf cb cm cp times now = runtil_0 cf cb cm cp times now := by
  unfold until_0 runtil_0
  rw [rcheck_eq]
  rcases Bool.eq_false_or_eq_true (check_0 cf cb cm cp != 0) with hc | hc
  · have hm : (may_0 cf cb cm cp now != 0) = true := by unfold may_0; rw [hc]; simpa using hc
    rw [hm, hc]; rfl
  · have hok := check_ne hc
    rw [hc]
    simp only [cond_false]
    by_cases ht : 0 ≤ now ∧ now ≤ 253402300799
    · have hm : (may_0 cf cb cm cp now != 0) = false := by rw [may_of hok ht.1 ht.2]; rfl
      have htm : (!time_0 now) = false := by rw [(time_iff now).2 ht]; rfl
      rw [hm, htm]
      simp only [cond_false]
      by_cases h1 : times < 1
      · rw [show decide (times < 1) = true from decide_eq_true h1]; rfl
      · rw [show decide (times < 1) = false from decide_eq_false h1]
        simp only [cond_false]
        obtain ⟨f1, f2, k1, k2, m1, m2, p1, p2⟩ := hok
        have tb : 0 < times := by omega
        have cb0 : 0 < cb := by omega
        have d1 : cm.tdiv cb = cm / cb := Int.tdiv_eq_ediv_of_nonneg (by omega)
        have d2 : cm.tdiv times = cm / times := Int.tdiv_eq_ediv_of_nonneg (by omega)
        have q1 : 0 ≤ cm / cb := Int.ediv_nonneg (by omega) (by omega)
        have q2 : 0 ≤ cm / times := Int.ediv_nonneg (by omega) (by omega)
        have q3 : cm / cb ≤ cm := Int.ediv_le_self _ (by omega)
        have q4 : cm / times ≤ cm := Int.ediv_le_self _ (by omega)
        rw [d1, d2, w64 (n := cm / cb) (by omega), w64 (n := cm / times) (by omega)]
        have i1 : times ≤ cm / cb ↔ times * cb ≤ cm := Int.le_ediv_iff_mul_le cb0
        have i2 : cb ≤ cm / times ↔ cb * times ≤ cm := Int.le_ediv_iff_mul_le tb
        have i3 : times * cb = cb * times := Int.mul_comm _ _
        by_cases hq : cb * times ≤ cm
        · have hp : 0 ≤ cb * times := Int.mul_nonneg (by omega) (by omega)
          rw [show decide (times ≤ cm / cb) = true from decide_eq_true (by rw [i1]; omega), show decide (cb ≤ cm / times) = true from decide_eq_true (i2.2 hq)]
          simp only [cond_true]
          rw [w64 (n := cb * times) (by omega), behind_eq ht.1 ht.2 hp (by omega)]
        · rw [show decide (times ≤ cm / cb) = false from decide_eq_false (by rw [i1]; omega), show decide (cb ≤ cm / times) = false from decide_eq_false (by rw [i2]; exact hq)]
          simp only [cond_false]
          rw [behind_eq ht.1 ht.2 (by omega) (by omega)]
    · have htm : (!time_0 now) = true := by
        cases h : time_0 now with
        | true => exact absurd ((time_iff now).1 h) ht
        | false => rfl
      have hm : (may_0 cf cb cm cp now != 0) = true := by
        unfold may_0
        rw [hc]
        simp only [cond_false]
        by_cases h : now < 0
        · rw [show decide (now < 0) = true from decide_eq_true h]; rfl
        · rw [show decide (now < 0) = false from decide_eq_false h, show decide (now > 253402300799) = true from decide_eq_true (by omega)]; rfl
      rw [hm, htm]; rfl
theorem may_z {cf cb cm cp now : Int} (h : may_0 cf cb cm cp now = 0) : check_0 cf cb cm cp = 0 ∧ time_0 now = true := by
  have hk := may_ok (by rw [h]; rfl)
  exact ⟨check_of hk.1, (time_iff now).2 hk.2⟩
theorem app_c {es : List EjT} : [] ++ List.take (es.length * 3) (List.drop 0 (es.flatMap ejF)) = es.flatMap ejF := by
  rw [List.nil_append, List.drop_zero, List.take_of_length_le (by rw [flatMap_len ej3]; omega)]
theorem rreport_r {e1 e2 e3 e4 : Int} {es : List EjT} {k : Nat} {now : Int} {well : Bool} (hk : k < es.length) (h80 : es.length ≤ 64) (hm : may_0 e1 e2 e3 e4 now = 0) : CallOK Try.prog 63 [.agg #[vI e1, vI e2, vI e3, vI e4], .slice (some ⟨0, 0, none⟩) es.length es.length, vI (k : Int), .bool well, vI now] [(0, ⟨48, es.flatMap ejF, 3⟩)] 1 (.tuple #[.slice (some ⟨1, 0, none⟩) es.length es.length, vI 0]) [(0, ⟨48, es.flatMap ejF, 3⟩), (1, ⟨48, (es.set k (repE e1 e2 e3 e4 es k well now)).flatMap ejF, 3⟩)] := by
  have k0 : (rcheck_0 e1 e2 e3 e4 == 0) = true := by rw [rcheck_eq, (may_z hm).1]; rfl
  have k1 : (!time_0 now) = false := by rw [(may_z hm).2]; rfl
  have k2 : (decide ((↑k : Int) ≥ (↑es.length : Int))) = false := by simp; omega
  have k3 : (rcheck_0 e1 e2 e3 e4 != 0) = false := by rw [rcheck_eq, (may_z hm).1]; rfl
  rcases Bool.eq_false_or_eq_true (well) with h4 | h4
  · rcases Bool.eq_false_or_eq_true (!decide ((es.getD k default).snd.snd > now)) with h5 | h5
    · have e : repE e1 e2 e3 e4 es k well now = (0, 0, (es.getD k default).snd.snd) := by
        simp only [repE, k0, k1, k2, k3, h4, h5, until_eq, cond_true, cond_false, Bool.and_true, Bool.true_and, Bool.and_false, Bool.false_and, Bool.not_true, Bool.not_false]
      rw [e]
      have hc := callOK_ren (v2 := Value.tuple #[Value.slice (some ⟨1, 0, none⟩) (0 + es.length) (0 + es.length), vI 0]) (H2 := [(0, ⟨48, List.flatMap ejF es, 3⟩), (1, ⟨48, List.flatMap ejF (es.set k (0, 0, (es.getD k default).snd.snd)), 3⟩)]) [1729] (callOK_keep (call := callQ) [0, 1729] callQ_spec mixed (P := Try.prog) (g := 63) (av := [.agg #[vI e1, vI e2, vI e3, vI e4], .slice (some ⟨0, 0, none⟩) es.length es.length, vI (k : Int), .bool well, vI now]) (Hs := [(0, ⟨48, es.flatMap ejF, 3⟩)]) (lo := 1) (ω := [(513, oT), (769, oF), (1409, oF), (1537, oF), (1729, OV.app 4 (some (List.flatMap ejF es))), (1985, OV.idx k), (2049, OV.ld (Value.agg #[vI (es.getD k default).fst, vI (es.getD k default).snd.fst, vI (es.getD k default).snd.snd])), (2241, oT), (2625, OV.call (Value.bool (decide ((es.getD k default).snd.snd > now))) [(0, ⟨48, List.flatMap ejF es, 3⟩)]), (2689, oT), (3073, OV.idx k), (3137, OV.st (some (List.flatMap ejF (es.set k (0, 0, (es.getD k default).snd.snd)))))]) (LF := 10) (F := 100) (v := Value.tuple #[Value.slice (some ⟨1729, 0, none⟩) (0 + es.length) (0 + es.length), vI 0]) (H1 := [(0, ⟨48, List.flatMap ejF es, 3⟩), (1729, ⟨48, List.flatMap ejF (es.set k (0, 0, (es.getD k default).snd.snd)), 3⟩)]) (ps := [(rcheck_0 e1 e2 e3 e4 == 0) = true, (!time_0 now) = false, decide ((↑k : Int) ≥ (↑es.length : Int)) = false, (rcheck_0 e1 e2 e3 e4 != 0) = false, es.length ≠ 0 ∧ ¬0 + es.length ≤ 0 ∧ (0 + es.length) * 24 ≤ 140737488355328 ∧ 0 + es.length ≤ 9223372036854775807 ∧ 0 ≤ 0 ∧ FlatL ([] ++ List.take (es.length * 3) (List.drop 0 (List.flatMap ejF es))), [] ++ List.take (es.length * 3) (List.drop 0 (List.flatMap ejF es)) = List.flatMap ejF es, 0 + es.length * 3 ≤ (List.flatMap ejF es).length, 0 ≤ (↑k : Int) ∧ (↑k : Int) < (↑(0 + es.length) : Int) ∧ (↑k : Int).toNat = k, 0 + k * 3 + 3 ≤ (List.flatMap ejF es).length ∧ List.take 3 (List.drop (0 + k * 3) (List.flatMap ejF es)) = [vI (es.getD k default).fst, vI (es.getD k default).snd.fst, vI (es.getD k default).snd.snd], well = true, CallOK Try.prog 69 [Value.slice (some ⟨0, 0, none⟩) es.length es.length, vI (↑k : Int), vI now] [(0, ⟨48, List.flatMap ejF es, 3⟩)] 1 (Value.bool (decide ((es.getD k default).snd.snd > now))) [(0, ⟨48, List.flatMap ejF es, 3⟩)], (!decide ((es.getD k default).snd.snd > now)) = true, 0 ≤ (↑k : Int) ∧ (↑k : Int) < (↑(0 + es.length) : Int) ∧ (↑k : Int).toNat = k, 0 + k * 3 + 3 ≤ (List.flatMap ejF es).length, splice (List.flatMap ejF es) (0 + k * 3) [vI 0, vI 0, vI (es.getD k default).snd.snd] = List.flatMap ejF (es.set k (0, 0, (es.getD k default).snd.snd))]) (by kernel_rfl) (ob_cons k0 (ob_cons k1 (ob_cons k2 (ob_cons k3 (ob_cons ⟨by omega, by omega, by omega, by omega, by omega, by rw [app_c]; exact flatL_rows ej_one es⟩ (ob_cons app_c (ob_cons (by rw [flatMap_len ej3]; omega) (ob_cons (by omega) (ob_cons ⟨cell_le (c := 0) ej3 hk (by decide), (row_at hk).trans rfl⟩ (ob_cons h4 (ob_cons (rout_r hk) (ob_cons h5 (ob_cons (by omega) (ob_cons (cell_le (c := 0) ej3 hk (by decide)) (ob_cons (splice_set (c := 0) ej3 default hk (by simp) rfl) ob_nil)))))))))))))))) rfl (by kernel_rfl)
      simp only [Nat.zero_add] at hc; exact hc
    · have e : repE e1 e2 e3 e4 es k well now = (0, (es.getD k default).snd.fst, (es.getD k default).snd.snd) := by
        simp only [repE, k0, k1, k2, k3, h4, h5, until_eq, cond_true, cond_false, Bool.and_true, Bool.true_and, Bool.and_false, Bool.false_and, Bool.not_true, Bool.not_false]
      rw [e]
      have hc := callOK_ren (v2 := Value.tuple #[Value.slice (some ⟨1, 0, none⟩) (0 + es.length) (0 + es.length), vI 0]) (H2 := [(0, ⟨48, List.flatMap ejF es, 3⟩), (1, ⟨48, List.flatMap ejF (es.set k (0, (es.getD k default).snd.fst, (es.getD k default).snd.snd)), 3⟩)]) [1729] (callOK_keep (call := callQ) [0, 1729] callQ_spec mixed (P := Try.prog) (g := 63) (av := [.agg #[vI e1, vI e2, vI e3, vI e4], .slice (some ⟨0, 0, none⟩) es.length es.length, vI (k : Int), .bool well, vI now]) (Hs := [(0, ⟨48, es.flatMap ejF, 3⟩)]) (lo := 1) (ω := [(513, oT), (769, oF), (1409, oF), (1537, oF), (1729, OV.app 4 (some (List.flatMap ejF es))), (1985, OV.idx k), (2049, OV.ld (Value.agg #[vI (es.getD k default).fst, vI (es.getD k default).snd.fst, vI (es.getD k default).snd.snd])), (2241, oT), (2625, OV.call (Value.bool (decide ((es.getD k default).snd.snd > now))) [(0, ⟨48, List.flatMap ejF es, 3⟩)]), (2689, oF), (2945, OV.idx k), (3009, OV.st (some (List.flatMap ejF (es.set k (0, (es.getD k default).snd.fst, (es.getD k default).snd.snd)))))]) (LF := 10) (F := 100) (v := Value.tuple #[Value.slice (some ⟨1729, 0, none⟩) (0 + es.length) (0 + es.length), vI 0]) (H1 := [(0, ⟨48, List.flatMap ejF es, 3⟩), (1729, ⟨48, List.flatMap ejF (es.set k (0, (es.getD k default).snd.fst, (es.getD k default).snd.snd)), 3⟩)]) (ps := [(rcheck_0 e1 e2 e3 e4 == 0) = true, (!time_0 now) = false, decide ((↑k : Int) ≥ (↑es.length : Int)) = false, (rcheck_0 e1 e2 e3 e4 != 0) = false, es.length ≠ 0 ∧ ¬0 + es.length ≤ 0 ∧ (0 + es.length) * 24 ≤ 140737488355328 ∧ 0 + es.length ≤ 9223372036854775807 ∧ 0 ≤ 0 ∧ FlatL ([] ++ List.take (es.length * 3) (List.drop 0 (List.flatMap ejF es))), [] ++ List.take (es.length * 3) (List.drop 0 (List.flatMap ejF es)) = List.flatMap ejF es, 0 + es.length * 3 ≤ (List.flatMap ejF es).length, 0 ≤ (↑k : Int) ∧ (↑k : Int) < (↑(0 + es.length) : Int) ∧ (↑k : Int).toNat = k, 0 + k * 3 + 3 ≤ (List.flatMap ejF es).length ∧ List.take 3 (List.drop (0 + k * 3) (List.flatMap ejF es)) = [vI (es.getD k default).fst, vI (es.getD k default).snd.fst, vI (es.getD k default).snd.snd], well = true, CallOK Try.prog 69 [Value.slice (some ⟨0, 0, none⟩) es.length es.length, vI (↑k : Int), vI now] [(0, ⟨48, List.flatMap ejF es, 3⟩)] 1 (Value.bool (decide ((es.getD k default).snd.snd > now))) [(0, ⟨48, List.flatMap ejF es, 3⟩)], (!decide ((es.getD k default).snd.snd > now)) = false, 0 ≤ (↑k : Int) ∧ (↑k : Int) < (↑(0 + es.length) : Int) ∧ (↑k : Int).toNat = k, 0 + k * 3 + 3 ≤ (List.flatMap ejF es).length, splice (List.flatMap ejF es) (0 + k * 3) [vI 0, vI (es.getD k default).snd.fst, vI (es.getD k default).snd.snd] = List.flatMap ejF (es.set k (0, (es.getD k default).snd.fst, (es.getD k default).snd.snd))]) (by kernel_rfl) (ob_cons k0 (ob_cons k1 (ob_cons k2 (ob_cons k3 (ob_cons ⟨by omega, by omega, by omega, by omega, by omega, by rw [app_c]; exact flatL_rows ej_one es⟩ (ob_cons app_c (ob_cons (by rw [flatMap_len ej3]; omega) (ob_cons (by omega) (ob_cons ⟨cell_le (c := 0) ej3 hk (by decide), (row_at hk).trans rfl⟩ (ob_cons h4 (ob_cons (rout_r hk) (ob_cons h5 (ob_cons (by omega) (ob_cons (cell_le (c := 0) ej3 hk (by decide)) (ob_cons (splice_set (c := 0) ej3 default hk (by simp) rfl) ob_nil)))))))))))))))) rfl (by kernel_rfl)
      simp only [Nat.zero_add] at hc; exact hc
  · rcases Bool.eq_false_or_eq_true (decide ((es.getD k default).fst < 1048576)) with h5 | h5
    · rcases Bool.eq_false_or_eq_true (!decide ((es.getD k default).snd.snd > now)) with h6 | h6
      · rcases Bool.eq_false_or_eq_true (decide (IntKind.i64.wrap ((es.getD k default).fst + 1) ≥ e1)) with h7 | h7
        · rcases Bool.eq_false_or_eq_true (decide (IntKind.i64.wrap ((↑(ejCount es now + 1) : Int) * 100) ≤ IntKind.i64.wrap (e4 * (↑es.length : Int)))) with h8 | h8
          · rcases Bool.eq_false_or_eq_true (decide ((es.getD k default).snd.fst < 1048576)) with h9 | h9
            · have e : repE e1 e2 e3 e4 es k well now = (0, IntKind.i64.wrap ((es.getD k default).snd.fst + 1), runtil_0 e1 e2 e3 e4 (IntKind.i64.wrap ((es.getD k default).snd.fst + 1)) now) := by
                simp only [repE, k0, k1, k2, k3, h4, h5, h6, h7, h8, h9, until_eq, cond_true, cond_false, Bool.and_true, Bool.true_and, Bool.and_false, Bool.false_and, Bool.not_true, Bool.not_false]
              rw [e]
              have hc := callOK_ren (v2 := Value.tuple #[Value.slice (some ⟨1, 0, none⟩) (0 + es.length) (0 + es.length), vI 0]) (H2 := [(0, ⟨48, List.flatMap ejF es, 3⟩), (1, ⟨48, List.flatMap ejF (es.set k (0, IntKind.i64.wrap ((es.getD k default).snd.fst + 1), runtil_0 e1 e2 e3 e4 (IntKind.i64.wrap ((es.getD k default).snd.fst + 1)) now)), 3⟩)]) [1729] (callOK_keep (call := callQ) [0, 1729] callQ_spec mixed (P := Try.prog) (g := 63) (av := [.agg #[vI e1, vI e2, vI e3, vI e4], .slice (some ⟨0, 0, none⟩) es.length es.length, vI (k : Int), .bool well, vI now]) (Hs := [(0, ⟨48, es.flatMap ejF, 3⟩)]) (lo := 1) (ω := [(513, oT), (769, oF), (1409, oF), (1537, oF), (1729, OV.app 4 (some (List.flatMap ejF es))), (1985, OV.idx k), (2049, OV.ld (Value.agg #[vI (es.getD k default).fst, vI (es.getD k default).snd.fst, vI (es.getD k default).snd.snd])), (2241, oF), (2433, oT), (3009, OV.call (Value.bool (decide ((es.getD k default).snd.snd > now))) [(0, ⟨48, List.flatMap ejF es, 3⟩)]), (3137, oT), (3585, oT), (3777, OV.call (vI (↑(ejCount es now) : Int)) [(0, ⟨48, List.flatMap ejF es, 3⟩)]), (3841, OV.soft (vI (↑(ejCount es now + 1) : Int))), (4353, oT), (4545, oT), (5697, OV.idx k), (5761, OV.st (some (List.flatMap ejF (es.set k (0, IntKind.i64.wrap ((es.getD k default).snd.fst + 1), runtil_0 e1 e2 e3 e4 (IntKind.i64.wrap ((es.getD k default).snd.fst + 1)) now)))))]) (LF := 10) (F := 100) (v := Value.tuple #[Value.slice (some ⟨1729, 0, none⟩) (0 + es.length) (0 + es.length), vI 0]) (H1 := [(0, ⟨48, List.flatMap ejF es, 3⟩), (1729, ⟨48, List.flatMap ejF (es.set k (0, IntKind.i64.wrap ((es.getD k default).snd.fst + 1), runtil_0 e1 e2 e3 e4 (IntKind.i64.wrap ((es.getD k default).snd.fst + 1)) now)), 3⟩)]) (ps := [(rcheck_0 e1 e2 e3 e4 == 0) = true, (!time_0 now) = false, decide ((↑k : Int) ≥ (↑es.length : Int)) = false, (rcheck_0 e1 e2 e3 e4 != 0) = false, es.length ≠ 0 ∧ ¬0 + es.length ≤ 0 ∧ (0 + es.length) * 24 ≤ 140737488355328 ∧ 0 + es.length ≤ 9223372036854775807 ∧ 0 ≤ 0 ∧ FlatL ([] ++ List.take (es.length * 3) (List.drop 0 (List.flatMap ejF es))), [] ++ List.take (es.length * 3) (List.drop 0 (List.flatMap ejF es)) = List.flatMap ejF es, 0 + es.length * 3 ≤ (List.flatMap ejF es).length, 0 ≤ (↑k : Int) ∧ (↑k : Int) < (↑(0 + es.length) : Int) ∧ (↑k : Int).toNat = k, 0 + k * 3 + 3 ≤ (List.flatMap ejF es).length ∧ List.take 3 (List.drop (0 + k * 3) (List.flatMap ejF es)) = [vI (es.getD k default).fst, vI (es.getD k default).snd.fst, vI (es.getD k default).snd.snd], well = false, decide ((es.getD k default).fst < 1048576) = true, CallOK Try.prog 69 [Value.slice (some ⟨0, 0, none⟩) es.length es.length, vI (↑k : Int), vI now] [(0, ⟨48, List.flatMap ejF es, 3⟩)] 1 (Value.bool (decide ((es.getD k default).snd.snd > now))) [(0, ⟨48, List.flatMap ejF es, 3⟩)], (!decide ((es.getD k default).snd.snd > now)) = true, decide (IntKind.i64.wrap ((es.getD k default).fst + 1) ≥ e1) = true, CallOK Try.prog 86 [Value.slice (some ⟨0, 0, none⟩) es.length es.length, vI now] [(0, ⟨48, List.flatMap ejF es, 3⟩)] 1 (vI (↑(ejCount es now) : Int)) [(0, ⟨48, List.flatMap ejF es, 3⟩)], IntKind.i64.wrap ((↑(ejCount es now) : Int) + 1) = (↑(ejCount es now + 1) : Int), decide (IntKind.i64.wrap ((↑(ejCount es now + 1) : Int) * 100) ≤ IntKind.i64.wrap (e4 * (↑es.length : Int))) = true, decide ((es.getD k default).snd.fst < 1048576) = true, 0 ≤ (↑k : Int) ∧ (↑k : Int) < (↑(0 + es.length) : Int) ∧ (↑k : Int).toNat = k, 0 + k * 3 + 3 ≤ (List.flatMap ejF es).length, splice (List.flatMap ejF es) (0 + k * 3) [vI 0, vI (IntKind.i64.wrap ((es.getD k default).snd.fst + 1)), vI (runtil_0 e1 e2 e3 e4 (IntKind.i64.wrap ((es.getD k default).snd.fst + 1)) now)] = List.flatMap ejF (es.set k (0, IntKind.i64.wrap ((es.getD k default).snd.fst + 1), runtil_0 e1 e2 e3 e4 (IntKind.i64.wrap ((es.getD k default).snd.fst + 1)) now))]) (by kernel_rfl) (ob_cons k0 (ob_cons k1 (ob_cons k2 (ob_cons k3 (ob_cons ⟨by omega, by omega, by omega, by omega, by omega, by rw [app_c]; exact flatL_rows ej_one es⟩ (ob_cons app_c (ob_cons (by rw [flatMap_len ej3]; omega) (ob_cons (by omega) (ob_cons ⟨cell_le (c := 0) ej3 hk (by decide), (row_at hk).trans rfl⟩ (ob_cons h4 (ob_cons h5 (ob_cons (rout_r hk) (ob_cons h6 (ob_cons h7 (ob_cons (rcount_r h80) (ob_cons (up1 (by have := ejCount_le es now; omega)) (ob_cons h8 (ob_cons h9 (ob_cons (by omega) (ob_cons (cell_le (c := 0) ej3 hk (by decide)) (ob_cons (splice_set (c := 0) ej3 default hk (by simp) rfl) ob_nil)))))))))))))))))))))) rfl (by kernel_rfl)
              simp only [Nat.zero_add] at hc; exact hc
            · have e : repE e1 e2 e3 e4 es k well now = (0, (es.getD k default).snd.fst, runtil_0 e1 e2 e3 e4 (es.getD k default).snd.fst now) := by
                simp only [repE, k0, k1, k2, k3, h4, h5, h6, h7, h8, h9, until_eq, cond_true, cond_false, Bool.and_true, Bool.true_and, Bool.and_false, Bool.false_and, Bool.not_true, Bool.not_false]
              rw [e]
              have hc := callOK_ren (v2 := Value.tuple #[Value.slice (some ⟨1, 0, none⟩) (0 + es.length) (0 + es.length), vI 0]) (H2 := [(0, ⟨48, List.flatMap ejF es, 3⟩), (1, ⟨48, List.flatMap ejF (es.set k (0, (es.getD k default).snd.fst, runtil_0 e1 e2 e3 e4 (es.getD k default).snd.fst now)), 3⟩)]) [1729] (callOK_keep (call := callQ) [0, 1729] callQ_spec mixed (P := Try.prog) (g := 63) (av := [.agg #[vI e1, vI e2, vI e3, vI e4], .slice (some ⟨0, 0, none⟩) es.length es.length, vI (k : Int), .bool well, vI now]) (Hs := [(0, ⟨48, es.flatMap ejF, 3⟩)]) (lo := 1) (ω := [(513, oT), (769, oF), (1409, oF), (1537, oF), (1729, OV.app 4 (some (List.flatMap ejF es))), (1985, OV.idx k), (2049, OV.ld (Value.agg #[vI (es.getD k default).fst, vI (es.getD k default).snd.fst, vI (es.getD k default).snd.snd])), (2241, oF), (2433, oT), (3009, OV.call (Value.bool (decide ((es.getD k default).snd.snd > now))) [(0, ⟨48, List.flatMap ejF es, 3⟩)]), (3137, oT), (3585, oT), (3777, OV.call (vI (↑(ejCount es now) : Int)) [(0, ⟨48, List.flatMap ejF es, 3⟩)]), (3841, OV.soft (vI (↑(ejCount es now + 1) : Int))), (4353, oT), (4545, oF), (5377, OV.idx k), (5441, OV.st (some (List.flatMap ejF (es.set k (0, (es.getD k default).snd.fst, runtil_0 e1 e2 e3 e4 (es.getD k default).snd.fst now)))))]) (LF := 10) (F := 100) (v := Value.tuple #[Value.slice (some ⟨1729, 0, none⟩) (0 + es.length) (0 + es.length), vI 0]) (H1 := [(0, ⟨48, List.flatMap ejF es, 3⟩), (1729, ⟨48, List.flatMap ejF (es.set k (0, (es.getD k default).snd.fst, runtil_0 e1 e2 e3 e4 (es.getD k default).snd.fst now)), 3⟩)]) (ps := [(rcheck_0 e1 e2 e3 e4 == 0) = true, (!time_0 now) = false, decide ((↑k : Int) ≥ (↑es.length : Int)) = false, (rcheck_0 e1 e2 e3 e4 != 0) = false, es.length ≠ 0 ∧ ¬0 + es.length ≤ 0 ∧ (0 + es.length) * 24 ≤ 140737488355328 ∧ 0 + es.length ≤ 9223372036854775807 ∧ 0 ≤ 0 ∧ FlatL ([] ++ List.take (es.length * 3) (List.drop 0 (List.flatMap ejF es))), [] ++ List.take (es.length * 3) (List.drop 0 (List.flatMap ejF es)) = List.flatMap ejF es, 0 + es.length * 3 ≤ (List.flatMap ejF es).length, 0 ≤ (↑k : Int) ∧ (↑k : Int) < (↑(0 + es.length) : Int) ∧ (↑k : Int).toNat = k, 0 + k * 3 + 3 ≤ (List.flatMap ejF es).length ∧ List.take 3 (List.drop (0 + k * 3) (List.flatMap ejF es)) = [vI (es.getD k default).fst, vI (es.getD k default).snd.fst, vI (es.getD k default).snd.snd], well = false, decide ((es.getD k default).fst < 1048576) = true, CallOK Try.prog 69 [Value.slice (some ⟨0, 0, none⟩) es.length es.length, vI (↑k : Int), vI now] [(0, ⟨48, List.flatMap ejF es, 3⟩)] 1 (Value.bool (decide ((es.getD k default).snd.snd > now))) [(0, ⟨48, List.flatMap ejF es, 3⟩)], (!decide ((es.getD k default).snd.snd > now)) = true, decide (IntKind.i64.wrap ((es.getD k default).fst + 1) ≥ e1) = true, CallOK Try.prog 86 [Value.slice (some ⟨0, 0, none⟩) es.length es.length, vI now] [(0, ⟨48, List.flatMap ejF es, 3⟩)] 1 (vI (↑(ejCount es now) : Int)) [(0, ⟨48, List.flatMap ejF es, 3⟩)], IntKind.i64.wrap ((↑(ejCount es now) : Int) + 1) = (↑(ejCount es now + 1) : Int), decide (IntKind.i64.wrap ((↑(ejCount es now + 1) : Int) * 100) ≤ IntKind.i64.wrap (e4 * (↑es.length : Int))) = true, decide ((es.getD k default).snd.fst < 1048576) = false, 0 ≤ (↑k : Int) ∧ (↑k : Int) < (↑(0 + es.length) : Int) ∧ (↑k : Int).toNat = k, 0 + k * 3 + 3 ≤ (List.flatMap ejF es).length, splice (List.flatMap ejF es) (0 + k * 3) [vI 0, vI (es.getD k default).snd.fst, vI (runtil_0 e1 e2 e3 e4 (es.getD k default).snd.fst now)] = List.flatMap ejF (es.set k (0, (es.getD k default).snd.fst, runtil_0 e1 e2 e3 e4 (es.getD k default).snd.fst now))]) (by kernel_rfl) (ob_cons k0 (ob_cons k1 (ob_cons k2 (ob_cons k3 (ob_cons ⟨by omega, by omega, by omega, by omega, by omega, by rw [app_c]; exact flatL_rows ej_one es⟩ (ob_cons app_c (ob_cons (by rw [flatMap_len ej3]; omega) (ob_cons (by omega) (ob_cons ⟨cell_le (c := 0) ej3 hk (by decide), (row_at hk).trans rfl⟩ (ob_cons h4 (ob_cons h5 (ob_cons (rout_r hk) (ob_cons h6 (ob_cons h7 (ob_cons (rcount_r h80) (ob_cons (up1 (by have := ejCount_le es now; omega)) (ob_cons h8 (ob_cons h9 (ob_cons (by omega) (ob_cons (cell_le (c := 0) ej3 hk (by decide)) (ob_cons (splice_set (c := 0) ej3 default hk (by simp) rfl) ob_nil)))))))))))))))))))))) rfl (by kernel_rfl)
              simp only [Nat.zero_add] at hc; exact hc
          · have e : repE e1 e2 e3 e4 es k well now = (IntKind.i64.wrap ((es.getD k default).fst + 1), (es.getD k default).snd.fst, (es.getD k default).snd.snd) := by
              simp only [repE, k0, k1, k2, k3, h4, h5, h6, h7, h8, until_eq, cond_true, cond_false, Bool.and_true, Bool.true_and, Bool.and_false, Bool.false_and, Bool.not_true, Bool.not_false]
            rw [e]
            have hc := callOK_ren (v2 := Value.tuple #[Value.slice (some ⟨1, 0, none⟩) (0 + es.length) (0 + es.length), vI 0]) (H2 := [(0, ⟨48, List.flatMap ejF es, 3⟩), (1, ⟨48, List.flatMap ejF (es.set k (IntKind.i64.wrap ((es.getD k default).fst + 1), (es.getD k default).snd.fst, (es.getD k default).snd.snd)), 3⟩)]) [1729] (callOK_keep (call := callQ) [0, 1729] callQ_spec mixed (P := Try.prog) (g := 63) (av := [.agg #[vI e1, vI e2, vI e3, vI e4], .slice (some ⟨0, 0, none⟩) es.length es.length, vI (k : Int), .bool well, vI now]) (Hs := [(0, ⟨48, es.flatMap ejF, 3⟩)]) (lo := 1) (ω := [(513, oT), (769, oF), (1409, oF), (1537, oF), (1729, OV.app 4 (some (List.flatMap ejF es))), (1985, OV.idx k), (2049, OV.ld (Value.agg #[vI (es.getD k default).fst, vI (es.getD k default).snd.fst, vI (es.getD k default).snd.snd])), (2241, oF), (2433, oT), (3009, OV.call (Value.bool (decide ((es.getD k default).snd.snd > now))) [(0, ⟨48, List.flatMap ejF es, 3⟩)]), (3137, oT), (3585, oT), (3777, OV.call (vI (↑(ejCount es now) : Int)) [(0, ⟨48, List.flatMap ejF es, 3⟩)]), (3841, OV.soft (vI (↑(ejCount es now + 1) : Int))), (4353, oF), (4609, OV.idx k), (4673, OV.st (some (List.flatMap ejF (es.set k (IntKind.i64.wrap ((es.getD k default).fst + 1), (es.getD k default).snd.fst, (es.getD k default).snd.snd)))))]) (LF := 10) (F := 100) (v := Value.tuple #[Value.slice (some ⟨1729, 0, none⟩) (0 + es.length) (0 + es.length), vI 0]) (H1 := [(0, ⟨48, List.flatMap ejF es, 3⟩), (1729, ⟨48, List.flatMap ejF (es.set k (IntKind.i64.wrap ((es.getD k default).fst + 1), (es.getD k default).snd.fst, (es.getD k default).snd.snd)), 3⟩)]) (ps := [(rcheck_0 e1 e2 e3 e4 == 0) = true, (!time_0 now) = false, decide ((↑k : Int) ≥ (↑es.length : Int)) = false, (rcheck_0 e1 e2 e3 e4 != 0) = false, es.length ≠ 0 ∧ ¬0 + es.length ≤ 0 ∧ (0 + es.length) * 24 ≤ 140737488355328 ∧ 0 + es.length ≤ 9223372036854775807 ∧ 0 ≤ 0 ∧ FlatL ([] ++ List.take (es.length * 3) (List.drop 0 (List.flatMap ejF es))), [] ++ List.take (es.length * 3) (List.drop 0 (List.flatMap ejF es)) = List.flatMap ejF es, 0 + es.length * 3 ≤ (List.flatMap ejF es).length, 0 ≤ (↑k : Int) ∧ (↑k : Int) < (↑(0 + es.length) : Int) ∧ (↑k : Int).toNat = k, 0 + k * 3 + 3 ≤ (List.flatMap ejF es).length ∧ List.take 3 (List.drop (0 + k * 3) (List.flatMap ejF es)) = [vI (es.getD k default).fst, vI (es.getD k default).snd.fst, vI (es.getD k default).snd.snd], well = false, decide ((es.getD k default).fst < 1048576) = true, CallOK Try.prog 69 [Value.slice (some ⟨0, 0, none⟩) es.length es.length, vI (↑k : Int), vI now] [(0, ⟨48, List.flatMap ejF es, 3⟩)] 1 (Value.bool (decide ((es.getD k default).snd.snd > now))) [(0, ⟨48, List.flatMap ejF es, 3⟩)], (!decide ((es.getD k default).snd.snd > now)) = true, decide (IntKind.i64.wrap ((es.getD k default).fst + 1) ≥ e1) = true, CallOK Try.prog 86 [Value.slice (some ⟨0, 0, none⟩) es.length es.length, vI now] [(0, ⟨48, List.flatMap ejF es, 3⟩)] 1 (vI (↑(ejCount es now) : Int)) [(0, ⟨48, List.flatMap ejF es, 3⟩)], IntKind.i64.wrap ((↑(ejCount es now) : Int) + 1) = (↑(ejCount es now + 1) : Int), decide (IntKind.i64.wrap ((↑(ejCount es now + 1) : Int) * 100) ≤ IntKind.i64.wrap (e4 * (↑es.length : Int))) = false, 0 ≤ (↑k : Int) ∧ (↑k : Int) < (↑(0 + es.length) : Int) ∧ (↑k : Int).toNat = k, 0 + k * 3 + 3 ≤ (List.flatMap ejF es).length, splice (List.flatMap ejF es) (0 + k * 3) [vI (IntKind.i64.wrap ((es.getD k default).fst + 1)), vI (es.getD k default).snd.fst, vI (es.getD k default).snd.snd] = List.flatMap ejF (es.set k (IntKind.i64.wrap ((es.getD k default).fst + 1), (es.getD k default).snd.fst, (es.getD k default).snd.snd))]) (by kernel_rfl) (ob_cons k0 (ob_cons k1 (ob_cons k2 (ob_cons k3 (ob_cons ⟨by omega, by omega, by omega, by omega, by omega, by rw [app_c]; exact flatL_rows ej_one es⟩ (ob_cons app_c (ob_cons (by rw [flatMap_len ej3]; omega) (ob_cons (by omega) (ob_cons ⟨cell_le (c := 0) ej3 hk (by decide), (row_at hk).trans rfl⟩ (ob_cons h4 (ob_cons h5 (ob_cons (rout_r hk) (ob_cons h6 (ob_cons h7 (ob_cons (rcount_r h80) (ob_cons (up1 (by have := ejCount_le es now; omega)) (ob_cons h8 (ob_cons (by omega) (ob_cons (cell_le (c := 0) ej3 hk (by decide)) (ob_cons (splice_set (c := 0) ej3 default hk (by simp) rfl) ob_nil))))))))))))))))))))) rfl (by kernel_rfl)
            simp only [Nat.zero_add] at hc; exact hc
        · have e : repE e1 e2 e3 e4 es k well now = (IntKind.i64.wrap ((es.getD k default).fst + 1), (es.getD k default).snd.fst, (es.getD k default).snd.snd) := by
            simp only [repE, k0, k1, k2, k3, h4, h5, h6, h7, until_eq, cond_true, cond_false, Bool.and_true, Bool.true_and, Bool.and_false, Bool.false_and, Bool.not_true, Bool.not_false]
          rw [e]
          have hc := callOK_ren (v2 := Value.tuple #[Value.slice (some ⟨1, 0, none⟩) (0 + es.length) (0 + es.length), vI 0]) (H2 := [(0, ⟨48, List.flatMap ejF es, 3⟩), (1, ⟨48, List.flatMap ejF (es.set k (IntKind.i64.wrap ((es.getD k default).fst + 1), (es.getD k default).snd.fst, (es.getD k default).snd.snd)), 3⟩)]) [1729] (callOK_keep (call := callQ) [0, 1729] callQ_spec mixed (P := Try.prog) (g := 63) (av := [.agg #[vI e1, vI e2, vI e3, vI e4], .slice (some ⟨0, 0, none⟩) es.length es.length, vI (k : Int), .bool well, vI now]) (Hs := [(0, ⟨48, es.flatMap ejF, 3⟩)]) (lo := 1) (ω := [(513, oT), (769, oF), (1409, oF), (1537, oF), (1729, OV.app 4 (some (List.flatMap ejF es))), (1985, OV.idx k), (2049, OV.ld (Value.agg #[vI (es.getD k default).fst, vI (es.getD k default).snd.fst, vI (es.getD k default).snd.snd])), (2241, oF), (2433, oT), (3009, OV.call (Value.bool (decide ((es.getD k default).snd.snd > now))) [(0, ⟨48, List.flatMap ejF es, 3⟩)]), (3137, oT), (3585, oF), (4609, OV.idx k), (4673, OV.st (some (List.flatMap ejF (es.set k (IntKind.i64.wrap ((es.getD k default).fst + 1), (es.getD k default).snd.fst, (es.getD k default).snd.snd)))))]) (LF := 10) (F := 100) (v := Value.tuple #[Value.slice (some ⟨1729, 0, none⟩) (0 + es.length) (0 + es.length), vI 0]) (H1 := [(0, ⟨48, List.flatMap ejF es, 3⟩), (1729, ⟨48, List.flatMap ejF (es.set k (IntKind.i64.wrap ((es.getD k default).fst + 1), (es.getD k default).snd.fst, (es.getD k default).snd.snd)), 3⟩)]) (ps := [(rcheck_0 e1 e2 e3 e4 == 0) = true, (!time_0 now) = false, decide ((↑k : Int) ≥ (↑es.length : Int)) = false, (rcheck_0 e1 e2 e3 e4 != 0) = false, es.length ≠ 0 ∧ ¬0 + es.length ≤ 0 ∧ (0 + es.length) * 24 ≤ 140737488355328 ∧ 0 + es.length ≤ 9223372036854775807 ∧ 0 ≤ 0 ∧ FlatL ([] ++ List.take (es.length * 3) (List.drop 0 (List.flatMap ejF es))), [] ++ List.take (es.length * 3) (List.drop 0 (List.flatMap ejF es)) = List.flatMap ejF es, 0 + es.length * 3 ≤ (List.flatMap ejF es).length, 0 ≤ (↑k : Int) ∧ (↑k : Int) < (↑(0 + es.length) : Int) ∧ (↑k : Int).toNat = k, 0 + k * 3 + 3 ≤ (List.flatMap ejF es).length ∧ List.take 3 (List.drop (0 + k * 3) (List.flatMap ejF es)) = [vI (es.getD k default).fst, vI (es.getD k default).snd.fst, vI (es.getD k default).snd.snd], well = false, decide ((es.getD k default).fst < 1048576) = true, CallOK Try.prog 69 [Value.slice (some ⟨0, 0, none⟩) es.length es.length, vI (↑k : Int), vI now] [(0, ⟨48, List.flatMap ejF es, 3⟩)] 1 (Value.bool (decide ((es.getD k default).snd.snd > now))) [(0, ⟨48, List.flatMap ejF es, 3⟩)], (!decide ((es.getD k default).snd.snd > now)) = true, decide (IntKind.i64.wrap ((es.getD k default).fst + 1) ≥ e1) = false, 0 ≤ (↑k : Int) ∧ (↑k : Int) < (↑(0 + es.length) : Int) ∧ (↑k : Int).toNat = k, 0 + k * 3 + 3 ≤ (List.flatMap ejF es).length, splice (List.flatMap ejF es) (0 + k * 3) [vI (IntKind.i64.wrap ((es.getD k default).fst + 1)), vI (es.getD k default).snd.fst, vI (es.getD k default).snd.snd] = List.flatMap ejF (es.set k (IntKind.i64.wrap ((es.getD k default).fst + 1), (es.getD k default).snd.fst, (es.getD k default).snd.snd))]) (by kernel_rfl) (ob_cons k0 (ob_cons k1 (ob_cons k2 (ob_cons k3 (ob_cons ⟨by omega, by omega, by omega, by omega, by omega, by rw [app_c]; exact flatL_rows ej_one es⟩ (ob_cons app_c (ob_cons (by rw [flatMap_len ej3]; omega) (ob_cons (by omega) (ob_cons ⟨cell_le (c := 0) ej3 hk (by decide), (row_at hk).trans rfl⟩ (ob_cons h4 (ob_cons h5 (ob_cons (rout_r hk) (ob_cons h6 (ob_cons h7 (ob_cons (by omega) (ob_cons (cell_le (c := 0) ej3 hk (by decide)) (ob_cons (splice_set (c := 0) ej3 default hk (by simp) rfl) ob_nil)))))))))))))))))) rfl (by kernel_rfl)
          simp only [Nat.zero_add] at hc; exact hc
      · have e : repE e1 e2 e3 e4 es k well now = (IntKind.i64.wrap ((es.getD k default).fst + 1), (es.getD k default).snd.fst, (es.getD k default).snd.snd) := by
          simp only [repE, k0, k1, k2, k3, h4, h5, h6, until_eq, cond_true, cond_false, Bool.and_true, Bool.true_and, Bool.and_false, Bool.false_and, Bool.not_true, Bool.not_false]
        rw [e]
        have hc := callOK_ren (v2 := Value.tuple #[Value.slice (some ⟨1, 0, none⟩) (0 + es.length) (0 + es.length), vI 0]) (H2 := [(0, ⟨48, List.flatMap ejF es, 3⟩), (1, ⟨48, List.flatMap ejF (es.set k (IntKind.i64.wrap ((es.getD k default).fst + 1), (es.getD k default).snd.fst, (es.getD k default).snd.snd)), 3⟩)]) [1729] (callOK_keep (call := callQ) [0, 1729] callQ_spec mixed (P := Try.prog) (g := 63) (av := [.agg #[vI e1, vI e2, vI e3, vI e4], .slice (some ⟨0, 0, none⟩) es.length es.length, vI (k : Int), .bool well, vI now]) (Hs := [(0, ⟨48, es.flatMap ejF, 3⟩)]) (lo := 1) (ω := [(513, oT), (769, oF), (1409, oF), (1537, oF), (1729, OV.app 4 (some (List.flatMap ejF es))), (1985, OV.idx k), (2049, OV.ld (Value.agg #[vI (es.getD k default).fst, vI (es.getD k default).snd.fst, vI (es.getD k default).snd.snd])), (2241, oF), (2433, oT), (3009, OV.call (Value.bool (decide ((es.getD k default).snd.snd > now))) [(0, ⟨48, List.flatMap ejF es, 3⟩)]), (3137, oF), (4609, OV.idx k), (4673, OV.st (some (List.flatMap ejF (es.set k (IntKind.i64.wrap ((es.getD k default).fst + 1), (es.getD k default).snd.fst, (es.getD k default).snd.snd)))))]) (LF := 10) (F := 100) (v := Value.tuple #[Value.slice (some ⟨1729, 0, none⟩) (0 + es.length) (0 + es.length), vI 0]) (H1 := [(0, ⟨48, List.flatMap ejF es, 3⟩), (1729, ⟨48, List.flatMap ejF (es.set k (IntKind.i64.wrap ((es.getD k default).fst + 1), (es.getD k default).snd.fst, (es.getD k default).snd.snd)), 3⟩)]) (ps := [(rcheck_0 e1 e2 e3 e4 == 0) = true, (!time_0 now) = false, decide ((↑k : Int) ≥ (↑es.length : Int)) = false, (rcheck_0 e1 e2 e3 e4 != 0) = false, es.length ≠ 0 ∧ ¬0 + es.length ≤ 0 ∧ (0 + es.length) * 24 ≤ 140737488355328 ∧ 0 + es.length ≤ 9223372036854775807 ∧ 0 ≤ 0 ∧ FlatL ([] ++ List.take (es.length * 3) (List.drop 0 (List.flatMap ejF es))), [] ++ List.take (es.length * 3) (List.drop 0 (List.flatMap ejF es)) = List.flatMap ejF es, 0 + es.length * 3 ≤ (List.flatMap ejF es).length, 0 ≤ (↑k : Int) ∧ (↑k : Int) < (↑(0 + es.length) : Int) ∧ (↑k : Int).toNat = k, 0 + k * 3 + 3 ≤ (List.flatMap ejF es).length ∧ List.take 3 (List.drop (0 + k * 3) (List.flatMap ejF es)) = [vI (es.getD k default).fst, vI (es.getD k default).snd.fst, vI (es.getD k default).snd.snd], well = false, decide ((es.getD k default).fst < 1048576) = true, CallOK Try.prog 69 [Value.slice (some ⟨0, 0, none⟩) es.length es.length, vI (↑k : Int), vI now] [(0, ⟨48, List.flatMap ejF es, 3⟩)] 1 (Value.bool (decide ((es.getD k default).snd.snd > now))) [(0, ⟨48, List.flatMap ejF es, 3⟩)], (!decide ((es.getD k default).snd.snd > now)) = false, 0 ≤ (↑k : Int) ∧ (↑k : Int) < (↑(0 + es.length) : Int) ∧ (↑k : Int).toNat = k, 0 + k * 3 + 3 ≤ (List.flatMap ejF es).length, splice (List.flatMap ejF es) (0 + k * 3) [vI (IntKind.i64.wrap ((es.getD k default).fst + 1)), vI (es.getD k default).snd.fst, vI (es.getD k default).snd.snd] = List.flatMap ejF (es.set k (IntKind.i64.wrap ((es.getD k default).fst + 1), (es.getD k default).snd.fst, (es.getD k default).snd.snd))]) (by kernel_rfl) (ob_cons k0 (ob_cons k1 (ob_cons k2 (ob_cons k3 (ob_cons ⟨by omega, by omega, by omega, by omega, by omega, by rw [app_c]; exact flatL_rows ej_one es⟩ (ob_cons app_c (ob_cons (by rw [flatMap_len ej3]; omega) (ob_cons (by omega) (ob_cons ⟨cell_le (c := 0) ej3 hk (by decide), (row_at hk).trans rfl⟩ (ob_cons h4 (ob_cons h5 (ob_cons (rout_r hk) (ob_cons h6 (ob_cons (by omega) (ob_cons (cell_le (c := 0) ej3 hk (by decide)) (ob_cons (splice_set (c := 0) ej3 default hk (by simp) rfl) ob_nil))))))))))))))))) rfl (by kernel_rfl)
        simp only [Nat.zero_add] at hc; exact hc
    · rcases Bool.eq_false_or_eq_true (!decide ((es.getD k default).snd.snd > now)) with h6 | h6
      · rcases Bool.eq_false_or_eq_true (decide ((es.getD k default).fst ≥ e1)) with h7 | h7
        · rcases Bool.eq_false_or_eq_true (decide (IntKind.i64.wrap ((↑(ejCount es now + 1) : Int) * 100) ≤ IntKind.i64.wrap (e4 * (↑es.length : Int)))) with h8 | h8
          · rcases Bool.eq_false_or_eq_true (decide ((es.getD k default).snd.fst < 1048576)) with h9 | h9
            · have e : repE e1 e2 e3 e4 es k well now = (0, IntKind.i64.wrap ((es.getD k default).snd.fst + 1), runtil_0 e1 e2 e3 e4 (IntKind.i64.wrap ((es.getD k default).snd.fst + 1)) now) := by
                simp only [repE, k0, k1, k2, k3, h4, h5, h6, h7, h8, h9, until_eq, cond_true, cond_false, Bool.and_true, Bool.true_and, Bool.and_false, Bool.false_and, Bool.not_true, Bool.not_false]
              rw [e]
              have hc := callOK_ren (v2 := Value.tuple #[Value.slice (some ⟨1, 0, none⟩) (0 + es.length) (0 + es.length), vI 0]) (H2 := [(0, ⟨48, List.flatMap ejF es, 3⟩), (1, ⟨48, List.flatMap ejF (es.set k (0, IntKind.i64.wrap ((es.getD k default).snd.fst + 1), runtil_0 e1 e2 e3 e4 (IntKind.i64.wrap ((es.getD k default).snd.fst + 1)) now)), 3⟩)]) [1729] (callOK_keep (call := callQ) [0, 1729] callQ_spec mixed (P := Try.prog) (g := 63) (av := [.agg #[vI e1, vI e2, vI e3, vI e4], .slice (some ⟨0, 0, none⟩) es.length es.length, vI (k : Int), .bool well, vI now]) (Hs := [(0, ⟨48, es.flatMap ejF, 3⟩)]) (lo := 1) (ω := [(513, oT), (769, oF), (1409, oF), (1537, oF), (1729, OV.app 4 (some (List.flatMap ejF es))), (1985, OV.idx k), (2049, OV.ld (Value.agg #[vI (es.getD k default).fst, vI (es.getD k default).snd.fst, vI (es.getD k default).snd.snd])), (2241, oF), (2433, oF), (2689, OV.call (Value.bool (decide ((es.getD k default).snd.snd > now))) [(0, ⟨48, List.flatMap ejF es, 3⟩)]), (2817, oT), (3265, oT), (3457, OV.call (vI (↑(ejCount es now) : Int)) [(0, ⟨48, List.flatMap ejF es, 3⟩)]), (3521, OV.soft (vI (↑(ejCount es now + 1) : Int))), (4033, oT), (4225, oT), (5377, OV.idx k), (5441, OV.st (some (List.flatMap ejF (es.set k (0, IntKind.i64.wrap ((es.getD k default).snd.fst + 1), runtil_0 e1 e2 e3 e4 (IntKind.i64.wrap ((es.getD k default).snd.fst + 1)) now)))))]) (LF := 10) (F := 100) (v := Value.tuple #[Value.slice (some ⟨1729, 0, none⟩) (0 + es.length) (0 + es.length), vI 0]) (H1 := [(0, ⟨48, List.flatMap ejF es, 3⟩), (1729, ⟨48, List.flatMap ejF (es.set k (0, IntKind.i64.wrap ((es.getD k default).snd.fst + 1), runtil_0 e1 e2 e3 e4 (IntKind.i64.wrap ((es.getD k default).snd.fst + 1)) now)), 3⟩)]) (ps := [(rcheck_0 e1 e2 e3 e4 == 0) = true, (!time_0 now) = false, decide ((↑k : Int) ≥ (↑es.length : Int)) = false, (rcheck_0 e1 e2 e3 e4 != 0) = false, es.length ≠ 0 ∧ ¬0 + es.length ≤ 0 ∧ (0 + es.length) * 24 ≤ 140737488355328 ∧ 0 + es.length ≤ 9223372036854775807 ∧ 0 ≤ 0 ∧ FlatL ([] ++ List.take (es.length * 3) (List.drop 0 (List.flatMap ejF es))), [] ++ List.take (es.length * 3) (List.drop 0 (List.flatMap ejF es)) = List.flatMap ejF es, 0 + es.length * 3 ≤ (List.flatMap ejF es).length, 0 ≤ (↑k : Int) ∧ (↑k : Int) < (↑(0 + es.length) : Int) ∧ (↑k : Int).toNat = k, 0 + k * 3 + 3 ≤ (List.flatMap ejF es).length ∧ List.take 3 (List.drop (0 + k * 3) (List.flatMap ejF es)) = [vI (es.getD k default).fst, vI (es.getD k default).snd.fst, vI (es.getD k default).snd.snd], well = false, decide ((es.getD k default).fst < 1048576) = false, CallOK Try.prog 69 [Value.slice (some ⟨0, 0, none⟩) es.length es.length, vI (↑k : Int), vI now] [(0, ⟨48, List.flatMap ejF es, 3⟩)] 1 (Value.bool (decide ((es.getD k default).snd.snd > now))) [(0, ⟨48, List.flatMap ejF es, 3⟩)], (!decide ((es.getD k default).snd.snd > now)) = true, decide ((es.getD k default).fst ≥ e1) = true, CallOK Try.prog 86 [Value.slice (some ⟨0, 0, none⟩) es.length es.length, vI now] [(0, ⟨48, List.flatMap ejF es, 3⟩)] 1 (vI (↑(ejCount es now) : Int)) [(0, ⟨48, List.flatMap ejF es, 3⟩)], IntKind.i64.wrap ((↑(ejCount es now) : Int) + 1) = (↑(ejCount es now + 1) : Int), decide (IntKind.i64.wrap ((↑(ejCount es now + 1) : Int) * 100) ≤ IntKind.i64.wrap (e4 * (↑es.length : Int))) = true, decide ((es.getD k default).snd.fst < 1048576) = true, 0 ≤ (↑k : Int) ∧ (↑k : Int) < (↑(0 + es.length) : Int) ∧ (↑k : Int).toNat = k, 0 + k * 3 + 3 ≤ (List.flatMap ejF es).length, splice (List.flatMap ejF es) (0 + k * 3) [vI 0, vI (IntKind.i64.wrap ((es.getD k default).snd.fst + 1)), vI (runtil_0 e1 e2 e3 e4 (IntKind.i64.wrap ((es.getD k default).snd.fst + 1)) now)] = List.flatMap ejF (es.set k (0, IntKind.i64.wrap ((es.getD k default).snd.fst + 1), runtil_0 e1 e2 e3 e4 (IntKind.i64.wrap ((es.getD k default).snd.fst + 1)) now))]) (by kernel_rfl) (ob_cons k0 (ob_cons k1 (ob_cons k2 (ob_cons k3 (ob_cons ⟨by omega, by omega, by omega, by omega, by omega, by rw [app_c]; exact flatL_rows ej_one es⟩ (ob_cons app_c (ob_cons (by rw [flatMap_len ej3]; omega) (ob_cons (by omega) (ob_cons ⟨cell_le (c := 0) ej3 hk (by decide), (row_at hk).trans rfl⟩ (ob_cons h4 (ob_cons h5 (ob_cons (rout_r hk) (ob_cons h6 (ob_cons h7 (ob_cons (rcount_r h80) (ob_cons (up1 (by have := ejCount_le es now; omega)) (ob_cons h8 (ob_cons h9 (ob_cons (by omega) (ob_cons (cell_le (c := 0) ej3 hk (by decide)) (ob_cons (splice_set (c := 0) ej3 default hk (by simp) rfl) ob_nil)))))))))))))))))))))) rfl (by kernel_rfl)
              simp only [Nat.zero_add] at hc; exact hc
            · have e : repE e1 e2 e3 e4 es k well now = (0, (es.getD k default).snd.fst, runtil_0 e1 e2 e3 e4 (es.getD k default).snd.fst now) := by
                simp only [repE, k0, k1, k2, k3, h4, h5, h6, h7, h8, h9, until_eq, cond_true, cond_false, Bool.and_true, Bool.true_and, Bool.and_false, Bool.false_and, Bool.not_true, Bool.not_false]
              rw [e]
              have hc := callOK_ren (v2 := Value.tuple #[Value.slice (some ⟨1, 0, none⟩) (0 + es.length) (0 + es.length), vI 0]) (H2 := [(0, ⟨48, List.flatMap ejF es, 3⟩), (1, ⟨48, List.flatMap ejF (es.set k (0, (es.getD k default).snd.fst, runtil_0 e1 e2 e3 e4 (es.getD k default).snd.fst now)), 3⟩)]) [1729] (callOK_keep (call := callQ) [0, 1729] callQ_spec mixed (P := Try.prog) (g := 63) (av := [.agg #[vI e1, vI e2, vI e3, vI e4], .slice (some ⟨0, 0, none⟩) es.length es.length, vI (k : Int), .bool well, vI now]) (Hs := [(0, ⟨48, es.flatMap ejF, 3⟩)]) (lo := 1) (ω := [(513, oT), (769, oF), (1409, oF), (1537, oF), (1729, OV.app 4 (some (List.flatMap ejF es))), (1985, OV.idx k), (2049, OV.ld (Value.agg #[vI (es.getD k default).fst, vI (es.getD k default).snd.fst, vI (es.getD k default).snd.snd])), (2241, oF), (2433, oF), (2689, OV.call (Value.bool (decide ((es.getD k default).snd.snd > now))) [(0, ⟨48, List.flatMap ejF es, 3⟩)]), (2817, oT), (3265, oT), (3457, OV.call (vI (↑(ejCount es now) : Int)) [(0, ⟨48, List.flatMap ejF es, 3⟩)]), (3521, OV.soft (vI (↑(ejCount es now + 1) : Int))), (4033, oT), (4225, oF), (5057, OV.idx k), (5121, OV.st (some (List.flatMap ejF (es.set k (0, (es.getD k default).snd.fst, runtil_0 e1 e2 e3 e4 (es.getD k default).snd.fst now)))))]) (LF := 10) (F := 100) (v := Value.tuple #[Value.slice (some ⟨1729, 0, none⟩) (0 + es.length) (0 + es.length), vI 0]) (H1 := [(0, ⟨48, List.flatMap ejF es, 3⟩), (1729, ⟨48, List.flatMap ejF (es.set k (0, (es.getD k default).snd.fst, runtil_0 e1 e2 e3 e4 (es.getD k default).snd.fst now)), 3⟩)]) (ps := [(rcheck_0 e1 e2 e3 e4 == 0) = true, (!time_0 now) = false, decide ((↑k : Int) ≥ (↑es.length : Int)) = false, (rcheck_0 e1 e2 e3 e4 != 0) = false, es.length ≠ 0 ∧ ¬0 + es.length ≤ 0 ∧ (0 + es.length) * 24 ≤ 140737488355328 ∧ 0 + es.length ≤ 9223372036854775807 ∧ 0 ≤ 0 ∧ FlatL ([] ++ List.take (es.length * 3) (List.drop 0 (List.flatMap ejF es))), [] ++ List.take (es.length * 3) (List.drop 0 (List.flatMap ejF es)) = List.flatMap ejF es, 0 + es.length * 3 ≤ (List.flatMap ejF es).length, 0 ≤ (↑k : Int) ∧ (↑k : Int) < (↑(0 + es.length) : Int) ∧ (↑k : Int).toNat = k, 0 + k * 3 + 3 ≤ (List.flatMap ejF es).length ∧ List.take 3 (List.drop (0 + k * 3) (List.flatMap ejF es)) = [vI (es.getD k default).fst, vI (es.getD k default).snd.fst, vI (es.getD k default).snd.snd], well = false, decide ((es.getD k default).fst < 1048576) = false, CallOK Try.prog 69 [Value.slice (some ⟨0, 0, none⟩) es.length es.length, vI (↑k : Int), vI now] [(0, ⟨48, List.flatMap ejF es, 3⟩)] 1 (Value.bool (decide ((es.getD k default).snd.snd > now))) [(0, ⟨48, List.flatMap ejF es, 3⟩)], (!decide ((es.getD k default).snd.snd > now)) = true, decide ((es.getD k default).fst ≥ e1) = true, CallOK Try.prog 86 [Value.slice (some ⟨0, 0, none⟩) es.length es.length, vI now] [(0, ⟨48, List.flatMap ejF es, 3⟩)] 1 (vI (↑(ejCount es now) : Int)) [(0, ⟨48, List.flatMap ejF es, 3⟩)], IntKind.i64.wrap ((↑(ejCount es now) : Int) + 1) = (↑(ejCount es now + 1) : Int), decide (IntKind.i64.wrap ((↑(ejCount es now + 1) : Int) * 100) ≤ IntKind.i64.wrap (e4 * (↑es.length : Int))) = true, decide ((es.getD k default).snd.fst < 1048576) = false, 0 ≤ (↑k : Int) ∧ (↑k : Int) < (↑(0 + es.length) : Int) ∧ (↑k : Int).toNat = k, 0 + k * 3 + 3 ≤ (List.flatMap ejF es).length, splice (List.flatMap ejF es) (0 + k * 3) [vI 0, vI (es.getD k default).snd.fst, vI (runtil_0 e1 e2 e3 e4 (es.getD k default).snd.fst now)] = List.flatMap ejF (es.set k (0, (es.getD k default).snd.fst, runtil_0 e1 e2 e3 e4 (es.getD k default).snd.fst now))]) (by kernel_rfl) (ob_cons k0 (ob_cons k1 (ob_cons k2 (ob_cons k3 (ob_cons ⟨by omega, by omega, by omega, by omega, by omega, by rw [app_c]; exact flatL_rows ej_one es⟩ (ob_cons app_c (ob_cons (by rw [flatMap_len ej3]; omega) (ob_cons (by omega) (ob_cons ⟨cell_le (c := 0) ej3 hk (by decide), (row_at hk).trans rfl⟩ (ob_cons h4 (ob_cons h5 (ob_cons (rout_r hk) (ob_cons h6 (ob_cons h7 (ob_cons (rcount_r h80) (ob_cons (up1 (by have := ejCount_le es now; omega)) (ob_cons h8 (ob_cons h9 (ob_cons (by omega) (ob_cons (cell_le (c := 0) ej3 hk (by decide)) (ob_cons (splice_set (c := 0) ej3 default hk (by simp) rfl) ob_nil)))))))))))))))))))))) rfl (by kernel_rfl)
              simp only [Nat.zero_add] at hc; exact hc
          · have e : repE e1 e2 e3 e4 es k well now = ((es.getD k default).fst, (es.getD k default).snd.fst, (es.getD k default).snd.snd) := by
              simp only [repE, k0, k1, k2, k3, h4, h5, h6, h7, h8, until_eq, cond_true, cond_false, Bool.and_true, Bool.true_and, Bool.and_false, Bool.false_and, Bool.not_true, Bool.not_false]
            rw [e]
            have hc := callOK_ren (v2 := Value.tuple #[Value.slice (some ⟨1, 0, none⟩) (0 + es.length) (0 + es.length), vI 0]) (H2 := [(0, ⟨48, List.flatMap ejF es, 3⟩), (1, ⟨48, List.flatMap ejF (es.set k ((es.getD k default).fst, (es.getD k default).snd.fst, (es.getD k default).snd.snd)), 3⟩)]) [1729] (callOK_keep (call := callQ) [0, 1729] callQ_spec mixed (P := Try.prog) (g := 63) (av := [.agg #[vI e1, vI e2, vI e3, vI e4], .slice (some ⟨0, 0, none⟩) es.length es.length, vI (k : Int), .bool well, vI now]) (Hs := [(0, ⟨48, es.flatMap ejF, 3⟩)]) (lo := 1) (ω := [(513, oT), (769, oF), (1409, oF), (1537, oF), (1729, OV.app 4 (some (List.flatMap ejF es))), (1985, OV.idx k), (2049, OV.ld (Value.agg #[vI (es.getD k default).fst, vI (es.getD k default).snd.fst, vI (es.getD k default).snd.snd])), (2241, oF), (2433, oF), (2689, OV.call (Value.bool (decide ((es.getD k default).snd.snd > now))) [(0, ⟨48, List.flatMap ejF es, 3⟩)]), (2817, oT), (3265, oT), (3457, OV.call (vI (↑(ejCount es now) : Int)) [(0, ⟨48, List.flatMap ejF es, 3⟩)]), (3521, OV.soft (vI (↑(ejCount es now + 1) : Int))), (4033, oF), (4289, OV.idx k), (4353, OV.st (some (List.flatMap ejF (es.set k ((es.getD k default).fst, (es.getD k default).snd.fst, (es.getD k default).snd.snd)))))]) (LF := 10) (F := 100) (v := Value.tuple #[Value.slice (some ⟨1729, 0, none⟩) (0 + es.length) (0 + es.length), vI 0]) (H1 := [(0, ⟨48, List.flatMap ejF es, 3⟩), (1729, ⟨48, List.flatMap ejF (es.set k ((es.getD k default).fst, (es.getD k default).snd.fst, (es.getD k default).snd.snd)), 3⟩)]) (ps := [(rcheck_0 e1 e2 e3 e4 == 0) = true, (!time_0 now) = false, decide ((↑k : Int) ≥ (↑es.length : Int)) = false, (rcheck_0 e1 e2 e3 e4 != 0) = false, es.length ≠ 0 ∧ ¬0 + es.length ≤ 0 ∧ (0 + es.length) * 24 ≤ 140737488355328 ∧ 0 + es.length ≤ 9223372036854775807 ∧ 0 ≤ 0 ∧ FlatL ([] ++ List.take (es.length * 3) (List.drop 0 (List.flatMap ejF es))), [] ++ List.take (es.length * 3) (List.drop 0 (List.flatMap ejF es)) = List.flatMap ejF es, 0 + es.length * 3 ≤ (List.flatMap ejF es).length, 0 ≤ (↑k : Int) ∧ (↑k : Int) < (↑(0 + es.length) : Int) ∧ (↑k : Int).toNat = k, 0 + k * 3 + 3 ≤ (List.flatMap ejF es).length ∧ List.take 3 (List.drop (0 + k * 3) (List.flatMap ejF es)) = [vI (es.getD k default).fst, vI (es.getD k default).snd.fst, vI (es.getD k default).snd.snd], well = false, decide ((es.getD k default).fst < 1048576) = false, CallOK Try.prog 69 [Value.slice (some ⟨0, 0, none⟩) es.length es.length, vI (↑k : Int), vI now] [(0, ⟨48, List.flatMap ejF es, 3⟩)] 1 (Value.bool (decide ((es.getD k default).snd.snd > now))) [(0, ⟨48, List.flatMap ejF es, 3⟩)], (!decide ((es.getD k default).snd.snd > now)) = true, decide ((es.getD k default).fst ≥ e1) = true, CallOK Try.prog 86 [Value.slice (some ⟨0, 0, none⟩) es.length es.length, vI now] [(0, ⟨48, List.flatMap ejF es, 3⟩)] 1 (vI (↑(ejCount es now) : Int)) [(0, ⟨48, List.flatMap ejF es, 3⟩)], IntKind.i64.wrap ((↑(ejCount es now) : Int) + 1) = (↑(ejCount es now + 1) : Int), decide (IntKind.i64.wrap ((↑(ejCount es now + 1) : Int) * 100) ≤ IntKind.i64.wrap (e4 * (↑es.length : Int))) = false, 0 ≤ (↑k : Int) ∧ (↑k : Int) < (↑(0 + es.length) : Int) ∧ (↑k : Int).toNat = k, 0 + k * 3 + 3 ≤ (List.flatMap ejF es).length, splice (List.flatMap ejF es) (0 + k * 3) [vI (es.getD k default).fst, vI (es.getD k default).snd.fst, vI (es.getD k default).snd.snd] = List.flatMap ejF (es.set k ((es.getD k default).fst, (es.getD k default).snd.fst, (es.getD k default).snd.snd))]) (by kernel_rfl) (ob_cons k0 (ob_cons k1 (ob_cons k2 (ob_cons k3 (ob_cons ⟨by omega, by omega, by omega, by omega, by omega, by rw [app_c]; exact flatL_rows ej_one es⟩ (ob_cons app_c (ob_cons (by rw [flatMap_len ej3]; omega) (ob_cons (by omega) (ob_cons ⟨cell_le (c := 0) ej3 hk (by decide), (row_at hk).trans rfl⟩ (ob_cons h4 (ob_cons h5 (ob_cons (rout_r hk) (ob_cons h6 (ob_cons h7 (ob_cons (rcount_r h80) (ob_cons (up1 (by have := ejCount_le es now; omega)) (ob_cons h8 (ob_cons (by omega) (ob_cons (cell_le (c := 0) ej3 hk (by decide)) (ob_cons (splice_set (c := 0) ej3 default hk (by simp) rfl) ob_nil))))))))))))))))))))) rfl (by kernel_rfl)
            simp only [Nat.zero_add] at hc; exact hc
        · have e : repE e1 e2 e3 e4 es k well now = ((es.getD k default).fst, (es.getD k default).snd.fst, (es.getD k default).snd.snd) := by
            simp only [repE, k0, k1, k2, k3, h4, h5, h6, h7, until_eq, cond_true, cond_false, Bool.and_true, Bool.true_and, Bool.and_false, Bool.false_and, Bool.not_true, Bool.not_false]
          rw [e]
          have hc := callOK_ren (v2 := Value.tuple #[Value.slice (some ⟨1, 0, none⟩) (0 + es.length) (0 + es.length), vI 0]) (H2 := [(0, ⟨48, List.flatMap ejF es, 3⟩), (1, ⟨48, List.flatMap ejF (es.set k ((es.getD k default).fst, (es.getD k default).snd.fst, (es.getD k default).snd.snd)), 3⟩)]) [1729] (callOK_keep (call := callQ) [0, 1729] callQ_spec mixed (P := Try.prog) (g := 63) (av := [.agg #[vI e1, vI e2, vI e3, vI e4], .slice (some ⟨0, 0, none⟩) es.length es.length, vI (k : Int), .bool well, vI now]) (Hs := [(0, ⟨48, es.flatMap ejF, 3⟩)]) (lo := 1) (ω := [(513, oT), (769, oF), (1409, oF), (1537, oF), (1729, OV.app 4 (some (List.flatMap ejF es))), (1985, OV.idx k), (2049, OV.ld (Value.agg #[vI (es.getD k default).fst, vI (es.getD k default).snd.fst, vI (es.getD k default).snd.snd])), (2241, oF), (2433, oF), (2689, OV.call (Value.bool (decide ((es.getD k default).snd.snd > now))) [(0, ⟨48, List.flatMap ejF es, 3⟩)]), (2817, oT), (3265, oF), (4289, OV.idx k), (4353, OV.st (some (List.flatMap ejF (es.set k ((es.getD k default).fst, (es.getD k default).snd.fst, (es.getD k default).snd.snd)))))]) (LF := 10) (F := 100) (v := Value.tuple #[Value.slice (some ⟨1729, 0, none⟩) (0 + es.length) (0 + es.length), vI 0]) (H1 := [(0, ⟨48, List.flatMap ejF es, 3⟩), (1729, ⟨48, List.flatMap ejF (es.set k ((es.getD k default).fst, (es.getD k default).snd.fst, (es.getD k default).snd.snd)), 3⟩)]) (ps := [(rcheck_0 e1 e2 e3 e4 == 0) = true, (!time_0 now) = false, decide ((↑k : Int) ≥ (↑es.length : Int)) = false, (rcheck_0 e1 e2 e3 e4 != 0) = false, es.length ≠ 0 ∧ ¬0 + es.length ≤ 0 ∧ (0 + es.length) * 24 ≤ 140737488355328 ∧ 0 + es.length ≤ 9223372036854775807 ∧ 0 ≤ 0 ∧ FlatL ([] ++ List.take (es.length * 3) (List.drop 0 (List.flatMap ejF es))), [] ++ List.take (es.length * 3) (List.drop 0 (List.flatMap ejF es)) = List.flatMap ejF es, 0 + es.length * 3 ≤ (List.flatMap ejF es).length, 0 ≤ (↑k : Int) ∧ (↑k : Int) < (↑(0 + es.length) : Int) ∧ (↑k : Int).toNat = k, 0 + k * 3 + 3 ≤ (List.flatMap ejF es).length ∧ List.take 3 (List.drop (0 + k * 3) (List.flatMap ejF es)) = [vI (es.getD k default).fst, vI (es.getD k default).snd.fst, vI (es.getD k default).snd.snd], well = false, decide ((es.getD k default).fst < 1048576) = false, CallOK Try.prog 69 [Value.slice (some ⟨0, 0, none⟩) es.length es.length, vI (↑k : Int), vI now] [(0, ⟨48, List.flatMap ejF es, 3⟩)] 1 (Value.bool (decide ((es.getD k default).snd.snd > now))) [(0, ⟨48, List.flatMap ejF es, 3⟩)], (!decide ((es.getD k default).snd.snd > now)) = true, decide ((es.getD k default).fst ≥ e1) = false, 0 ≤ (↑k : Int) ∧ (↑k : Int) < (↑(0 + es.length) : Int) ∧ (↑k : Int).toNat = k, 0 + k * 3 + 3 ≤ (List.flatMap ejF es).length, splice (List.flatMap ejF es) (0 + k * 3) [vI (es.getD k default).fst, vI (es.getD k default).snd.fst, vI (es.getD k default).snd.snd] = List.flatMap ejF (es.set k ((es.getD k default).fst, (es.getD k default).snd.fst, (es.getD k default).snd.snd))]) (by kernel_rfl) (ob_cons k0 (ob_cons k1 (ob_cons k2 (ob_cons k3 (ob_cons ⟨by omega, by omega, by omega, by omega, by omega, by rw [app_c]; exact flatL_rows ej_one es⟩ (ob_cons app_c (ob_cons (by rw [flatMap_len ej3]; omega) (ob_cons (by omega) (ob_cons ⟨cell_le (c := 0) ej3 hk (by decide), (row_at hk).trans rfl⟩ (ob_cons h4 (ob_cons h5 (ob_cons (rout_r hk) (ob_cons h6 (ob_cons h7 (ob_cons (by omega) (ob_cons (cell_le (c := 0) ej3 hk (by decide)) (ob_cons (splice_set (c := 0) ej3 default hk (by simp) rfl) ob_nil)))))))))))))))))) rfl (by kernel_rfl)
          simp only [Nat.zero_add] at hc; exact hc
      · have e : repE e1 e2 e3 e4 es k well now = ((es.getD k default).fst, (es.getD k default).snd.fst, (es.getD k default).snd.snd) := by
          simp only [repE, k0, k1, k2, k3, h4, h5, h6, until_eq, cond_true, cond_false, Bool.and_true, Bool.true_and, Bool.and_false, Bool.false_and, Bool.not_true, Bool.not_false]
        rw [e]
        have hc := callOK_ren (v2 := Value.tuple #[Value.slice (some ⟨1, 0, none⟩) (0 + es.length) (0 + es.length), vI 0]) (H2 := [(0, ⟨48, List.flatMap ejF es, 3⟩), (1, ⟨48, List.flatMap ejF (es.set k ((es.getD k default).fst, (es.getD k default).snd.fst, (es.getD k default).snd.snd)), 3⟩)]) [1729] (callOK_keep (call := callQ) [0, 1729] callQ_spec mixed (P := Try.prog) (g := 63) (av := [.agg #[vI e1, vI e2, vI e3, vI e4], .slice (some ⟨0, 0, none⟩) es.length es.length, vI (k : Int), .bool well, vI now]) (Hs := [(0, ⟨48, es.flatMap ejF, 3⟩)]) (lo := 1) (ω := [(513, oT), (769, oF), (1409, oF), (1537, oF), (1729, OV.app 4 (some (List.flatMap ejF es))), (1985, OV.idx k), (2049, OV.ld (Value.agg #[vI (es.getD k default).fst, vI (es.getD k default).snd.fst, vI (es.getD k default).snd.snd])), (2241, oF), (2433, oF), (2689, OV.call (Value.bool (decide ((es.getD k default).snd.snd > now))) [(0, ⟨48, List.flatMap ejF es, 3⟩)]), (2817, oF), (4289, OV.idx k), (4353, OV.st (some (List.flatMap ejF (es.set k ((es.getD k default).fst, (es.getD k default).snd.fst, (es.getD k default).snd.snd)))))]) (LF := 10) (F := 100) (v := Value.tuple #[Value.slice (some ⟨1729, 0, none⟩) (0 + es.length) (0 + es.length), vI 0]) (H1 := [(0, ⟨48, List.flatMap ejF es, 3⟩), (1729, ⟨48, List.flatMap ejF (es.set k ((es.getD k default).fst, (es.getD k default).snd.fst, (es.getD k default).snd.snd)), 3⟩)]) (ps := [(rcheck_0 e1 e2 e3 e4 == 0) = true, (!time_0 now) = false, decide ((↑k : Int) ≥ (↑es.length : Int)) = false, (rcheck_0 e1 e2 e3 e4 != 0) = false, es.length ≠ 0 ∧ ¬0 + es.length ≤ 0 ∧ (0 + es.length) * 24 ≤ 140737488355328 ∧ 0 + es.length ≤ 9223372036854775807 ∧ 0 ≤ 0 ∧ FlatL ([] ++ List.take (es.length * 3) (List.drop 0 (List.flatMap ejF es))), [] ++ List.take (es.length * 3) (List.drop 0 (List.flatMap ejF es)) = List.flatMap ejF es, 0 + es.length * 3 ≤ (List.flatMap ejF es).length, 0 ≤ (↑k : Int) ∧ (↑k : Int) < (↑(0 + es.length) : Int) ∧ (↑k : Int).toNat = k, 0 + k * 3 + 3 ≤ (List.flatMap ejF es).length ∧ List.take 3 (List.drop (0 + k * 3) (List.flatMap ejF es)) = [vI (es.getD k default).fst, vI (es.getD k default).snd.fst, vI (es.getD k default).snd.snd], well = false, decide ((es.getD k default).fst < 1048576) = false, CallOK Try.prog 69 [Value.slice (some ⟨0, 0, none⟩) es.length es.length, vI (↑k : Int), vI now] [(0, ⟨48, List.flatMap ejF es, 3⟩)] 1 (Value.bool (decide ((es.getD k default).snd.snd > now))) [(0, ⟨48, List.flatMap ejF es, 3⟩)], (!decide ((es.getD k default).snd.snd > now)) = false, 0 ≤ (↑k : Int) ∧ (↑k : Int) < (↑(0 + es.length) : Int) ∧ (↑k : Int).toNat = k, 0 + k * 3 + 3 ≤ (List.flatMap ejF es).length, splice (List.flatMap ejF es) (0 + k * 3) [vI (es.getD k default).fst, vI (es.getD k default).snd.fst, vI (es.getD k default).snd.snd] = List.flatMap ejF (es.set k ((es.getD k default).fst, (es.getD k default).snd.fst, (es.getD k default).snd.snd))]) (by kernel_rfl) (ob_cons k0 (ob_cons k1 (ob_cons k2 (ob_cons k3 (ob_cons ⟨by omega, by omega, by omega, by omega, by omega, by rw [app_c]; exact flatL_rows ej_one es⟩ (ob_cons app_c (ob_cons (by rw [flatMap_len ej3]; omega) (ob_cons (by omega) (ob_cons ⟨cell_le (c := 0) ej3 hk (by decide), (row_at hk).trans rfl⟩ (ob_cons h4 (ob_cons h5 (ob_cons (rout_r hk) (ob_cons h6 (ob_cons (by omega) (ob_cons (cell_le (c := 0) ej3 hk (by decide)) (ob_cons (splice_set (c := 0) ej3 default hk (by simp) rfl) ob_nil))))))))))))))))) rfl (by kernel_rfl)
        simp only [Nat.zero_add] at hc; exact hc

end
section
open Go.RowKit
set_option linter.unusedSimpArgs false
set_option linter.unusedVariables false
set_option linter.unusedSectionVars false
set_option maxRecDepth 100000
variable [Inhabited RawG]
/-- A backend's breaker, its probe. -/
abbrev BrT : Type := Int × Int × Int × Int × Int × Int
abbrev PrT : Type := Bool × Int × Int × Bool × Int
abbrev brF : BrT → List Value := fun t : Int × Int × Int × Int × Int × Int => [vI t.1, vI t.2.1, vI t.2.2.1, vI t.2.2.2.1, vI t.2.2.2.2.1, vI t.2.2.2.2.2]
abbrev prF : PrT → List Value := fun t : Bool × Int × Int × Bool × Int => [Value.bool t.1, vI t.2.1, vI t.2.2.1, .bool t.2.2.2.1, vI t.2.2.2.2]
theorem br6 (t : BrT) : (brF t).length = 6 := rfl
theorem pr5 (t : PrT) : (prF t).length = 5 := rfl
theorem rep_any {T : Type} (f : T → List Value) (k : Nat) (t : T) : (List.replicate k t).flatMap f ++ f t = (List.replicate (k + 1) t).flatMap f := by
  rw [List.replicate_succ', List.flatMap_append]; simp
theorem rw0_go {b1 b2 b3 b4 e1 e2 e3 e4 p1 p2 p3 p4 : Int} {n k : Nat} (hk : k < n) (hn : n ≤ 64) : RoundTo Try.prog callQ 10 100 (loopN Try.prog 24 0) 1472 1475 [1, 7, 8] .normal (mkF [(1, vI (n : Int)), (7, .pointer (some ⟨1280, 0, none⟩)), (8, vI (k : Int))] 63 0) [(1280, ⟨98, [vI b1, vI b2, vI b3, vI b4, vI e1, vI e2, vI e3, vI e4, vI p1, vI p2, vI p3, vI p4, .slice none 0 0, .slice none 0 0, .slice none 0 0], 0⟩)] (mkF [(1, vI (↑n : Int)), (7, Value.pointer (some ⟨1280, 0, none⟩)), (8, vI (↑(k + 1) : Int))] 63 0) [(1280, ⟨98, [vI b1, vI b2, vI b3, vI b4, vI e1, vI e2, vI e3, vI e4, vI p1, vI p2, vI p3, vI p4, Value.slice (some ⟨1472, 0, none⟩) 1 1, Value.slice (some ⟨1473, 0, none⟩) 1 1, Value.slice (some ⟨1474, 0, none⟩) 1 1], 0⟩), (1472, ⟨46, [vI 1, vI 0, vI 0, vI 0, vI 0, vI 0], 3⟩), (1473, ⟨48, [vI 0, vI 0, vI 0], 3⟩), (1474, ⟨50, [Value.bool true, vI 0, vI 0, Value.bool false, vI 0], 3⟩)] 1475 := by
  have k0 : (decide ((↑k : Int) < (↑n : Int))) = true := (decide_eq_true (by omega))
  exact roundTo_of [(1603, oT), (3843, OV.soft (vI (↑(k + 1) : Int)))] [2243, 2691, 3139] (ps := [decide ((↑k : Int) < (↑n : Int)) = true, IntKind.i64.wrap ((↑k : Int) + 1) = (↑(k + 1) : Int)]) (by kernel_rfl) (ob_cons k0 (ob_cons (up1 (by omega)) ob_nil)) (by decide)

theorem rw1_go {b1 b2 b3 b4 e1 e2 e3 e4 p1 p2 p3 p4 : Int} {n k : Nat} (hk : k < n) (hn : n ≤ 64) : RoundTo Try.prog callQ 10 100 (loopN Try.prog 24 0) 1472 1475 [1, 7, 8] .normal (mkF [(1, vI (n : Int)), (7, .pointer (some ⟨1280, 0, none⟩)), (8, vI (k : Int))] 63 0) [(1280, ⟨98, [vI b1, vI b2, vI b3, vI b4, vI e1, vI e2, vI e3, vI e4, vI p1, vI p2, vI p3, vI p4, .slice (some ⟨1472, 0, none⟩) k k, .slice (some ⟨1473, 0, none⟩) k k, .slice (some ⟨1474, 0, none⟩) k k], 0⟩), (1472, ⟨46, (List.replicate k ((1, 0, 0, 0, 0, 0) : Int × Int × Int × Int × Int × Int)).flatMap brF, 3⟩), (1473, ⟨48, (List.replicate k ((0, 0, 0) : EjT)).flatMap ejF, 3⟩), (1474, ⟨50, (List.replicate k ((true, 0, 0, false, 0) : Bool × Int × Int × Bool × Int)).flatMap prF, 3⟩)] (mkF [(1, vI (↑n : Int)), (7, Value.pointer (some ⟨1280, 0, none⟩)), (8, vI (↑(k + 1) : Int))] 63 0) [(1280, ⟨98, [vI b1, vI b2, vI b3, vI b4, vI e1, vI e2, vI e3, vI e4, vI p1, vI p2, vI p3, vI p4, Value.slice (some ⟨1472, 0, none⟩) (k + 1) (k + 1), Value.slice (some ⟨1473, 0, none⟩) (k + 1) (k + 1), Value.slice (some ⟨1474, 0, none⟩) (k + 1) (k + 1)], 0⟩), (1472, ⟨46, List.flatMap brF (List.replicate k (1, 0, 0, 0, 0, 0)) ++ [vI 1, vI 0, vI 0, vI 0, vI 0, vI 0], 3⟩), (1473, ⟨48, List.flatMap ejF (List.replicate k (0, 0, 0)) ++ [vI 0, vI 0, vI 0], 3⟩), (1474, ⟨50, List.flatMap prF (List.replicate k (true, 0, 0, false, 0)) ++ [Value.bool true, vI 0, vI 0, Value.bool false, vI 0], 3⟩)] 1475 := by
  have k0 : (decide ((↑k : Int) < (↑n : Int))) = true := (decide_eq_true (by omega))
  exact roundTo_of [(1603, oT), (2243, OV.app 2 none), (2691, OV.app 2 none), (3139, OV.app 2 none), (3843, OV.soft (vI (↑(k + 1) : Int)))] [2243, 2691, 3139] (ps := [decide ((↑k : Int) < (↑n : Int)) = true, (k + 1) * 48 ≤ 140737488355328 ∧ k + 1 ≤ 9223372036854775807 ∧ k * 6 = (List.flatMap brF (List.replicate k (1, 0, 0, 0, 0, 0))).length, (k + 1) * 24 ≤ 140737488355328 ∧ k + 1 ≤ 9223372036854775807 ∧ k * 3 = (List.flatMap ejF (List.replicate k (0, 0, 0))).length, (k + 1) * 40 ≤ 140737488355328 ∧ k + 1 ≤ 9223372036854775807 ∧ k * 5 = (List.flatMap prF (List.replicate k (true, 0, 0, false, 0))).length, IntKind.i64.wrap ((↑k : Int) + 1) = (↑(k + 1) : Int)]) (by kernel_rfl) (ob_cons k0 (ob_cons ⟨by omega, by omega, by rw [flatMap_len br6]; simp⟩ (ob_cons ⟨by omega, by omega, by rw [flatMap_len ej3]; simp⟩ (ob_cons ⟨by omega, by omega, by rw [flatMap_len pr5]; simp⟩ (ob_cons (up1 (by omega)) ob_nil))))) (by decide)

theorem rw_e {b1 b2 b3 b4 e1 e2 e3 e4 p1 p2 p3 p4 : Int} {n k : Nat} (hk : k = n) : RoundTo Try.prog callQ 10 100 (loopN Try.prog 24 0) 1472 1475 [7] (.exit 0) (mkF [(1, vI (n : Int)), (7, .pointer (some ⟨1280, 0, none⟩)), (8, vI (k : Int))] 63 0) [(1280, ⟨98, [vI b1, vI b2, vI b3, vI b4, vI e1, vI e2, vI e3, vI e4, vI p1, vI p2, vI p3, vI p4, .slice (some ⟨1472, 0, none⟩) k k, .slice (some ⟨1473, 0, none⟩) k k, .slice (some ⟨1474, 0, none⟩) k k], 0⟩), (1472, ⟨46, (List.replicate k ((1, 0, 0, 0, 0, 0) : Int × Int × Int × Int × Int × Int)).flatMap brF, 3⟩), (1473, ⟨48, (List.replicate k ((0, 0, 0) : EjT)).flatMap ejF, 3⟩), (1474, ⟨50, (List.replicate k ((true, 0, 0, false, 0) : Bool × Int × Int × Bool × Int)).flatMap prF, 3⟩)] (mkF [(7, Value.pointer (some ⟨1280, 0, none⟩))] 63 0) [(1280, ⟨98, [vI b1, vI b2, vI b3, vI b4, vI e1, vI e2, vI e3, vI e4, vI p1, vI p2, vI p3, vI p4, Value.slice (some ⟨1472, 0, none⟩) k k, Value.slice (some ⟨1473, 0, none⟩) k k, Value.slice (some ⟨1474, 0, none⟩) k k], 0⟩), (1472, ⟨46, List.flatMap brF (List.replicate k (1, 0, 0, 0, 0, 0)), 3⟩), (1473, ⟨48, List.flatMap ejF (List.replicate k (0, 0, 0)), 3⟩), (1474, ⟨50, List.flatMap prF (List.replicate k (true, 0, 0, false, 0)), 3⟩)] 1536 := by
  have k0 : (decide ((↑k : Int) < (↑n : Int))) = false := (decide_eq_false (by omega))
  exact roundTo_of [(1603, oF)] [1472, 1473, 1474] (ps := [decide ((↑k : Int) < (↑n : Int)) = false]) (by kernel_rfl) (ob_cons k0 ob_nil) (by decide)

theorem rw_loop {b1 b2 b3 b4 e1 e2 e3 e4 p1 p2 p3 p4 : Int} {n : Nat} (hp : 0 < n) (hn : n ≤ 64) : LoopOK Try.prog (loopN Try.prog 24 0) (mkF [(1, vI (n : Int)), (7, .pointer (some ⟨1280, 0, none⟩)), (8, vI ((0 : Nat) : Int))] 63 0) [(1280, ⟨98, [vI b1, vI b2, vI b3, vI b4, vI e1, vI e2, vI e3, vI e4, vI p1, vI p2, vI p3, vI p4, .slice none 0 0, .slice none 0 0, .slice none 0 0], 0⟩)] 1472 ⟨.exit 0, mkF [(7, .pointer (some ⟨1280, 0, none⟩))] 63 0, [(1280, ⟨98, [vI b1, vI b2, vI b3, vI b4, vI e1, vI e2, vI e3, vI e4, vI p1, vI p2, vI p3, vI p4, .slice (some ⟨1472, 0, none⟩) n n, .slice (some ⟨1473, 0, none⟩) n n, .slice (some ⟨1474, 0, none⟩) n n], 0⟩), (1472, ⟨46, (List.replicate n ((1, 0, 0, 0, 0, 0) : Int × Int × Int × Int × Int × Int)).flatMap brF, 3⟩), (1473, ⟨48, (List.replicate n ((0, 0, 0) : EjT)).flatMap ejF, 3⟩), (1474, ⟨50, (List.replicate n ((true, 0, 0, false, 0) : Bool × Int × Int × Bool × Int)).flatMap prF, 3⟩)], 1536, []⟩ := by
  have h9 := loop_ind callQ_spec mixed (LF := 10) (F := 100) (x := loopN Try.prog 24 0) (nx0 := 1472) (o := ⟨.exit 0, mkF [(7, .pointer (some ⟨1280, 0, none⟩))] 63 0, [(1280, ⟨98, [vI b1, vI b2, vI b3, vI b4, vI e1, vI e2, vI e3, vI e4, vI p1, vI p2, vI p3, vI p4, .slice (some ⟨1472, 0, none⟩) n n, .slice (some ⟨1473, 0, none⟩) n n, .slice (some ⟨1474, 0, none⟩) n n], 0⟩), (1472, ⟨46, (List.replicate n ((1, 0, 0, 0, 0, 0) : Int × Int × Int × Int × Int × Int)).flatMap brF, 3⟩), (1473, ⟨48, (List.replicate n ((0, 0, 0) : EjT)).flatMap ejF, 3⟩), (1474, ⟨50, (List.replicate n ((true, 0, 0, false, 0) : Bool × Int × Int × Bool × Int)).flatMap prF, 3⟩)], 1536, []⟩) (nxb := 1475) (keys := [1, 7, 8]) (keysE := [7]) n (fun k => mkF [(1, vI (n : Int)), (7, .pointer (some ⟨1280, 0, none⟩)), (8, vI (k : Int))] 63 0) (fun k => match k with | 0 => [(1280, ⟨98, [vI b1, vI b2, vI b3, vI b4, vI e1, vI e2, vI e3, vI e4, vI p1, vI p2, vI p3, vI p4, .slice none 0 0, .slice none 0 0, .slice none 0 0], 0⟩)] | k + 1 => [(1280, ⟨98, [vI b1, vI b2, vI b3, vI b4, vI e1, vI e2, vI e3, vI e4, vI p1, vI p2, vI p3, vI p4, .slice (some ⟨1472, 0, none⟩) (k + 1) (k + 1), .slice (some ⟨1473, 0, none⟩) (k + 1) (k + 1), .slice (some ⟨1474, 0, none⟩) (k + 1) (k + 1)], 0⟩), (1472, ⟨46, (List.replicate (k + 1) ((1, 0, 0, 0, 0, 0) : Int × Int × Int × Int × Int × Int)).flatMap brF, 3⟩), (1473, ⟨48, (List.replicate (k + 1) ((0, 0, 0) : EjT)).flatMap ejF, 3⟩), (1474, ⟨50, (List.replicate (k + 1) ((true, 0, 0, false, 0) : Bool × Int × Int × Bool × Int)).flatMap prF, 3⟩)]) (by decide) (by simp) rfl ?_ ?_ (fun h => by cases h)
  · exact h9
  · intro k hk
    cases k with
    | zero => exact rw0_go hk hn
    | succ k =>
      show RoundTo _ _ _ _ _ _ _ _ _ (mkF [(1, vI (n : Int)), (7, .pointer (some ⟨1280, 0, none⟩)), (8, vI ((k + 1 : Nat) : Int))] 63 0) ([(1280, ⟨98, [vI b1, vI b2, vI b3, vI b4, vI e1, vI e2, vI e3, vI e4, vI p1, vI p2, vI p3, vI p4, .slice (some ⟨1472, 0, none⟩) (k + 1) (k + 1), .slice (some ⟨1473, 0, none⟩) (k + 1) (k + 1), .slice (some ⟨1474, 0, none⟩) (k + 1) (k + 1)], 0⟩), (1472, ⟨46, (List.replicate (k + 1) ((1, 0, 0, 0, 0, 0) : Int × Int × Int × Int × Int × Int)).flatMap brF, 3⟩), (1473, ⟨48, (List.replicate (k + 1) ((0, 0, 0) : EjT)).flatMap ejF, 3⟩), (1474, ⟨50, (List.replicate (k + 1) ((true, 0, 0, false, 0) : Bool × Int × Int × Bool × Int)).flatMap prF, 3⟩)]) (mkF [(1, vI (n : Int)), (7, .pointer (some ⟨1280, 0, none⟩)), (8, vI ((k + 1 + 1 : Nat) : Int))] 63 0) ([(1280, ⟨98, [vI b1, vI b2, vI b3, vI b4, vI e1, vI e2, vI e3, vI e4, vI p1, vI p2, vI p3, vI p4, .slice (some ⟨1472, 0, none⟩) (k + 1 + 1) (k + 1 + 1), .slice (some ⟨1473, 0, none⟩) (k + 1 + 1) (k + 1 + 1), .slice (some ⟨1474, 0, none⟩) (k + 1 + 1) (k + 1 + 1)], 0⟩), (1472, ⟨46, (List.replicate (k + 1 + 1) ((1, 0, 0, 0, 0, 0) : Int × Int × Int × Int × Int × Int)).flatMap brF, 3⟩), (1473, ⟨48, (List.replicate (k + 1 + 1) ((0, 0, 0) : EjT)).flatMap ejF, 3⟩), (1474, ⟨50, (List.replicate (k + 1 + 1) ((true, 0, 0, false, 0) : Bool × Int × Int × Bool × Int)).flatMap prF, 3⟩)]) _
      rw [← rep_any brF (k + 1), ← rep_any ejF (k + 1), ← rep_any prF (k + 1)]
      exact rw1_go hk hn
  · obtain ⟨q, rfl⟩ : ∃ q, n = q + 1 := ⟨n - 1, by omega⟩
    exact rw_e rfl
theorem rnew_ok {b1 b2 b3 b4 e1 e2 e3 e4 p1 p2 p3 p4 : Int} {n : Nat} (hc : rhcheck_0 b1 b2 b3 b4 e1 e2 e3 e4 p1 p2 p3 p4 = 0) (hp : 0 < n) (hn : n ≤ 64) : CallOK Try.prog 24 [.agg #[vI b1, vI b2, vI b3, vI b4, vI e1, vI e2, vI e3, vI e4, vI p1, vI p2, vI p3, vI p4], vI (n : Int)] [] 0 (.tuple #[.pointer (some ⟨0, 0, none⟩), vI 0]) [(0, ⟨98, [vI b1, vI b2, vI b3, vI b4, vI e1, vI e2, vI e3, vI e4, vI p1, vI p2, vI p3, vI p4, .slice (some ⟨1, 0, none⟩) n n, .slice (some ⟨2, 0, none⟩) n n, .slice (some ⟨3, 0, none⟩) n n], 0⟩), (1, ⟨46, (List.replicate n ((1, 0, 0, 0, 0, 0) : Int × Int × Int × Int × Int × Int)).flatMap brF, 3⟩), (2, ⟨48, (List.replicate n ((0, 0, 0) : EjT)).flatMap ejF, 3⟩), (3, ⟨50, (List.replicate n ((true, 0, 0, false, 0) : Bool × Int × Int × Bool × Int)).flatMap prF, 3⟩)] := by
  have k0 : (rhcheck_0 b1 b2 b3 b4 e1 e2 e3 e4 p1 p2 p3 p4 == 0) = true := (by rw [hc]; rfl)
  have k1 : (decide ((↑n : Int) < 1)) = false := (decide_eq_false (by omega))
  have k2 : (decide ((↑n : Int) > 64)) = false := (decide_eq_false (by omega))
  have k3 : (rhcheck_0 b1 b2 b3 b4 e1 e2 e3 e4 p1 p2 p3 p4 != 0) = false := (by rw [hc]; rfl)
  have hc := callOK_ren (v2 := Value.tuple #[Value.pointer (some ⟨0, 0, none⟩), vI 0]) (H2 := [(0, ⟨98, [vI b1, vI b2, vI b3, vI b4, vI e1, vI e2, vI e3, vI e4, vI p1, vI p2, vI p3, vI p4, Value.slice (some ⟨1, 0, none⟩) n n, Value.slice (some ⟨2, 0, none⟩) n n, Value.slice (some ⟨3, 0, none⟩) n n], 0⟩), (1, ⟨46, List.flatMap brF (List.replicate n (1, 0, 0, 0, 0, 0)), 3⟩), (2, ⟨48, List.flatMap ejF (List.replicate n (0, 0, 0)), 3⟩), (3, ⟨50, List.flatMap prF (List.replicate n (true, 0, 0, false, 0)), 3⟩)]) [1280, 1472, 1473, 1474] (callOK_keep (call := callQ) [1280, 1472, 1473, 1474] callQ_spec mixed (P := Try.prog) (g := 24) (av := [.agg #[vI b1, vI b2, vI b3, vI b4, vI e1, vI e2, vI e3, vI e4, vI p1, vI p2, vI p3, vI p4], vI (n : Int)]) (Hs := []) (lo := 0) (ω := [(512, oT), (704, oF), (960, oF), (1088, oF), (1473, OV.loop [1, 7, 8] (AX.exit 0) (mkF [(7, Value.pointer (some ⟨1280, 0, none⟩))] 63 0) [(1280, ⟨98, [vI b1, vI b2, vI b3, vI b4, vI e1, vI e2, vI e3, vI e4, vI p1, vI p2, vI p3, vI p4, Value.slice (some ⟨1472, 0, none⟩) n n, Value.slice (some ⟨1473, 0, none⟩) n n, Value.slice (some ⟨1474, 0, none⟩) n n], 0⟩), (1472, ⟨46, List.flatMap brF (List.replicate n (1, 0, 0, 0, 0, 0)), 3⟩), (1473, ⟨48, List.flatMap ejF (List.replicate n (0, 0, 0)), 3⟩), (1474, ⟨50, List.flatMap prF (List.replicate n (true, 0, 0, false, 0)), 3⟩)] 1536)]) (LF := 10) (F := 100) (v := Value.tuple #[Value.pointer (some ⟨1280, 0, none⟩), vI 0]) (H1 := [(1280, ⟨98, [vI b1, vI b2, vI b3, vI b4, vI e1, vI e2, vI e3, vI e4, vI p1, vI p2, vI p3, vI p4, Value.slice (some ⟨1472, 0, none⟩) n n, Value.slice (some ⟨1473, 0, none⟩) n n, Value.slice (some ⟨1474, 0, none⟩) n n], 0⟩), (1472, ⟨46, List.flatMap brF (List.replicate n (1, 0, 0, 0, 0, 0)), 3⟩), (1473, ⟨48, List.flatMap ejF (List.replicate n (0, 0, 0)), 3⟩), (1474, ⟨50, List.flatMap prF (List.replicate n (true, 0, 0, false, 0)), 3⟩)]) (ps := [(rhcheck_0 b1 b2 b3 b4 e1 e2 e3 e4 p1 p2 p3 p4 == 0) = true, decide ((↑n : Int) < 1) = false, decide ((↑n : Int) > 64) = false, (rhcheck_0 b1 b2 b3 b4 e1 e2 e3 e4 p1 p2 p3 p4 != 0) = false, LoopOK Try.prog (loopN Try.prog 24 0) (mkF [(1, vI (n : Int)), (7, .pointer (some ⟨1280, 0, none⟩)), (8, vI ((0 : Nat) : Int))] 63 0) [(1280, ⟨98, [vI b1, vI b2, vI b3, vI b4, vI e1, vI e2, vI e3, vI e4, vI p1, vI p2, vI p3, vI p4, .slice none 0 0, .slice none 0 0, .slice none 0 0], 0⟩)] 1472 ⟨.exit 0, mkF [(7, .pointer (some ⟨1280, 0, none⟩))] 63 0, [(1280, ⟨98, [vI b1, vI b2, vI b3, vI b4, vI e1, vI e2, vI e3, vI e4, vI p1, vI p2, vI p3, vI p4, .slice (some ⟨1472, 0, none⟩) n n, .slice (some ⟨1473, 0, none⟩) n n, .slice (some ⟨1474, 0, none⟩) n n], 0⟩), (1472, ⟨46, (List.replicate n ((1, 0, 0, 0, 0, 0) : Int × Int × Int × Int × Int × Int)).flatMap brF, 3⟩), (1473, ⟨48, (List.replicate n ((0, 0, 0) : EjT)).flatMap ejF, 3⟩), (1474, ⟨50, (List.replicate n ((true, 0, 0, false, 0) : Bool × Int × Int × Bool × Int)).flatMap prF, 3⟩)], 1536, []⟩]) (by kernel_rfl) (ob_cons k0 (ob_cons k1 (ob_cons k2 (ob_cons k3 (ob_cons (rw_loop hp hn) ob_nil)))))) rfl (by kernel_rfl)
  exact hc

end
section
open Go.RowKit
set_option linter.unusedSimpArgs false
set_option linter.unusedVariables false
set_option linter.unusedSectionVars false
set_option maxRecDepth 100000
variable [Inhabited RawG]
theorem rnew_err {b1 b2 b3 b4 e1 e2 e3 e4 p1 p2 p3 p4 : Int} {n : Int} (hc : rhcheck_0 b1 b2 b3 b4 e1 e2 e3 e4 p1 p2 p3 p4 ≠ 0) : CallOK Try.prog 24 [.agg #[vI b1, vI b2, vI b3, vI b4, vI e1, vI e2, vI e3, vI e4, vI p1, vI p2, vI p3, vI p4], vI n] [] 0 (.tuple #[.pointer none, vI (rhcheck_0 b1 b2 b3 b4 e1 e2 e3 e4 p1 p2 p3 p4)]) [] := by
  have k0 : (rhcheck_0 b1 b2 b3 b4 e1 e2 e3 e4 p1 p2 p3 p4 == 0) = false := (beq_false_of_ne hc)
  have k1 : (rhcheck_0 b1 b2 b3 b4 e1 e2 e3 e4 p1 p2 p3 p4 != 0) = true := (bne_iff_ne.2 hc)
  exact callOK_keep (call := callQ) [] callQ_spec mixed (ω := [(512, oF), (1088, oT)]) (LF := 10) (F := 100) (ps := [(rhcheck_0 b1 b2 b3 b4 e1 e2 e3 e4 p1 p2 p3 p4 == 0) = false, (rhcheck_0 b1 b2 b3 b4 e1 e2 e3 e4 p1 p2 p3 p4 != 0) = true]) (by kernel_rfl) (ob_cons k0 (ob_cons k1 ob_nil))

theorem rnew_rng {b1 b2 b3 b4 e1 e2 e3 e4 p1 p2 p3 p4 : Int} {n : Int} (hc : rhcheck_0 b1 b2 b3 b4 e1 e2 e3 e4 p1 p2 p3 p4 = 0) (hn : ¬ (1 ≤ n ∧ n ≤ 64)) : CallOK Try.prog 24 [.agg #[vI b1, vI b2, vI b3, vI b4, vI e1, vI e2, vI e3, vI e4, vI p1, vI p2, vI p3, vI p4], vI n] [] 0 (.tuple #[.pointer none, vI 2]) [] := by
  have k0 : (rhcheck_0 b1 b2 b3 b4 e1 e2 e3 e4 p1 p2 p3 p4 == 0) = true := (by rw [hc]; rfl)
  rcases Bool.eq_false_or_eq_true (decide (n < 1)) with h1 | h1
  · exact callOK_keep (call := callQ) [] callQ_spec mixed (ω := [(512, oT), (704, oT)]) (LF := 10) (F := 100) (ps := [(rhcheck_0 b1 b2 b3 b4 e1 e2 e3 e4 p1 p2 p3 p4 == 0) = true, decide (n < 1) = true]) (by kernel_rfl) (ob_cons k0 (ob_cons h1 ob_nil))
  · have k2 : (decide (n > 64)) = true := (decide_eq_true (by simp at h1; omega))
    exact callOK_keep (call := callQ) [] callQ_spec mixed (ω := [(512, oT), (704, oF), (960, oT)]) (LF := 10) (F := 100) (ps := [(rhcheck_0 b1 b2 b3 b4 e1 e2 e3 e4 p1 p2 p3 p4 == 0) = true, decide (n < 1) = false, decide (n > 64) = true]) (by kernel_rfl) (ob_cons k0 (ob_cons h1 (ob_cons k2 ob_nil)))

theorem new_err2 {b1 b2 b3 b4 e1 e2 e3 e4 p1 p2 p3 p4 : Int} {n : Int} (hc : hcheck_0 b1 b2 b3 b4 e1 e2 e3 e4 p1 p2 p3 p4 ≠ 0) : CallOK Try.prog 10 [.agg #[vI b1, vI b2, vI b3, vI b4, vI e1, vI e2, vI e3, vI e4, vI p1, vI p2, vI p3, vI p4], vI n] [] 0 (.tuple #[.pointer none, vI (hcheck_0 b1 b2 b3 b4 e1 e2 e3 e4 p1 p2 p3 p4)]) [] := by
  have k0 : (hcheck_0 b1 b2 b3 b4 e1 e2 e3 e4 p1 p2 p3 p4 != 0) = true := (bne_iff_ne.2 hc)
  exact callOK_keep (call := callQ) [] callQ_spec mixed (ω := [(448, oT)]) (LF := 10) (F := 100) (ps := [(hcheck_0 b1 b2 b3 b4 e1 e2 e3 e4 p1 p2 p3 p4 != 0) = true]) (by kernel_rfl) (ob_cons k0 ob_nil)

theorem new_rng {b1 b2 b3 b4 e1 e2 e3 e4 p1 p2 p3 p4 : Int} {n : Int} (hc : hcheck_0 b1 b2 b3 b4 e1 e2 e3 e4 p1 p2 p3 p4 = 0) (hn : ¬ (1 ≤ n ∧ n ≤ 64)) : CallOK Try.prog 10 [.agg #[vI b1, vI b2, vI b3, vI b4, vI e1, vI e2, vI e3, vI e4, vI p1, vI p2, vI p3, vI p4], vI n] [] 0 (.tuple #[.pointer none, vI 2]) [] := by
  have k0 : (hcheck_0 b1 b2 b3 b4 e1 e2 e3 e4 p1 p2 p3 p4 != 0) = false := (by rw [hc]; rfl)
  rcases Bool.eq_false_or_eq_true (decide (n < 1)) with h1 | h1
  · exact callOK_keep (call := callQ) [] callQ_spec mixed (ω := [(448, oF), (640, oT)]) (LF := 10) (F := 100) (ps := [(hcheck_0 b1 b2 b3 b4 e1 e2 e3 e4 p1 p2 p3 p4 != 0) = false, decide (n < 1) = true]) (by kernel_rfl) (ob_cons k0 (ob_cons h1 ob_nil))
  · have k2 : (decide (n > 64)) = true := (decide_eq_true (by simp at h1; omega))
    exact callOK_keep (call := callQ) [] callQ_spec mixed (ω := [(448, oF), (640, oF), (832, oT)]) (LF := 10) (F := 100) (ps := [(hcheck_0 b1 b2 b3 b4 e1 e2 e3 e4 p1 p2 p3 p4 != 0) = false, decide (n < 1) = false, decide (n > 64) = true]) (by kernel_rfl) (ob_cons k0 (ob_cons h1 (ob_cons k2 ob_nil)))

end
end Go.Proofs.Ytadpnamooajpoaa
