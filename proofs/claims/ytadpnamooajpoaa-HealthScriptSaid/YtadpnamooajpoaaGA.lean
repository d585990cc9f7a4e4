/- HealthScript: the check behind an event goes through. HealthScript: both pools hold the same; the check behind an event goes through. HealthScript: states, a step. HealthScript: the law; printed by a program of mine. HealthScript: the law, its events as they are read. -/
import Derived.Test.YtadpnamooajpoaaD0
import Derived.Test.YtadpnamooajpoaaD1
import Derived.Test.YtadpnamooajpoaaD2
import Derived.KernelRfl
import Derived.Test.YtadpnamooajpoaaFA
import Derived.Test.YtadpnamooajpoaaQB
import Derived.Test.YtadpnamooajpoaaFB
import Derived.Test.YtadpnamooajpoaaQA
namespace Go.Proofs.Ytadpnamooajpoaa
section
open Go.RowKit
set_option linter.unusedSimpArgs false
set_option linter.unusedVariables false
set_option linter.unusedSectionVars false
set_option maxRecDepth 100000
variable [Inhabited RawG]
theorem chk_all {c : CT} {n i : Nat} {acts : List ActT} {a : ActT} {bs : List BkT} {es re : List EjT} {rb : List BrT} {rp : List PrT} {hs : List (BkT × EjT)} {xa xd xl xw : Option (List Int)} {ts : Option (List TrT)} {now wild : Int} {okv mv : Bool} (hok : okv = true) (c12 : CallOK Try.prog 12 [pN 1] (hQ c n bs es []) 3 (sN 3 n) (hQ c n bs es [(3, ⟨52, hs.flatMap hlF, 3⟩)])) (c32 : CallOK Try.prog 32 [pN 0] (rQ c n rb re rp []) 4 (sN 4 n) (rQ c n rb re rp [(4, ⟨52, hs.flatMap hlF, 3⟩)])) (s31 : CallOK Try.prog 31 [sN 0 n, sN 1 n] [(0, ⟨52, hs.flatMap hlF, 3⟩), (1, ⟨52, hs.flatMap hlF, 3⟩)] 2 (.bool true) [(0, ⟨52, hs.flatMap hlF, 3⟩), (1, ⟨52, hs.flatMap hlF, 3⟩)]) (pxa : CallOK Try.prog 20 [pN 1, vI now] (hQ c n bs es []) 3 (rO 3 xa) (hQ c n bs es (rK 3 xa))) (rxa : CallOK Try.prog 33 [pN 0, vI now] (rQ c n rb re rp []) 4 (rO 4 xa) (rQ c n rb re rp (rK 4 xa))) (sxa : CallOK Try.prog 19 [rO 0 xa, rO 1 xa] (rK 0 xa ++ rK 1 xa) (rK 0 xa ++ rK 1 xa).length (.bool true) (rK 0 xa ++ rK 1 xa)) (pxd : CallOK Try.prog 22 [pN 1, vI now] (hQ c n bs es []) 3 (rO 3 xd) (hQ c n bs es (rK 3 xd))) (rxd : CallOK Try.prog 34 [pN 0, vI now] (rQ c n rb re rp []) 4 (rO 4 xd) (rQ c n rb re rp (rK 4 xd))) (sxd : CallOK Try.prog 19 [rO 0 xd, rO 1 xd] (rK 0 xd ++ rK 1 xd) (rK 0 xd ++ rK 1 xd).length (.bool true) (rK 0 xd ++ rK 1 xd)) (pxl : CallOK Try.prog 23 [pN 1, vI now] (hQ c n bs es []) 3 (rO 3 xl) (hQ c n bs es (rK 3 xl))) (rxl : CallOK Try.prog 35 [pN 0, vI now] (rQ c n rb re rp []) 4 (rO 4 xl) (rQ c n rb re rp (rK 4 xl))) (sxl : CallOK Try.prog 19 [rO 0 xl, rO 1 xl] (rK 0 xl ++ rK 1 xl) (rK 0 xl ++ rK 1 xl).length (.bool true) (rK 0 xl ++ rK 1 xl)) (c18 : CallOK Try.prog 18 [pN 1, vI a.i, vI wild] (hQ c n bs es []) 3 (.bool mv) (hQ c n bs es [])) (c36 : CallOK Try.prog 36 [pN 0, vI a.i, vI wild] (rQ c n rb re rp []) 4 (.bool mv) (rQ c n rb re rp [])) (pxw : CallOK Try.prog 20 [pN 1, vI wild] (hQ c n bs es []) 3 (rO 3 xw) (hQ c n bs es (rK 3 xw))) (rxw : CallOK Try.prog 33 [pN 0, vI wild] (rQ c n rb re rp []) 4 (rO 4 xw) (rQ c n rb re rp (rK 4 xw))) (sxw : CallOK Try.prog 19 [rO 0 xw, rO 1 xw] (rK 0 xw ++ rK 1 xw) (rK 0 xw ++ rK 1 xw).length (.bool true) (rK 0 xw ++ rK 1 xw)) : ChkOK c n acts wild i a bs es rb re rp ts now okv := by
  refine chk_of hok c12 c32 s31 pxa rxa sxa pxd rxd sxd pxl rxl sxl c18 c36 pxw rxw sxw ?_
  rcases ts with _ | _ | ⟨t, r⟩
  · exact ck_n
  · exact ck_e
  · exact ck_r
end
section
open Go.RowKit
set_option linter.unusedSectionVars false
set_option linter.unusedSimpArgs false
set_option linter.unusedVariables false
set_option maxRecDepth 100000
theorem bmay_in {b1 b2 b3 b4 now : Int} (h : bcheck_0 b1 b2 b3 b4 = 0) (ht : 0 ≤ now ∧ now ≤ 253402300799) : bmay_0 b1 b2 b3 b4 now = 0 := by
  unfold bmay_0
  rw [h, show ((0 : Int) != 0) = false from rfl, show decide (now < 0) = false from decide_eq_false (by omega), show decide (now > 253402300799) = false from decide_eq_false (by omega)]
  rfl
theorem bg7 {b1 b2 b3 b4 now : Int} {t : BkT} {e : EjT} (hm : bmay_0 b1 b2 b3 b4 now = 0) (ha : mayE b1 b2 b3 b4 t e now = true) : bbegin_7 b1 b2 b3 b4 t.s t.f t.u t.o t.g t.p now = 0 := by
  have e0 : (bmay_0 b1 b2 b3 b4 now != 0) = false := by rw [hm]; rfl
  have hal : allows_0 b1 b2 b3 b4 t.s t.f t.u t.o t.g t.p now = true := by
    unfold mayE at ha
    rcases Bool.eq_false_or_eq_true t.up with h1 | h1
    · rw [h1] at ha
      rcases Bool.eq_false_or_eq_true (decide (e.2.2 > now)) with h2 | h2
      · rw [h2] at ha; cases ha
      · rw [h2] at ha; exact ha
    · rw [h1] at ha; cases ha
  unfold bbegin_7
  rw [e0, hal]
  cases (t.s == 2) <;> cases (t.s == 3) <;> rfl
theorem be6 {b1 b2 b3 b4 now s f u o g p ep : Int} {well : Bool} (h : bmay_0 b1 b2 b3 b4 now = 0) : (bend_6 b1 b2 b3 b4 s f u o g p ep well now != 0) = false := by
  have e : (bmay_0 b1 b2 b3 b4 now != 0) = false := by rw [h]; rfl
  unfold bend_6
  rw [e]
  simp only [cond_false]
  cases (ep != p) <;> cases (s == 1) <;> cases (s == 3) <;> rfl
theorem hcheck_parts {b1 b2 b3 b4 e1 e2 e3 e4 p1 p2 p3 p4 : Int} (h : hcheck_0 b1 b2 b3 b4 e1 e2 e3 e4 p1 p2 p3 p4 = 0) : bcheck_0 b1 b2 b3 b4 = 0 ∧ check_0 e1 e2 e3 e4 = 0 ∧ pcheck_0 p1 p2 p3 p4 = 0 := by
  unfold hcheck_0 at h
  rcases Bool.eq_false_or_eq_true (bcheck_0 b1 b2 b3 b4 != 0) with h1 | h1
  · rw [h1] at h; simp only [cond_true] at h; rw [h] at h1; cases h1
  · rw [h1] at h; simp only [cond_false] at h
    rcases Bool.eq_false_or_eq_true (check_0 e1 e2 e3 e4 != 0) with h2 | h2
    · rw [h2] at h; simp only [cond_true] at h; rw [h] at h2; cases h2
    · rw [h2] at h
      exact ⟨by simpa using h1, by simpa using h2, h⟩
theorem fm_take {T : Type} {f : T → List Value} {sz : Nat} (hf : ∀ t, (f t).length = sz) (l : List T) (k : Nat) : (l.take k).flatMap f = (l.flatMap f).take (k * sz) := by
  induction l generalizing k with
  | nil => simp
  | cons a r ih =>
    cases k with
    | zero => simp
    | succ k =>
      rw [List.take_succ_cons, List.flatMap_cons, List.flatMap_cons, ih, Nat.succ_mul, List.take_append, hf, List.take_of_length_le (l := f a) (by rw [hf]; omega), show k * sz + sz - sz = k * sz by omega]
theorem fm_drop {T : Type} {f : T → List Value} {sz : Nat} (hf : ∀ t, (f t).length = sz) (l : List T) (k : Nat) : (l.drop k).flatMap f = (l.flatMap f).drop (k * sz) := by
  induction l generalizing k with
  | nil => simp
  | cons a r ih =>
    cases k with
    | zero => simp
    | succ k =>
      rw [List.drop_succ_cons, List.flatMap_cons, ih, Nat.succ_mul, List.drop_append, hf, List.drop_of_length_le (i := k * sz + sz) (by rw [hf]; omega), show k * sz + sz - sz = k * sz by omega, List.nil_append]
theorem er_m {l : List TrT} {q : Nat} : (l.eraseIdx q).flatMap trF = [] ++ List.take (q * 2) (List.drop 0 (List.flatMap trF l)) ++ List.take ((l.length - (q + 1)) * 2) (List.drop (0 + (q + 1) * 2) (List.flatMap trF l)) := by
  rw [List.eraseIdx_eq_take_drop_succ, List.flatMap_append, fm_take tr2, fm_drop tr2, List.nil_append, List.drop_zero, Nat.zero_add, List.take_of_length_le (i := (l.length - (q + 1)) * 2) (by rw [List.length_drop, flatMap_len tr2]; omega)]
theorem er_0 {l : List TrT} {q : Nat} (h : q = 0) : (l.eraseIdx q).flatMap trF = [] ++ List.take ((l.length - (q + 1)) * 2) (List.drop (0 + (q + 1) * 2) (List.flatMap trF l)) := by
  rw [er_m]; subst h; simp
theorem er_l {l : List TrT} {q : Nat} (h : ¬ (q + 1 < l.length)) : (l.eraseIdx q).flatMap trF = [] ++ List.take (q * 2) (List.drop 0 (List.flatMap trF l)) := by
  rw [er_m, show l.length - (q + 1) = 0 by omega]; simp
theorem mem_er {l : List TrT} {q : Nat} {t : TrT} (h : t ∈ l.eraseIdx q) : t ∈ l := List.mem_of_mem_eraseIdx h
theorem gv6 {cf cd ct cg s f u o g p ep : Int} (h : bcheck_0 cf cd ct cg = 0) : give_6 cf cd ct cg s f u o g p ep = 0 := by
  unfold give_6
  rw [h]
  cases (ep == p) <;> cases (s == 3) <;> rfl
/-- The reference's rows, of the program's. -/
abbrev brOf (t : BkT) : BrT := (t.s, t.f, t.u, t.o, t.g, t.p)
abbrev prOf (t : BkT) : PrT := (t.up, t.run, t.nxt, t.ot, t.since)
theorem getD_br {bs : List BkT} {k : Nat} (hk : k < bs.length) : (bs.map brOf).getD k default = brOf (bs.getD k default) := by
  rw [List.getD_eq_getElem?_getD, List.getElem?_map, List.getD_eq_getElem?_getD, List.getElem?_eq_getElem hk]; rfl
theorem getD_pr {bs : List BkT} {k : Nat} (hk : k < bs.length) : (bs.map prOf).getD k default = prOf (bs.getD k default) := by
  rw [List.getD_eq_getElem?_getD, List.getElem?_map, List.getD_eq_getElem?_getD, List.getElem?_eq_getElem hk]; rfl
theorem map_keep {T U : Type} [Inhabited T] {f : T → U} {l : List T} {k : Nat} {t : T} (h : f t = f (l.getD k default)) : (l.set k t).map f = l.map f := by
  apply List.ext_getElem (by simp)
  intro j h1 h2
  simp only [List.getElem_map, List.getElem_set]
  split
  · rename_i e
    subst e
    have hk : k < l.length := by simpa using h2
    rw [h, List.getD_eq_getElem?_getD, List.getElem?_eq_getElem hk]; rfl
  · rfl
section
variable {b1 b2 b3 b4 e1 e2 e3 e4 p1 p2 p3 p4 now ep : Int} {well : Bool} {t : BkT} {e : EjT}
theorem br_bg (h : bcheck_0 b1 b2 b3 b4 = 0) (ht : 0 ≤ now ∧ now ≤ 253402300799) : brOf (bgT b1 b2 b3 b4 e1 e2 e3 e4 p1 p2 p3 p4 t now) = bgR b1 b2 b3 b4 (brOf t) now := by
  simp only [bgT, bgR, rbegin0_eq h ht, rbegin3_eq h ht, rbegin4_eq h ht, rbegin5_eq h ht]
theorem br_gv (h : bcheck_0 b1 b2 b3 b4 = 0) : brOf (gvT b1 b2 b3 b4 e1 e2 e3 e4 p1 p2 p3 p4 t ep) = gvR b1 b2 b3 b4 (brOf t) ep := by
  simp only [gvT, gvR, rgive_eq h]
theorem br_ed (h : bcheck_0 b1 b2 b3 b4 = 0) (ht : 0 ≤ now ∧ now ≤ 253402300799) : brOf (edT b1 b2 b3 b4 e1 e2 e3 e4 p1 p2 p3 p4 t ep well now) = edR b1 b2 b3 b4 (brOf t) ep well now := by
  simp only [edT, edR, rend0_eq h ht, rend1_eq h ht, rend2_eq h ht, rend3_eq h ht, rend4_eq h ht, rend5_eq h ht]
theorem pr_pb (h : pcheck_0 p1 p2 p3 p4 = 0) (ht : 0 ≤ now ∧ now ≤ 253402300799) : prOf (pbT b1 b2 b3 b4 e1 e2 e3 e4 p1 p2 p3 p4 t now) = pbR p1 p2 p3 p4 (prOf t) now := by
  simp only [pbT, pbR, rpbegin3_eq h ht, rpbegin4_eq h ht]
theorem pr_pe (h : pcheck_0 p1 p2 p3 p4 = 0) (ht : 0 ≤ now ∧ now ≤ 253402300799) : prOf (peT b1 b2 b3 b4 e1 e2 e3 e4 p1 p2 p3 p4 t well now) = peR p1 p2 p3 p4 (prOf t) well now := by
  simp only [peT, peR, rpend0_eq h ht, rpend1_eq h ht, rpend2_eq h ht, rpend3_eq h ht, rpend4_eq h ht]
theorem mayR_eq (h : bcheck_0 b1 b2 b3 b4 = 0) (ht : 0 ≤ now ∧ now ≤ 253402300799) : mayR b1 b2 b3 b4 (brOf t) (prOf t) e now = mayE b1 b2 b3 b4 t e now := by
  unfold mayR mayE
  rw [(time_iff now).2 ht]
  simp only [cond_true, rallows_eq h ht]
theorem mayR_bad {r : BrT} {p : PrT} (ht : ¬ (0 ≤ now ∧ now ≤ 253402300799)) : mayR b1 b2 b3 b4 r p e now = false := by
  unfold mayR
  have : time_0 now = false := by rw [← Bool.not_eq_true, time_iff]; exact ht
  rw [this]; rfl
/-- A probe's time is never before the beginning. -/
theorem pb_since (h0 : 0 ≤ t.since) (ht : 0 ≤ now) : 0 ≤ (pbT b1 b2 b3 b4 e1 e2 e3 e4 p1 p2 p3 p4 t now).since := by
  unfold pbT pbegin_4
  dsimp only
  repeat' (first | exact h0 | exact ht | (rw [cond_eq_ite]; split))
theorem pe_since (h0 : 0 ≤ t.since) : 0 ≤ (peT b1 b2 b3 b4 e1 e2 e3 e4 p1 p2 p3 p4 t well now).since := by
  unfold peT pend_4
  dsimp only
  repeat' (first | exact h0 | exact Int.le_refl _ | (rw [cond_eq_ite]; split))
end
theorem since_set {bs : List BkT} {k : Nat} {t : BkT} (hs : ∀ b ∈ bs, 0 ≤ b.since) (ht : 0 ≤ t.since) : ∀ b ∈ bs.set k t, 0 ≤ b.since := fun b hb => (List.mem_or_eq_of_mem_set hb).elim (hs b) (fun h => by rw [h]; exact ht)
theorem since_at {bs : List BkT} {k : Nat} (hs : ∀ b ∈ bs, 0 ≤ b.since) : 0 ≤ (bs.getD k default).since := by
  rw [List.getD_eq_getElem?_getD]
  rcases h : bs[k]? with _ | b
  · exact Int.le_refl _
  · exact hs b (List.mem_of_getElem? h)
theorem alL_congr {p q : Nat → Bool} {n : Nat} (h : ∀ x, x < n → p x = q x) : alL p n = alL q n := by
  unfold alL
  congr 1
  exact List.filter_congr fun x hx => h x (List.mem_range.1 hx)
theorem alL_none {n : Nat} : alL (fun _ => false) n = [] := by unfold alL; simp
/-- A row that is nil where it is empty. -/
def optL : List Int → Option (List Int)
  | [] => none
  | v :: r => some (v :: r)
theorem optL_ne {l : List Int} (h : l ≠ []) : optL l = some l := by cases l with | nil => exact absurd rfl h | cons => rfl
theorem stR_eq {bs : List BkT} {es : List EjT} {n : Nat} (hb : bs.length = n) : stR (bs.map brOf) es (bs.map prOf) n = stL bs es n := by
  unfold stR stL
  apply List.map_congr_left
  intro j hj
  have hj : j < bs.length := by have := List.mem_range.1 hj; omega
  rw [getD_br hj, getD_pr hj]
variable [Inhabited RawG]
theorem same_opt {l : List Int} (h : l.length ≤ 64) : CallOK Try.prog 19 [rO 0 (optL l), rO 1 (optL l)] (rK 0 (optL l) ++ rK 1 (optL l)) (rK 0 (optL l) ++ rK 1 (optL l)).length (.bool true) (rK 0 (optL l) ++ rK 1 (optL l)) := by
  cases l with
  | nil => exact same_iv0 (zz := 0)
  | cons v r => exact same_iv h
section
variable {c : CT} {n : Nat} {bs : List BkT} {es : List EjT} {now : Int}
theorem all_opt (hb : bs.length = n) (he : es.length = n) (hn : n ≤ 64) (hc : bcheck_0 c.b1 c.b2 c.b3 c.b4 = 0) : CallOK Try.prog 20 [pN 1, vI now] (hQ c n bs es []) 3 (rO 3 (optL (alL (fun x => mayR c.b1 c.b2 c.b3 c.b4 (brOf (bs.getD x default)) (prOf (bs.getD x default)) (es.getD x default) now) n))) (hQ c n bs es (rK 3 (optL (alL (fun x => mayR c.b1 c.b2 c.b3 c.b4 (brOf (bs.getD x default)) (prOf (bs.getD x default)) (es.getD x default) now) n)))) := by
  by_cases ht : 0 ≤ now ∧ now ≤ 253402300799
  · rw [alL_congr (q := fun x => mayE c.b1 c.b2 c.b3 c.b4 (bs.getD x default) (es.getD x default) now) (fun x _ => mayR_eq hc ht)]
    by_cases h0 : alL (fun x => mayE c.b1 c.b2 c.b3 c.b4 (bs.getD x default) (es.getD x default) now) n = []
    · rw [h0]; exact all_none hb he ht hn h0
    · rw [optL_ne h0]; exact all_some hb he ht hn h0
  · rw [alL_congr (q := fun _ => false) (fun x _ => mayR_bad ht), alL_none]
    exact all_bad ht hn
theorem rall_opt (hb : bs.length = n) (he : es.length = n) (hn : n ≤ 64) : CallOK Try.prog 33 [pN 0, vI now] (rQ c n (bs.map brOf) es (bs.map prOf) []) 4 (rO 4 (optL (alL (fun x => mayR c.b1 c.b2 c.b3 c.b4 (brOf (bs.getD x default)) (prOf (bs.getD x default)) (es.getD x default) now) n))) (rQ c n (bs.map brOf) es (bs.map prOf) (rK 4 (optL (alL (fun x => mayR c.b1 c.b2 c.b3 c.b4 (brOf (bs.getD x default)) (prOf (bs.getD x default)) (es.getD x default) now) n)))) := by
  rw [← alL_congr (p := fun x => mayR c.b1 c.b2 c.b3 c.b4 ((bs.map brOf).getD x default) ((bs.map prOf).getD x default) (es.getD x default) now) (fun x hx => by rw [getD_br (by omega), getD_pr (by omega)])]
  by_cases h0 : alL (fun x => mayR c.b1 c.b2 c.b3 c.b4 ((bs.map brOf).getD x default) ((bs.map prOf).getD x default) (es.getD x default) now) n = []
  · rw [h0]; exact ra_none (by rw [List.length_map]; exact hb) he (by rw [List.length_map]; exact hb) hn h0
  · rw [optL_ne h0]; exact ra_some (by rw [List.length_map]; exact hb) he (by rw [List.length_map]; exact hb) hn h0
theorem due_opt (hb : bs.length = n) (he : es.length = n) (hn : n ≤ 64) (ht : 0 ≤ now ∧ now ≤ 253402300799) : CallOK Try.prog 22 [pN 1, vI now] (hQ c n bs es []) 3 (rO 3 (optL (alL (fun x => due_0 (bs.getD x default).up (bs.getD x default).run (bs.getD x default).nxt (bs.getD x default).ot (bs.getD x default).since now) n))) (hQ c n bs es (rK 3 (optL (alL (fun x => due_0 (bs.getD x default).up (bs.getD x default).run (bs.getD x default).nxt (bs.getD x default).ot (bs.getD x default).since now) n)))) := by
  by_cases h0 : (alL (fun x => due_0 (bs.getD x default).up (bs.getD x default).run (bs.getD x default).nxt (bs.getD x default).ot (bs.getD x default).since now) n) = []
  · rw [h0]; exact du_none hb he ht hn h0
  · rw [optL_ne h0]; exact du_some hb he ht hn h0
theorem rdue_opt (hb : bs.length = n) (he : es.length = n) (hn : n ≤ 64) (ht : 0 ≤ now ∧ now ≤ 253402300799) : CallOK Try.prog 34 [pN 0, vI now] (rQ c n (bs.map brOf) es (bs.map prOf) []) 4 (rO 4 (optL (alL (fun x => due_0 (bs.getD x default).up (bs.getD x default).run (bs.getD x default).nxt (bs.getD x default).ot (bs.getD x default).since now) n))) (rQ c n (bs.map brOf) es (bs.map prOf) (rK 4 (optL (alL (fun x => due_0 (bs.getD x default).up (bs.getD x default).run (bs.getD x default).nxt (bs.getD x default).ot (bs.getD x default).since now) n)))) := by
  rw [← alL_congr (p := fun x => rdue_0 ((bs.map prOf).getD x default).1 ((bs.map prOf).getD x default).2.1 ((bs.map prOf).getD x default).2.2.1 ((bs.map prOf).getD x default).2.2.2.1 ((bs.map prOf).getD x default).2.2.2.2 now) (fun x hx => by rw [getD_pr (by omega)]; rfl)]
  by_cases h0 : (alL (fun x => rdue_0 ((bs.map prOf).getD x default).1 ((bs.map prOf).getD x default).2.1 ((bs.map prOf).getD x default).2.2.1 ((bs.map prOf).getD x default).2.2.2.1 ((bs.map prOf).getD x default).2.2.2.2 now) n) = []
  · rw [h0]; exact rd_none (by rw [List.length_map]; exact hb) he (by rw [List.length_map]; exact hb) ht hn h0
  · rw [optL_ne h0]; exact rd_some (by rw [List.length_map]; exact hb) he (by rw [List.length_map]; exact hb) ht hn h0
theorem late_opt (hb : bs.length = n) (he : es.length = n) (hn : n ≤ 64) (ht : 0 ≤ now ∧ now ≤ 253402300799) : CallOK Try.prog 23 [pN 1, vI now] (hQ c n bs es []) 3 (rO 3 (optL (alL (fun x => late_0 c.p1 c.p2 c.p3 c.p4 (bs.getD x default).up (bs.getD x default).run (bs.getD x default).nxt (bs.getD x default).ot (bs.getD x default).since now) n))) (hQ c n bs es (rK 3 (optL (alL (fun x => late_0 c.p1 c.p2 c.p3 c.p4 (bs.getD x default).up (bs.getD x default).run (bs.getD x default).nxt (bs.getD x default).ot (bs.getD x default).since now) n)))) := by
  by_cases h0 : (alL (fun x => late_0 c.p1 c.p2 c.p3 c.p4 (bs.getD x default).up (bs.getD x default).run (bs.getD x default).nxt (bs.getD x default).ot (bs.getD x default).since now) n) = []
  · rw [h0]; exact la_none hb he ht hn h0
  · rw [optL_ne h0]; exact la_some hb he ht hn h0
theorem rlate_opt (hb : bs.length = n) (he : es.length = n) (hn : n ≤ 64) (ht : 0 ≤ now ∧ now ≤ 253402300799) (hc : pcheck_0 c.p1 c.p2 c.p3 c.p4 = 0) (hs : ∀ b ∈ bs, 0 ≤ b.since) : CallOK Try.prog 35 [pN 0, vI now] (rQ c n (bs.map brOf) es (bs.map prOf) []) 4 (rO 4 (optL (alL (fun x => late_0 c.p1 c.p2 c.p3 c.p4 (bs.getD x default).up (bs.getD x default).run (bs.getD x default).nxt (bs.getD x default).ot (bs.getD x default).since now) n))) (rQ c n (bs.map brOf) es (bs.map prOf) (rK 4 (optL (alL (fun x => late_0 c.p1 c.p2 c.p3 c.p4 (bs.getD x default).up (bs.getD x default).run (bs.getD x default).nxt (bs.getD x default).ot (bs.getD x default).since now) n)))) := by
  rw [← alL_congr (p := fun x => rlate_0 c.p1 c.p2 c.p3 c.p4 ((bs.map prOf).getD x default).1 ((bs.map prOf).getD x default).2.1 ((bs.map prOf).getD x default).2.2.1 ((bs.map prOf).getD x default).2.2.2.1 ((bs.map prOf).getD x default).2.2.2.2 now) (fun x hx => by rw [getD_pr (by omega)]; exact rlate_eq hc ht (since_at hs))]
  by_cases h0 : (alL (fun x => rlate_0 c.p1 c.p2 c.p3 c.p4 ((bs.map prOf).getD x default).1 ((bs.map prOf).getD x default).2.1 ((bs.map prOf).getD x default).2.2.1 ((bs.map prOf).getD x default).2.2.2.1 ((bs.map prOf).getD x default).2.2.2.2 now) n) = []
  · rw [h0]; exact rl_none (by rw [List.length_map]; exact hb) he (by rw [List.length_map]; exact hb) ht hn h0
  · rw [optL_ne h0]; exact rl_some (by rw [List.length_map]; exact hb) he (by rw [List.length_map]; exact hb) ht hn h0
theorem may_opt {i : Int} (hb : bs.length = n) (he : es.length = n) (hn : n ≤ 64) (hc : bcheck_0 c.b1 c.b2 c.b3 c.b4 = 0) : CallOK Try.prog 18 [pN 1, vI i, vI now] (hQ c n bs es []) 3 (.bool (decide (0 ≤ i ∧ i < (n : Int)) && mayR c.b1 c.b2 c.b3 c.b4 (brOf (bs.getD i.toNat default)) (prOf (bs.getD i.toNat default)) (es.getD i.toNat default) now)) (hQ c n bs es []) := by
  by_cases hi : 0 ≤ i ∧ i < (n : Int)
  · obtain ⟨x, rfl⟩ : ∃ x : Nat, i = (x : Int) := ⟨i.toNat, by omega⟩
    rw [decide_eq_true hi, Bool.true_and, Int.toNat_natCast]
    by_cases ht : 0 ≤ now ∧ now ≤ 253402300799
    · rw [mayR_eq hc ht]; exact hmay_ok hb he (by omega) ht
    · rw [mayR_bad ht]; exact may_bad (by omega)
  · rw [decide_eq_false hi, Bool.false_and]
    exact may_bad (by omega)
theorem rmay_opt {i : Int} (hb : bs.length = n) (he : es.length = n) (hn : n ≤ 64) : CallOK Try.prog 36 [pN 0, vI i, vI now] (rQ c n (bs.map brOf) es (bs.map prOf) []) 4 (.bool (decide (0 ≤ i ∧ i < (n : Int)) && mayR c.b1 c.b2 c.b3 c.b4 (brOf (bs.getD i.toNat default)) (prOf (bs.getD i.toNat default)) (es.getD i.toNat default) now)) (rQ c n (bs.map brOf) es (bs.map prOf) []) := by
  by_cases hi : 0 ≤ i ∧ i < (n : Int)
  · obtain ⟨x, rfl⟩ : ∃ x : Nat, i = (x : Int) := ⟨i.toNat, by omega⟩
    rw [decide_eq_true hi, Bool.true_and, Int.toNat_natCast]
    have h := rmay_ok (now := now) (k := x) (rb := bs.map brOf) (rp := bs.map prOf) (by rw [List.length_map]; exact hb) he (by rw [List.length_map]; exact hb) (by omega) (b1 := c.b1) (b2 := c.b2) (b3 := c.b3) (b4 := c.b4) (e1 := c.e1) (e2 := c.e2) (e3 := c.e3) (e4 := c.e4) (p1 := c.p1) (p2 := c.p2) (p3 := c.p3) (p4 := c.p4)
    rw [getD_br (by omega), getD_pr (by omega)] at h
    exact h
  · rw [decide_eq_false hi, Bool.false_and]
    exact rmay_bad hi
theorem chk_holds {acts : List ActT} {wild : Int} {i : Nat} {a : ActT} {ts : Option (List TrT)} {okv : Bool} (hc : hcheck_0 c.b1 c.b2 c.b3 c.b4 c.e1 c.e2 c.e3 c.e4 c.p1 c.p2 c.p3 c.p4 = 0) (hb : bs.length = n) (he : es.length = n) (hn : n ≤ 64) (hp : 0 < n) (ht : 0 ≤ now ∧ now ≤ 253402300799) (hs : ∀ b ∈ bs, 0 ≤ b.since) (hok : okv = true) : ChkOK c n acts wild i a bs es (bs.map brOf) es (bs.map prOf) ts now okv := by
  obtain ⟨c1, c2, c3⟩ := hcheck_parts hc
  have h32 := rstate_ok (rb := bs.map brOf) (rp := bs.map prOf) (by rw [List.length_map]; exact hb) he (by rw [List.length_map]; exact hb) hp hn (b1 := c.b1) (b2 := c.b2) (b3 := c.b3) (b4 := c.b4) (e1 := c.e1) (e2 := c.e2) (e3 := c.e3) (e4 := c.e4) (p1 := c.p1) (p2 := c.p2) (p3 := c.p3) (p4 := c.p4)
  rw [stR_eq hb] at h32
  have h31 := same_hl (hs := stL bs es n) (by rw [stL_len]; exact hn)
  rw [stL_len] at h31
  have hl : ∀ p : Nat → Bool, (alL p n).length ≤ 64 := fun p => Nat.le_trans (alL_le p n) hn
  exact chk_all hok (state_ok hb he hp hn) h32 h31 (all_opt hb he hn c1) (rall_opt hb he hn) (same_opt (hl _)) (due_opt hb he hn ht) (rdue_opt hb he hn ht) (same_opt (hl _)) (late_opt hb he hn ht) (rlate_opt hb he hn ht c3 hs) (same_opt (hl _)) (may_opt hb he hn c1) (rmay_opt hb he hn) (all_opt hb he hn c1) (rall_opt hb he hn) (same_opt (hl _))
end
end
section
open Go.RowKit
set_option linter.unusedSectionVars false
set_option linter.unusedSimpArgs false
set_option linter.unusedVariables false
set_option maxRecDepth 100000
/-- A state of the loop over the events. -/
structure SS where
  bs : List BkT
  es : List EjT
  ts : Option (List TrT)
  now : Int
/-- What holds of it behind so many events. -/
structure IS (n k : Nat) (s : SS) : Prop where
  hb : s.bs.length = n
  he : s.es.length = n
  ht : ∀ t ∈ s.ts.getD [], 0 ≤ t.1 ∧ t.1 < n
  hl : (s.ts.getD []).length ≤ k
  n0 : 0 ≤ s.now
  n1 : s.now ≤ 50 * k
  sc : ∀ b ∈ s.bs, 0 ≤ b.since
variable [Inhabited RawG]
abbrev stF (acts : List ActT) (wild : Int) (k : Nat) (s : SS) : List Value := yE acts wild (pN 3265) (pN 3267) (oSl 3271 s.ts) s.now k
abbrev stH (c : CT) (n : Nat) (s : SS) : Heap := hM c n s.bs s.es (s.bs.map brOf) s.es (s.bs.map prOf) (oHp 3271 s.ts)
abbrev RS (acts : List ActT) (wild : Int) (c : CT) (n k : Nat) (s s' : SS) : Prop := RoundTo2 Try.prog callQ 10 100 (loopN Try.prog 6 0) 3264 3280 [2, 3, 9, 11, 13, 14, 15] .normal (stF acts wild k s) (stH c n s) (stF acts wild (k + 1) s') (stH c n s') 3280
theorem nwE_rng {acts : List ActT} {k : Nat} {now : Int} (h0 : 0 ≤ now) (h1 : now ≤ 100000) : now ≤ nwE acts k now ∧ nwE acts k now ≤ now + 49 := by
  have p := pick_rng (aI acts k).m (m := 50) (by omega) (by omega)
  unfold nwE
  rw [w64 (by omega)]
  omega
theorem is_up {n k : Nat} {bs bs2 : List BkT} {es es2 : List EjT} {ts ts2 : Option (List TrT)} {now nw : Int} (hI : IS n k ⟨bs, es, ts, now⟩) (hb : bs2.length = n) (he : es2.length = n) (hw : now ≤ nw ∧ nw ≤ now + 49) (ht : ∀ t ∈ ts2.getD [], t ∈ ts.getD [] ∨ (0 ≤ t.1 ∧ t.1 < n)) (hl : (ts2.getD []).length ≤ (ts.getD []).length + 1) (hs : ∀ b ∈ bs2, 0 ≤ b.since) : IS n (k + 1) ⟨bs2, es2, ts2, nw⟩ := by
  obtain ⟨a1, a2, a3, a4, a5, a6, a7⟩ := hI
  dsimp only at a1 a2 a3 a4 a5 a6 a7
  exact ⟨hb, he, fun t h => (ht t h).elim (a3 t) id, by dsimp only; omega, by dsimp only; omega, by dsimp only; omega, hs⟩
section
variable {acts : List ActT} {wild : Int} {c : CT} {n k : Nat} {bs bs2 : List BkT} {es : List EjT} {ts : Option (List TrT)} {now ep er : Int}
theorem fin0t (hA : rg.cells 0 = acts.flatMap actF) (hc : hcheck_0 c.b1 c.b2 c.b3 c.b4 c.e1 c.e2 c.e3 c.e4 c.p1 c.p2 c.p3 c.p4 = 0) (h80 : acts.length ≤ 80) (hp0 : 0 < n) (hn : n ≤ 64) (hk : k < acts.length) (hI : IS n k ⟨bs, es, ts, now⟩) (hkd : pick_0 (aI acts k).k 6 = 0) (hx : 0 ≤ (aI acts k).i ∧ (aI acts k).i < (n : Int)) (d0 : CallOK Try.prog 13 [pN 1, vI (aI acts k).i, vI (nwE acts k now)] (hQ c n bs es []) 3 (.tuple #[vI ep, vI 0]) (hQ c n bs2 es [])) (d1 : CallOK Try.prog 26 [pN 0, vI (aI acts k).i, vI (nwE acts k now)] (rQ c n (bs.map brOf) es (bs.map prOf) []) 4 (.tuple #[vI ep, vI 0]) (rQ c n (bs2.map brOf) es (bs.map prOf) [])) (hb2 : bs2.length = n) (hpr : bs2.map prOf = bs.map prOf) (hs2 : ∀ b ∈ bs2, 0 ≤ b.since) : ∃ s', IS n (k + 1) s' ∧ RS acts wild c n k ⟨bs, es, ts, now⟩ s' := by
  obtain ⟨c1, c2, c3⟩ := hcheck_parts hc
  have hb := hI.hb
  have he := hI.he
  have hl := hI.hl
  have hn0 := hI.n0
  have hn1 := hI.n1
  have hs := hI.sc
  dsimp only at hb he hl hn0 hn1 hs
  have hw := nwE_rng (acts := acts) (k := k) hn0 (by omega)
  have ht : 0 ≤ nwE acts k now ∧ nwE acts k now ≤ 253402300799 := by omega
  have hbm := bmay_in c1 ht
  have hy := chk_holds (acts := acts) (wild := wild) (i := k) (a := aI acts k) (bs := bs2) (es := es) (ts := (some (ts.getD [] ++ [((aI acts k).i, ep)]))) (okv := true) hc hb2 he hn hp0 ht hs2 (by simp)
  rw [hpr] at hy
  refine ⟨⟨bs2, es, some (ts.getD [] ++ [((aI acts k).i, ep)]), (nwE acts k now)⟩, is_up hI hb2 he hw (fun t h => ?_) (by simp) hs2, ?_⟩
  · simp only [Option.getD_some, List.mem_append, List.mem_singleton] at h
    exact h.imp id fun h => by subst h; exact hx
  · unfold RS stH stF
    dsimp only
    rw [hpr, oHp_pos (by simp)]
    have hy2 : ChkO c n acts wild k (aI acts k) bs2 es (bs2.map brOf) es (bs.map prOf) (oSl 8 (some (ts.getD [] ++ [((aI acts k).i, ep)]))) [(8, ⟨54, (ts.getD [] ++ [((aI acts k).i, ep)]).flatMap trF, 3⟩)] (nwE acts k now) true := by
      unfold ChkOK at hy
      rw [oHp_pos (by simp)] at hy
      exact hy
    cases ts with
    | none => exact ev_nil0t0 (ts := []) (es2 := es) (re2 := es) (rp2 := []) (q := 0) (er := 0) hA hk h80 (Nat.zero_le _) hkd d0 d1 (by simp) rfl hy2
    | some l =>
      cases l with
      | nil => exact ev_emp0t0 (ts := []) (es2 := es) (re2 := es) (rp2 := []) (q := 0) (er := 0) hA hk h80 (Nat.zero_le _) hkd d0 d1 (by simp) rfl hy2
      | cons a r => exact ev_row0t0 (ts := a :: r) (es2 := es) (re2 := es) (rp2 := []) (q := 0) (er := 0) hA hk h80 (by simp only [Option.getD_some] at hl; omega) hkd (Nat.succ_pos _) d0 d1 (snoc_tr _ _).symm (by simp) hy2
theorem fin0f (hA : rg.cells 0 = acts.flatMap actF) (hc : hcheck_0 c.b1 c.b2 c.b3 c.b4 c.e1 c.e2 c.e3 c.e4 c.p1 c.p2 c.p3 c.p4 = 0) (h80 : acts.length ≤ 80) (hp0 : 0 < n) (hn : n ≤ 64) (hk : k < acts.length) (hI : IS n k ⟨bs, es, ts, now⟩) (hkd : pick_0 (aI acts k).k 6 = 0) (d0 : CallOK Try.prog 13 [pN 1, vI (aI acts k).i, vI (nwE acts k now)] (hQ c n bs es []) 3 (.tuple #[vI 0, vI er]) (hQ c n bs es [])) (d1 : CallOK Try.prog 26 [pN 0, vI (aI acts k).i, vI (nwE acts k now)] (rQ c n (bs.map brOf) es (bs.map prOf) []) 4 (.tuple #[vI 0, vI er]) (rQ c n (bs.map brOf) es (bs.map prOf) [])) (hr : er ≠ 0) : ∃ s', IS n (k + 1) s' ∧ RS acts wild c n k ⟨bs, es, ts, now⟩ s' := by
  obtain ⟨c1, c2, c3⟩ := hcheck_parts hc
  have hb := hI.hb
  have he := hI.he
  have hl := hI.hl
  have hn0 := hI.n0
  have hn1 := hI.n1
  have hs := hI.sc
  dsimp only at hb he hl hn0 hn1 hs
  have hw := nwE_rng (acts := acts) (k := k) hn0 (by omega)
  have ht : 0 ≤ nwE acts k now ∧ nwE acts k now ≤ 253402300799 := by omega
  have hbm := bmay_in c1 ht
  have hy := chk_holds (acts := acts) (wild := wild) (i := k) (a := aI acts k) (bs := bs) (es := es) (ts := ts) (okv := (er == er)) hc hb he hn hp0 ht hs (by simp)
  refine ⟨⟨bs, es, ts, (nwE acts k now)⟩, is_up hI hb he hw (fun t h => .inl h) (Nat.le_succ _) hs, ?_⟩
  cases ts with
  | none => exact ev_nil0f0 (ts := []) (bs2 := []) (es2 := []) (re2 := []) (rb2 := []) (rp2 := []) (ts2 := []) (q := 0) (ep := 0) hA hk h80 (Nat.zero_le _) hkd d0 d1 hr hy
  | some l =>
    cases l with
    | nil => exact ev_emp0f0 (ts := []) (bs2 := []) (es2 := []) (re2 := []) (rb2 := []) (rp2 := []) (ts2 := []) (q := 0) (ep := 0) hA hk h80 (Nat.zero_le _) hkd d0 d1 hr hy
    | cons a r => exact ev_row0f0 (ts := a :: r) (bs2 := []) (es2 := []) (re2 := []) (rb2 := []) (rp2 := []) (ts2 := []) (q := 0) (ep := 0) hA hk h80 (by simp only [Option.getD_some] at hl; omega) hkd (Nat.succ_pos _) d0 d1 hr hy
theorem step0 (hA : rg.cells 0 = acts.flatMap actF) (hc : hcheck_0 c.b1 c.b2 c.b3 c.b4 c.e1 c.e2 c.e3 c.e4 c.p1 c.p2 c.p3 c.p4 = 0) (h80 : acts.length ≤ 80) (hp0 : 0 < n) (hn : n ≤ 64) (hk : k < acts.length) (hI : IS n k ⟨bs, es, ts, now⟩) (hkd : pick_0 (aI acts k).k 6 = 0) : ∃ s', IS n (k + 1) s' ∧ RS acts wild c n k ⟨bs, es, ts, now⟩ s' := by
  obtain ⟨c1, c2, c3⟩ := hcheck_parts hc
  have hb := hI.hb
  have he := hI.he
  have hl := hI.hl
  have hn0 := hI.n0
  have hn1 := hI.n1
  have hs := hI.sc
  dsimp only at hb he hl hn0 hn1 hs
  have hw := nwE_rng (acts := acts) (k := k) hn0 (by omega)
  have ht : 0 ≤ nwE acts k now ∧ nwE acts k now ≤ 253402300799 := by omega
  have hbm := bmay_in c1 ht
  by_cases hx : 0 ≤ (aI acts k).i ∧ (aI acts k).i < (n : Int)
  · obtain ⟨x, hxe⟩ : ∃ x : Nat, (aI acts k).i = (x : Int) := ⟨(aI acts k).i.toNat, by omega⟩
    have hxn : x < n := by omega
    have hM := hmay_ok (k := x) hb he hxn ht (b1 := c.b1) (b2 := c.b2) (b3 := c.b3) (b4 := c.b4) (e1 := c.e1) (e2 := c.e2) (e3 := c.e3) (e4 := c.e4) (p1 := c.p1) (p2 := c.p2) (p3 := c.p3) (p4 := c.p4)
    have hR := rmay_ok (now := (nwE acts k now)) (k := x) (rb := bs.map brOf) (rp := bs.map prOf) (es := es) (by rw [List.length_map]; exact hb) he (by rw [List.length_map]; exact hb) hxn (b1 := c.b1) (b2 := c.b2) (b3 := c.b3) (b4 := c.b4) (e1 := c.e1) (e2 := c.e2) (e3 := c.e3) (e4 := c.e4) (p1 := c.p1) (p2 := c.p2) (p3 := c.p3) (p4 := c.p4)
    rw [getD_br (by omega), getD_pr (by omega), mayR_eq c1 ht] at hR
    rcases Bool.eq_false_or_eq_true (mayE c.b1 c.b2 c.b3 c.b4 (bs.getD x default) (es.getD x default) (nwE acts k now)) with hm | hm
    · rw [hm] at hM hR
      have d0 := begin_t hb he hxn ht hM
      have d1 := rbegin_t (by rw [List.length_map]; exact hb) he (by rw [List.length_map]; exact hb) hxn ht hR
      rw [bg7 hbm hm] at d0
      rw [getD_br (by omega), rbegin6_eq c1 ht, rbegin7_eq c1 ht, ← br_bg (e1 := c.e1) (e2 := c.e2) (e3 := c.e3) (e4 := c.e4) (p1 := c.p1) (p2 := c.p2) (p3 := c.p3) (p4 := c.p4) c1 ht, ← List.map_set, bg7 hbm hm] at d1
      rw [← hxe] at d0 d1
      exact fin0t hA hc h80 hp0 hn hk hI hkd hx d0 d1 (by rw [List.length_set]; exact hb) (map_keep rfl) (since_set hs (since_at hs))
    · rw [hm] at hM hR
      have d0 := begin_f hb he hxn ht hM
      have d1 := rbegin_f (by rw [List.length_map]; exact hb) he (by rw [List.length_map]; exact hb) hxn ht hR
      rw [← hxe] at d0 d1
      exact fin0f hA hc h80 hp0 hn hk hI hkd d0 d1 (by decide)
  · exact fin0f (er := 2) hA hc h80 hp0 hn hk hI hkd (begin_bad (by omega)) (rbegin_bad hx) (by decide)
theorem fin1t (hA : rg.cells 0 = acts.flatMap actF) (hc : hcheck_0 c.b1 c.b2 c.b3 c.b4 c.e1 c.e2 c.e3 c.e4 c.p1 c.p2 c.p3 c.p4 = 0) (h80 : acts.length ≤ 80) (hp0 : 0 < n) (hn : n ≤ 64) (hk : k < acts.length) (hI : IS n k ⟨bs, es, ts, now⟩) (hkd : pick_0 (aI acts k).k 6 = 1) (hx : 0 ≤ (aI acts k).i ∧ (aI acts k).i < (n : Int)) (d0 : CallOK Try.prog 13 [pN 1, vI (aI acts k).i, vI (nwE acts k now)] (hQ c n bs es []) 3 (.tuple #[vI ep, vI 0]) (hQ c n bs2 es [])) (d1 : CallOK Try.prog 26 [pN 0, vI (aI acts k).i, vI (nwE acts k now)] (rQ c n (bs.map brOf) es (bs.map prOf) []) 4 (.tuple #[vI ep, vI 0]) (rQ c n (bs2.map brOf) es (bs.map prOf) [])) (hb2 : bs2.length = n) (hpr : bs2.map prOf = bs.map prOf) (hs2 : ∀ b ∈ bs2, 0 ≤ b.since) : ∃ s', IS n (k + 1) s' ∧ RS acts wild c n k ⟨bs, es, ts, now⟩ s' := by
  obtain ⟨c1, c2, c3⟩ := hcheck_parts hc
  have hb := hI.hb
  have he := hI.he
  have hl := hI.hl
  have hn0 := hI.n0
  have hn1 := hI.n1
  have hs := hI.sc
  dsimp only at hb he hl hn0 hn1 hs
  have hw := nwE_rng (acts := acts) (k := k) hn0 (by omega)
  have ht : 0 ≤ nwE acts k now ∧ nwE acts k now ≤ 253402300799 := by omega
  have hbm := bmay_in c1 ht
  have hy := chk_holds (acts := acts) (wild := wild) (i := k) (a := aI acts k) (bs := bs2) (es := es) (ts := (some (ts.getD [] ++ [((aI acts k).i, ep)]))) (okv := true) hc hb2 he hn hp0 ht hs2 (by simp)
  rw [hpr] at hy
  refine ⟨⟨bs2, es, some (ts.getD [] ++ [((aI acts k).i, ep)]), (nwE acts k now)⟩, is_up hI hb2 he hw (fun t h => ?_) (by simp) hs2, ?_⟩
  · simp only [Option.getD_some, List.mem_append, List.mem_singleton] at h
    exact h.imp id fun h => by subst h; exact hx
  · unfold RS stH stF
    dsimp only
    rw [hpr, oHp_pos (by simp)]
    have hy2 : ChkO c n acts wild k (aI acts k) bs2 es (bs2.map brOf) es (bs.map prOf) (oSl 8 (some (ts.getD [] ++ [((aI acts k).i, ep)]))) [(8, ⟨54, (ts.getD [] ++ [((aI acts k).i, ep)]).flatMap trF, 3⟩)] (nwE acts k now) true := by
      unfold ChkOK at hy
      rw [oHp_pos (by simp)] at hy
      exact hy
    cases ts with
    | none => exact ev_nil1t0 (ts := []) (es2 := es) (re2 := es) (rp2 := []) (q := 0) (er := 0) hA hk h80 (Nat.zero_le _) hkd d0 d1 (by simp) rfl hy2
    | some l =>
      cases l with
      | nil => exact ev_emp1t0 (ts := []) (es2 := es) (re2 := es) (rp2 := []) (q := 0) (er := 0) hA hk h80 (Nat.zero_le _) hkd d0 d1 (by simp) rfl hy2
      | cons a r => exact ev_row1t0 (ts := a :: r) (es2 := es) (re2 := es) (rp2 := []) (q := 0) (er := 0) hA hk h80 (by simp only [Option.getD_some] at hl; omega) hkd (Nat.succ_pos _) d0 d1 (snoc_tr _ _).symm (by simp) hy2
theorem fin1f (hA : rg.cells 0 = acts.flatMap actF) (hc : hcheck_0 c.b1 c.b2 c.b3 c.b4 c.e1 c.e2 c.e3 c.e4 c.p1 c.p2 c.p3 c.p4 = 0) (h80 : acts.length ≤ 80) (hp0 : 0 < n) (hn : n ≤ 64) (hk : k < acts.length) (hI : IS n k ⟨bs, es, ts, now⟩) (hkd : pick_0 (aI acts k).k 6 = 1) (d0 : CallOK Try.prog 13 [pN 1, vI (aI acts k).i, vI (nwE acts k now)] (hQ c n bs es []) 3 (.tuple #[vI 0, vI er]) (hQ c n bs es [])) (d1 : CallOK Try.prog 26 [pN 0, vI (aI acts k).i, vI (nwE acts k now)] (rQ c n (bs.map brOf) es (bs.map prOf) []) 4 (.tuple #[vI 0, vI er]) (rQ c n (bs.map brOf) es (bs.map prOf) [])) (hr : er ≠ 0) : ∃ s', IS n (k + 1) s' ∧ RS acts wild c n k ⟨bs, es, ts, now⟩ s' := by
  obtain ⟨c1, c2, c3⟩ := hcheck_parts hc
  have hb := hI.hb
  have he := hI.he
  have hl := hI.hl
  have hn0 := hI.n0
  have hn1 := hI.n1
  have hs := hI.sc
  dsimp only at hb he hl hn0 hn1 hs
  have hw := nwE_rng (acts := acts) (k := k) hn0 (by omega)
  have ht : 0 ≤ nwE acts k now ∧ nwE acts k now ≤ 253402300799 := by omega
  have hbm := bmay_in c1 ht
  have hy := chk_holds (acts := acts) (wild := wild) (i := k) (a := aI acts k) (bs := bs) (es := es) (ts := ts) (okv := (er == er)) hc hb he hn hp0 ht hs (by simp)
  refine ⟨⟨bs, es, ts, (nwE acts k now)⟩, is_up hI hb he hw (fun t h => .inl h) (Nat.le_succ _) hs, ?_⟩
  cases ts with
  | none => exact ev_nil1f0 (ts := []) (bs2 := []) (es2 := []) (re2 := []) (rb2 := []) (rp2 := []) (ts2 := []) (q := 0) (ep := 0) hA hk h80 (Nat.zero_le _) hkd d0 d1 hr hy
  | some l =>
    cases l with
    | nil => exact ev_emp1f0 (ts := []) (bs2 := []) (es2 := []) (re2 := []) (rb2 := []) (rp2 := []) (ts2 := []) (q := 0) (ep := 0) hA hk h80 (Nat.zero_le _) hkd d0 d1 hr hy
    | cons a r => exact ev_row1f0 (ts := a :: r) (bs2 := []) (es2 := []) (re2 := []) (rb2 := []) (rp2 := []) (ts2 := []) (q := 0) (ep := 0) hA hk h80 (by simp only [Option.getD_some] at hl; omega) hkd (Nat.succ_pos _) d0 d1 hr hy
theorem step1 (hA : rg.cells 0 = acts.flatMap actF) (hc : hcheck_0 c.b1 c.b2 c.b3 c.b4 c.e1 c.e2 c.e3 c.e4 c.p1 c.p2 c.p3 c.p4 = 0) (h80 : acts.length ≤ 80) (hp0 : 0 < n) (hn : n ≤ 64) (hk : k < acts.length) (hI : IS n k ⟨bs, es, ts, now⟩) (hkd : pick_0 (aI acts k).k 6 = 1) : ∃ s', IS n (k + 1) s' ∧ RS acts wild c n k ⟨bs, es, ts, now⟩ s' := by
  obtain ⟨c1, c2, c3⟩ := hcheck_parts hc
  have hb := hI.hb
  have he := hI.he
  have hl := hI.hl
  have hn0 := hI.n0
  have hn1 := hI.n1
  have hs := hI.sc
  dsimp only at hb he hl hn0 hn1 hs
  have hw := nwE_rng (acts := acts) (k := k) hn0 (by omega)
  have ht : 0 ≤ nwE acts k now ∧ nwE acts k now ≤ 253402300799 := by omega
  have hbm := bmay_in c1 ht
  by_cases hx : 0 ≤ (aI acts k).i ∧ (aI acts k).i < (n : Int)
  · obtain ⟨x, hxe⟩ : ∃ x : Nat, (aI acts k).i = (x : Int) := ⟨(aI acts k).i.toNat, by omega⟩
    have hxn : x < n := by omega
    have hM := hmay_ok (k := x) hb he hxn ht (b1 := c.b1) (b2 := c.b2) (b3 := c.b3) (b4 := c.b4) (e1 := c.e1) (e2 := c.e2) (e3 := c.e3) (e4 := c.e4) (p1 := c.p1) (p2 := c.p2) (p3 := c.p3) (p4 := c.p4)
    have hR := rmay_ok (now := (nwE acts k now)) (k := x) (rb := bs.map brOf) (rp := bs.map prOf) (es := es) (by rw [List.length_map]; exact hb) he (by rw [List.length_map]; exact hb) hxn (b1 := c.b1) (b2 := c.b2) (b3 := c.b3) (b4 := c.b4) (e1 := c.e1) (e2 := c.e2) (e3 := c.e3) (e4 := c.e4) (p1 := c.p1) (p2 := c.p2) (p3 := c.p3) (p4 := c.p4)
    rw [getD_br (by omega), getD_pr (by omega), mayR_eq c1 ht] at hR
    rcases Bool.eq_false_or_eq_true (mayE c.b1 c.b2 c.b3 c.b4 (bs.getD x default) (es.getD x default) (nwE acts k now)) with hm | hm
    · rw [hm] at hM hR
      have d0 := begin_t hb he hxn ht hM
      have d1 := rbegin_t (by rw [List.length_map]; exact hb) he (by rw [List.length_map]; exact hb) hxn ht hR
      rw [bg7 hbm hm] at d0
      rw [getD_br (by omega), rbegin6_eq c1 ht, rbegin7_eq c1 ht, ← br_bg (e1 := c.e1) (e2 := c.e2) (e3 := c.e3) (e4 := c.e4) (p1 := c.p1) (p2 := c.p2) (p3 := c.p3) (p4 := c.p4) c1 ht, ← List.map_set, bg7 hbm hm] at d1
      rw [← hxe] at d0 d1
      exact fin1t hA hc h80 hp0 hn hk hI hkd hx d0 d1 (by rw [List.length_set]; exact hb) (map_keep rfl) (since_set hs (since_at hs))
    · rw [hm] at hM hR
      have d0 := begin_f hb he hxn ht hM
      have d1 := rbegin_f (by rw [List.length_map]; exact hb) he (by rw [List.length_map]; exact hb) hxn ht hR
      rw [← hxe] at d0 d1
      exact fin1f hA hc h80 hp0 hn hk hI hkd d0 d1 (by decide)
  · exact fin1f (er := 2) hA hc h80 hp0 hn hk hI hkd (begin_bad (by omega)) (rbegin_bad hx) (by decide)
theorem fin4 (hA : rg.cells 0 = acts.flatMap actF) (hc : hcheck_0 c.b1 c.b2 c.b3 c.b4 c.e1 c.e2 c.e3 c.e4 c.p1 c.p2 c.p3 c.p4 = 0) (h80 : acts.length ≤ 80) (hp0 : 0 < n) (hn : n ≤ 64) (hk : k < acts.length) (hI : IS n k ⟨bs, es, ts, now⟩) (hkd : pick_0 (aI acts k).k 6 = 4) (d0 : CallOK Try.prog 16 [pN 1, vI (aI acts k).i, vI (nwE acts k now)] (hQ c n bs es []) 3 (vI ep) (hQ c n bs2 es [])) (d1 : CallOK Try.prog 29 [pN 0, vI (aI acts k).i, vI (nwE acts k now)] (rQ c n (bs.map brOf) es (bs.map prOf) []) 4 (vI ep) (rQ c n (bs.map brOf) es (bs2.map prOf) [])) (hb2 : bs2.length = n) (hbr : bs2.map brOf = bs.map brOf) (hs2 : ∀ b ∈ bs2, 0 ≤ b.since) : ∃ s', IS n (k + 1) s' ∧ RS acts wild c n k ⟨bs, es, ts, now⟩ s' := by
  obtain ⟨c1, c2, c3⟩ := hcheck_parts hc
  have hb := hI.hb
  have he := hI.he
  have hl := hI.hl
  have hn0 := hI.n0
  have hn1 := hI.n1
  have hs := hI.sc
  dsimp only at hb he hl hn0 hn1 hs
  have hw := nwE_rng (acts := acts) (k := k) hn0 (by omega)
  have ht : 0 ≤ nwE acts k now ∧ nwE acts k now ≤ 253402300799 := by omega
  have hbm := bmay_in c1 ht
  have hy := chk_holds (acts := acts) (wild := wild) (i := k) (a := aI acts k) (bs := bs2) (es := es) (ts := ts) (okv := (ep == ep)) hc hb2 he hn hp0 ht hs2 (by simp)
  rw [hbr] at hy
  refine ⟨⟨bs2, es, ts, (nwE acts k now)⟩, is_up hI hb2 he hw (fun t h => .inl h) (Nat.le_succ _) hs2, ?_⟩
  unfold RS stH stF
  dsimp only
  rw [hbr]
  cases ts with
  | none => exact ev_nil4t0 (ts := []) (es2 := []) (re2 := []) (rb2 := []) (ts2 := []) (q := 0) (er := 0) hA hk h80 (Nat.zero_le _) hkd d0 d1 hy
  | some l =>
    cases l with
    | nil => exact ev_emp4t0 (ts := []) (es2 := []) (re2 := []) (rb2 := []) (ts2 := []) (q := 0) (er := 0) hA hk h80 (Nat.zero_le _) hkd d0 d1 hy
    | cons a r => exact ev_row4t0 (ts := a :: r) (es2 := []) (re2 := []) (rb2 := []) (ts2 := []) (q := 0) (er := 0) hA hk h80 (by simp only [Option.getD_some] at hl; omega) hkd (Nat.succ_pos _) d0 d1 hy
theorem step4 (hA : rg.cells 0 = acts.flatMap actF) (hc : hcheck_0 c.b1 c.b2 c.b3 c.b4 c.e1 c.e2 c.e3 c.e4 c.p1 c.p2 c.p3 c.p4 = 0) (h80 : acts.length ≤ 80) (hp0 : 0 < n) (hn : n ≤ 64) (hk : k < acts.length) (hI : IS n k ⟨bs, es, ts, now⟩) (hkd : pick_0 (aI acts k).k 6 = 4) : ∃ s', IS n (k + 1) s' ∧ RS acts wild c n k ⟨bs, es, ts, now⟩ s' := by
  obtain ⟨c1, c2, c3⟩ := hcheck_parts hc
  have hb := hI.hb
  have he := hI.he
  have hl := hI.hl
  have hn0 := hI.n0
  have hn1 := hI.n1
  have hs := hI.sc
  dsimp only at hb he hl hn0 hn1 hs
  have hw := nwE_rng (acts := acts) (k := k) hn0 (by omega)
  have ht : 0 ≤ nwE acts k now ∧ nwE acts k now ≤ 253402300799 := by omega
  have hbm := bmay_in c1 ht
  by_cases hx : 0 ≤ (aI acts k).i ∧ (aI acts k).i < (n : Int)
  · obtain ⟨x, hxe⟩ : ∃ x : Nat, (aI acts k).i = (x : Int) := ⟨(aI acts k).i.toNat, by omega⟩
    have hxn : x < n := by omega
    have d0 := probe_ok (k := x) hb he hxn ht (b1 := c.b1) (b2 := c.b2) (b3 := c.b3) (b4 := c.b4) (e1 := c.e1) (e2 := c.e2) (e3 := c.e3) (e4 := c.e4) (p1 := c.p1) (p2 := c.p2) (p3 := c.p3) (p4 := c.p4)
    have d1 := rprobe_ok (now := (nwE acts k now)) (k := x) (rb := bs.map brOf) (rp := bs.map prOf) (es := es) (by rw [List.length_map]; exact hb) he (by rw [List.length_map]; exact hb) hxn (b1 := c.b1) (b2 := c.b2) (b3 := c.b3) (b4 := c.b4) (e1 := c.e1) (e2 := c.e2) (e3 := c.e3) (e4 := c.e4) (p1 := c.p1) (p2 := c.p2) (p3 := c.p3) (p4 := c.p4)
    rw [getD_pr (by omega), rpbegin5_eq c3 ht, ← pr_pb (b1 := c.b1) (b2 := c.b2) (b3 := c.b3) (b4 := c.b4) (e1 := c.e1) (e2 := c.e2) (e3 := c.e3) (e4 := c.e4) c3 ht, ← List.map_set] at d1
    rw [← hxe] at d0 d1
    exact fin4 hA hc h80 hp0 hn hk hI hkd d0 d1 (by rw [List.length_set]; exact hb) (map_keep rfl) (since_set hs (pb_since (since_at hs) ht.1))
  · exact fin4 (ep := 2) (bs2 := bs) hA hc h80 hp0 hn hk hI hkd (probe_bad (by omega)) (rprobe_bad hx) hb rfl hs
theorem fin5 (hA : rg.cells 0 = acts.flatMap actF) (hc : hcheck_0 c.b1 c.b2 c.b3 c.b4 c.e1 c.e2 c.e3 c.e4 c.p1 c.p2 c.p3 c.p4 = 0) (h80 : acts.length ≤ 80) (hp0 : 0 < n) (hn : n ≤ 64) (hk : k < acts.length) (hI : IS n k ⟨bs, es, ts, now⟩) (hkd : pick_0 (aI acts k).k 6 = 5) (d0 : CallOK Try.prog 17 [pN 1, vI (aI acts k).i, .bool (aI acts k).w, vI (nwE acts k now)] (hQ c n bs es []) 3 (vI ep) (hQ c n bs2 es [])) (d1 : CallOK Try.prog 30 [pN 0, vI (aI acts k).i, .bool (aI acts k).w, vI (nwE acts k now)] (rQ c n (bs.map brOf) es (bs.map prOf) []) 4 (vI ep) (rQ c n (bs.map brOf) es (bs2.map prOf) [])) (hb2 : bs2.length = n) (hbr : bs2.map brOf = bs.map brOf) (hs2 : ∀ b ∈ bs2, 0 ≤ b.since) : ∃ s', IS n (k + 1) s' ∧ RS acts wild c n k ⟨bs, es, ts, now⟩ s' := by
  obtain ⟨c1, c2, c3⟩ := hcheck_parts hc
  have hb := hI.hb
  have he := hI.he
  have hl := hI.hl
  have hn0 := hI.n0
  have hn1 := hI.n1
  have hs := hI.sc
  dsimp only at hb he hl hn0 hn1 hs
  have hw := nwE_rng (acts := acts) (k := k) hn0 (by omega)
  have ht : 0 ≤ nwE acts k now ∧ nwE acts k now ≤ 253402300799 := by omega
  have hbm := bmay_in c1 ht
  have hy := chk_holds (acts := acts) (wild := wild) (i := k) (a := aI acts k) (bs := bs2) (es := es) (ts := ts) (okv := (ep == ep)) hc hb2 he hn hp0 ht hs2 (by simp)
  rw [hbr] at hy
  refine ⟨⟨bs2, es, ts, (nwE acts k now)⟩, is_up hI hb2 he hw (fun t h => .inl h) (Nat.le_succ _) hs2, ?_⟩
  unfold RS stH stF
  dsimp only
  rw [hbr]
  cases ts with
  | none => exact ev_nil5t0 (ts := []) (es2 := []) (re2 := []) (rb2 := []) (ts2 := []) (q := 0) (er := 0) hA hk h80 (Nat.zero_le _) hkd d0 d1 hy
  | some l =>
    cases l with
    | nil => exact ev_emp5t0 (ts := []) (es2 := []) (re2 := []) (rb2 := []) (ts2 := []) (q := 0) (er := 0) hA hk h80 (Nat.zero_le _) hkd d0 d1 hy
    | cons a r => exact ev_row5t0 (ts := a :: r) (es2 := []) (re2 := []) (rb2 := []) (ts2 := []) (q := 0) (er := 0) hA hk h80 (by simp only [Option.getD_some] at hl; omega) hkd (Nat.succ_pos _) d0 d1 hy
theorem step5 (hA : rg.cells 0 = acts.flatMap actF) (hc : hcheck_0 c.b1 c.b2 c.b3 c.b4 c.e1 c.e2 c.e3 c.e4 c.p1 c.p2 c.p3 c.p4 = 0) (h80 : acts.length ≤ 80) (hp0 : 0 < n) (hn : n ≤ 64) (hk : k < acts.length) (hI : IS n k ⟨bs, es, ts, now⟩) (hkd : pick_0 (aI acts k).k 6 = 5) : ∃ s', IS n (k + 1) s' ∧ RS acts wild c n k ⟨bs, es, ts, now⟩ s' := by
  obtain ⟨c1, c2, c3⟩ := hcheck_parts hc
  have hb := hI.hb
  have he := hI.he
  have hl := hI.hl
  have hn0 := hI.n0
  have hn1 := hI.n1
  have hs := hI.sc
  dsimp only at hb he hl hn0 hn1 hs
  have hw := nwE_rng (acts := acts) (k := k) hn0 (by omega)
  have ht : 0 ≤ nwE acts k now ∧ nwE acts k now ≤ 253402300799 := by omega
  have hbm := bmay_in c1 ht
  by_cases hx : 0 ≤ (aI acts k).i ∧ (aI acts k).i < (n : Int)
  · obtain ⟨x, hxe⟩ : ∃ x : Nat, (aI acts k).i = (x : Int) := ⟨(aI acts k).i.toNat, by omega⟩
    have hxn : x < n := by omega
    have d0 := probed_ok (k := x) (well := (aI acts k).w) hb he hxn ht (b1 := c.b1) (b2 := c.b2) (b3 := c.b3) (b4 := c.b4) (e1 := c.e1) (e2 := c.e2) (e3 := c.e3) (e4 := c.e4) (p1 := c.p1) (p2 := c.p2) (p3 := c.p3) (p4 := c.p4)
    have d1 := rprobed_ok (now := (nwE acts k now)) (well := (aI acts k).w) (k := x) (rb := bs.map brOf) (rp := bs.map prOf) (es := es) (by rw [List.length_map]; exact hb) he (by rw [List.length_map]; exact hb) hxn (b1 := c.b1) (b2 := c.b2) (b3 := c.b3) (b4 := c.b4) (e1 := c.e1) (e2 := c.e2) (e3 := c.e3) (e4 := c.e4) (p1 := c.p1) (p2 := c.p2) (p3 := c.p3) (p4 := c.p4)
    rw [getD_pr (by omega), rpend5_eq c3 ht, ← pr_pe (b1 := c.b1) (b2 := c.b2) (b3 := c.b3) (b4 := c.b4) (e1 := c.e1) (e2 := c.e2) (e3 := c.e3) (e4 := c.e4) c3 ht, ← List.map_set] at d1
    rw [← hxe] at d0 d1
    exact fin5 hA hc h80 hp0 hn hk hI hkd d0 d1 (by rw [List.length_set]; exact hb) (map_keep rfl) (since_set hs (pe_since (since_at hs)))
  · exact fin5 (ep := 2) (bs2 := bs) hA hc h80 hp0 hn hk hI hkd (probed_bad (by omega)) (rprobed_bad hx) hb rfl hs
theorem step2 (hA : rg.cells 0 = acts.flatMap actF) (hc : hcheck_0 c.b1 c.b2 c.b3 c.b4 c.e1 c.e2 c.e3 c.e4 c.p1 c.p2 c.p3 c.p4 = 0) (h80 : acts.length ≤ 80) (hp0 : 0 < n) (hn : n ≤ 64) (hk : k < acts.length) (hI : IS n k ⟨bs, es, ts, now⟩) (hkd : pick_0 (aI acts k).k 6 = 2) : ∃ s', IS n (k + 1) s' ∧ RS acts wild c n k ⟨bs, es, ts, now⟩ s' := by
  obtain ⟨c1, c2, c3⟩ := hcheck_parts hc
  have hb := hI.hb
  have he := hI.he
  have hl := hI.hl
  have hn0 := hI.n0
  have hn1 := hI.n1
  have hs := hI.sc
  dsimp only at hb he hl hn0 hn1 hs
  have hw := nwE_rng (acts := acts) (k := k) hn0 (by omega)
  have ht : 0 ≤ nwE acts k now ∧ nwE acts k now ≤ 253402300799 := by omega
  have hbm := bmay_in c1 ht
  cases ts with
  | none => exact ⟨⟨bs, es, none, (nwE acts k now)⟩, is_up hI hb he hw (fun t h => .inl h) (Nat.le_succ _) hs, ev_nil2t0 (ts := []) (bs2 := []) (es2 := []) (re2 := []) (rb2 := []) (rp2 := []) (ts2 := []) (q := 0) (ep := 0) (er := 0) hA hk h80 (Nat.zero_le _) hkd (chk_holds (acts := acts) (wild := wild) (i := k) (a := aI acts k) (bs := bs) (es := es) (ts := none) (okv := true) hc hb he hn hp0 ht hs (by simp))⟩
  | some l =>
    cases l with
    | nil => exact ⟨⟨bs, es, some [], (nwE acts k now)⟩, is_up hI hb he hw (fun t h => .inl h) (Nat.le_succ _) hs, ev_emp2t0 (ts := []) (bs2 := []) (es2 := []) (re2 := []) (rb2 := []) (rp2 := []) (ts2 := []) (q := 0) (ep := 0) (er := 0) hA hk h80 (Nat.zero_le _) hkd (chk_holds (acts := acts) (wild := wild) (i := k) (a := aI acts k) (bs := bs) (es := es) (ts := (some [])) (okv := true) hc hb he hn hp0 ht hs (by simp))⟩
    | cons a r =>
      simp only [Option.getD_some] at hl
      have hq := pick_rng (aI acts k).n (m := ((a :: r).length : Int)) (by simp only [List.length_cons]; omega) (by omega)
      obtain ⟨q, hqq⟩ : ∃ q : Nat, pick_0 (aI acts k).n ((a :: r).length : Int) = (q : Int) := ⟨_, (Int.toNat_of_nonneg hq.1).symm⟩
      have hqn : q < (a :: r).length := by omega
      have hmem : (a :: r).getD q default ∈ (a :: r) := by
        rw [List.getD_eq_getElem?_getD, List.getElem?_eq_getElem hqn]; exact List.getElem_mem hqn
      have hp := hI.ht _ hmem
      obtain ⟨x, hx⟩ : ∃ x : Nat, ((a :: r).getD q default).1 = (x : Int) := ⟨_, (Int.toNat_of_nonneg hp.1).symm⟩
      have hxn : x < n := by omega
      have d0 := end_ok (k := x) (ep := ((a :: r).getD q default).2) (well := (aI acts k).w) hb he hxn ht (by omega) (may_of (check_ok c2) ht.1 ht.2) (be6 hbm) (b1 := c.b1) (b2 := c.b2) (b3 := c.b3) (b4 := c.b4) (e1 := c.e1) (e2 := c.e2) (e3 := c.e3) (e4 := c.e4) (p1 := c.p1) (p2 := c.p2) (p3 := c.p3) (p4 := c.p4)
      have d1 := rend_ok (ep := ((a :: r).getD q default).2) (well := (aI acts k).w) (k := x) (rb := bs.map brOf) (rp := bs.map prOf) (es := es) (by rw [List.length_map]; exact hb) he (by rw [List.length_map]; exact hb) hxn ht hn (may_of (check_ok c2) ht.1 ht.2) (b1 := c.b1) (b2 := c.b2) (b3 := c.b3) (b4 := c.b4) (e1 := c.e1) (e2 := c.e2) (e3 := c.e3) (e4 := c.e4) (p1 := c.p1) (p2 := c.p2) (p3 := c.p3) (p4 := c.p4)
      rw [getD_br (by omega), ← br_ed (e1 := c.e1) (e2 := c.e2) (e3 := c.e3) (e4 := c.e4) (p1 := c.p1) (p2 := c.p2) (p3 := c.p3) (p4 := c.p4) c1 ht, ← List.map_set] at d1
      rw [← hx] at d0 d1
      have hlen : ((a :: r).eraseIdx q).length = (a :: r).length - 1 := List.length_eraseIdx_of_lt hqn
      have hb2 : (bs.set x (edT c.b1 c.b2 c.b3 c.b4 c.e1 c.e2 c.e3 c.e4 c.p1 c.p2 c.p3 c.p4 (bs.getD x default) ((a :: r).getD q default).2 (aI acts k).w (nwE acts k now))).length = n := by rw [List.length_set]; exact hb
      have hs2 : ∀ b ∈ (bs.set x (edT c.b1 c.b2 c.b3 c.b4 c.e1 c.e2 c.e3 c.e4 c.p1 c.p2 c.p3 c.p4 (bs.getD x default) ((a :: r).getD q default).2 (aI acts k).w (nwE acts k now))), 0 ≤ b.since := since_set hs (since_at hs)
      have hpr : (bs.set x (edT c.b1 c.b2 c.b3 c.b4 c.e1 c.e2 c.e3 c.e4 c.p1 c.p2 c.p3 c.p4 (bs.getD x default) ((a :: r).getD q default).2 (aI acts k).w (nwE acts k now))).map prOf = bs.map prOf := map_keep rfl
      have hy := chk_holds (acts := acts) (wild := wild) (i := k) (a := aI acts k) (bs := (bs.set x (edT c.b1 c.b2 c.b3 c.b4 c.e1 c.e2 c.e3 c.e4 c.p1 c.p2 c.p3 c.p4 (bs.getD x default) ((a :: r).getD q default).2 (aI acts k).w (nwE acts k now)))) (es := (es.set x (repE c.e1 c.e2 c.e3 c.e4 es x (aI acts k).w (nwE acts k now)))) (ts := (some ((a :: r).eraseIdx q))) (okv := true) hc hb2 (by rw [List.length_set]; exact he) hn hp0 ht hs2 (by simp)
      rw [hpr] at hy
      unfold ChkOK at hy
      refine ⟨⟨(bs.set x (edT c.b1 c.b2 c.b3 c.b4 c.e1 c.e2 c.e3 c.e4 c.p1 c.p2 c.p3 c.p4 (bs.getD x default) ((a :: r).getD q default).2 (aI acts k).w (nwE acts k now))), (es.set x (repE c.e1 c.e2 c.e3 c.e4 es x (aI acts k).w (nwE acts k now))), some ((a :: r).eraseIdx q), (nwE acts k now)⟩, is_up hI hb2 (by rw [List.length_set]; exact he) hw (fun t h => .inl (mem_er h)) (by simp only [Option.getD_some]; omega) hs2, ?_⟩
      unfold RS stH stF
      dsimp only
      rw [hpr]
      by_cases h0 : q = 0 <;> by_cases h1 : q + 1 < (a :: r).length
      · have hne : (a :: r).eraseIdx q ≠ [] := fun h => by rw [h] at hlen; simp only [List.length_nil, List.length_cons] at hlen h1; omega
        rw [oHp_pos hne] at hy ⊢
        exact ev_row2t0 (ts := a :: r) (q := q) (rp2 := []) (ep := 0) (er := 0) hA hk h80 (by omega) hkd hqq hqn h0 h1 (Nat.succ_pos _) d0 d1 (er_0 h0) (by omega) hy
      · have hnil : (a :: r).eraseIdx q = [] := List.length_eq_zero_iff.1 (by omega)
        rw [hnil] at hy ⊢
        exact ev_row2t1 (ts2 := []) (ts := a :: r) (q := q) (rp2 := []) (ep := 0) (er := 0) hA hk h80 (by omega) hkd hqq hqn h0 h1 (Nat.succ_pos _) d0 d1 hy
      · have hne : (a :: r).eraseIdx q ≠ [] := fun h => by rw [h] at hlen; simp only [List.length_nil, List.length_cons] at hlen h1; omega
        rw [oHp_pos hne] at hy ⊢
        exact ev_row2t2 (ts := a :: r) (q := q) (rp2 := []) (ep := 0) (er := 0) hA hk h80 (by omega) hkd hqq hqn h0 h1 (Nat.succ_pos _) d0 d1 er_m (by omega) hy
      · have hne : (a :: r).eraseIdx q ≠ [] := fun h => by rw [h] at hlen; simp only [List.length_nil, List.length_cons] at hlen h0 hqn; omega
        rw [oHp_pos hne] at hy ⊢
        exact ev_row2t3 (ts := a :: r) (q := q) (rp2 := []) (ep := 0) (er := 0) hA hk h80 (by omega) hkd hqq hqn h0 h1 (Nat.succ_pos _) d0 d1 (er_l h1) (by omega) hy
theorem step3 (hA : rg.cells 0 = acts.flatMap actF) (hc : hcheck_0 c.b1 c.b2 c.b3 c.b4 c.e1 c.e2 c.e3 c.e4 c.p1 c.p2 c.p3 c.p4 = 0) (h80 : acts.length ≤ 80) (hp0 : 0 < n) (hn : n ≤ 64) (hk : k < acts.length) (hI : IS n k ⟨bs, es, ts, now⟩) (hkd : pick_0 (aI acts k).k 6 = 3) : ∃ s', IS n (k + 1) s' ∧ RS acts wild c n k ⟨bs, es, ts, now⟩ s' := by
  obtain ⟨c1, c2, c3⟩ := hcheck_parts hc
  have hb := hI.hb
  have he := hI.he
  have hl := hI.hl
  have hn0 := hI.n0
  have hn1 := hI.n1
  have hs := hI.sc
  dsimp only at hb he hl hn0 hn1 hs
  have hw := nwE_rng (acts := acts) (k := k) hn0 (by omega)
  have ht : 0 ≤ nwE acts k now ∧ nwE acts k now ≤ 253402300799 := by omega
  have hbm := bmay_in c1 ht
  cases ts with
  | none => exact ⟨⟨bs, es, none, (nwE acts k now)⟩, is_up hI hb he hw (fun t h => .inl h) (Nat.le_succ _) hs, ev_nil3t0 (ts := []) (bs2 := []) (es2 := []) (re2 := []) (rb2 := []) (rp2 := []) (ts2 := []) (q := 0) (ep := 0) (er := 0) hA hk h80 (Nat.zero_le _) hkd (chk_holds (acts := acts) (wild := wild) (i := k) (a := aI acts k) (bs := bs) (es := es) (ts := none) (okv := true) hc hb he hn hp0 ht hs (by simp))⟩
  | some l =>
    cases l with
    | nil => exact ⟨⟨bs, es, some [], (nwE acts k now)⟩, is_up hI hb he hw (fun t h => .inl h) (Nat.le_succ _) hs, ev_emp3t0 (ts := []) (bs2 := []) (es2 := []) (re2 := []) (rb2 := []) (rp2 := []) (ts2 := []) (q := 0) (ep := 0) (er := 0) hA hk h80 (Nat.zero_le _) hkd (chk_holds (acts := acts) (wild := wild) (i := k) (a := aI acts k) (bs := bs) (es := es) (ts := (some [])) (okv := true) hc hb he hn hp0 ht hs (by simp))⟩
    | cons a r =>
      simp only [Option.getD_some] at hl
      have hq := pick_rng (aI acts k).n (m := ((a :: r).length : Int)) (by simp only [List.length_cons]; omega) (by omega)
      obtain ⟨q, hqq⟩ : ∃ q : Nat, pick_0 (aI acts k).n ((a :: r).length : Int) = (q : Int) := ⟨_, (Int.toNat_of_nonneg hq.1).symm⟩
      have hqn : q < (a :: r).length := by omega
      have hmem : (a :: r).getD q default ∈ (a :: r) := by
        rw [List.getD_eq_getElem?_getD, List.getElem?_eq_getElem hqn]; exact List.getElem_mem hqn
      have hp := hI.ht _ hmem
      obtain ⟨x, hx⟩ : ∃ x : Nat, ((a :: r).getD q default).1 = (x : Int) := ⟨_, (Int.toNat_of_nonneg hp.1).symm⟩
      have hxn : x < n := by omega
      have d0 := give_ok (k := x) (ep := ((a :: r).getD q default).2) hb he hxn (b1 := c.b1) (b2 := c.b2) (b3 := c.b3) (b4 := c.b4) (e1 := c.e1) (e2 := c.e2) (e3 := c.e3) (e4 := c.e4) (p1 := c.p1) (p2 := c.p2) (p3 := c.p3) (p4 := c.p4)
      have d1 := rgive_ok (ep := ((a :: r).getD q default).2) (k := x) (rb := bs.map brOf) (rp := bs.map prOf) (es := es) (by rw [List.length_map]; exact hb) he (by rw [List.length_map]; exact hb) hxn (b1 := c.b1) (b2 := c.b2) (b3 := c.b3) (b4 := c.b4) (e1 := c.e1) (e2 := c.e2) (e3 := c.e3) (e4 := c.e4) (p1 := c.p1) (p2 := c.p2) (p3 := c.p3) (p4 := c.p4)
      rw [gv6 c1] at d0
      rw [getD_br (by omega), ← br_gv (e1 := c.e1) (e2 := c.e2) (e3 := c.e3) (e4 := c.e4) (p1 := c.p1) (p2 := c.p2) (p3 := c.p3) (p4 := c.p4) c1, ← List.map_set] at d1
      rw [← hx] at d0 d1
      have hlen : ((a :: r).eraseIdx q).length = (a :: r).length - 1 := List.length_eraseIdx_of_lt hqn
      have hb2 : (bs.set x (gvT c.b1 c.b2 c.b3 c.b4 c.e1 c.e2 c.e3 c.e4 c.p1 c.p2 c.p3 c.p4 (bs.getD x default) ((a :: r).getD q default).2)).length = n := by rw [List.length_set]; exact hb
      have hs2 : ∀ b ∈ (bs.set x (gvT c.b1 c.b2 c.b3 c.b4 c.e1 c.e2 c.e3 c.e4 c.p1 c.p2 c.p3 c.p4 (bs.getD x default) ((a :: r).getD q default).2)), 0 ≤ b.since := since_set hs (since_at hs)
      have hpr : (bs.set x (gvT c.b1 c.b2 c.b3 c.b4 c.e1 c.e2 c.e3 c.e4 c.p1 c.p2 c.p3 c.p4 (bs.getD x default) ((a :: r).getD q default).2)).map prOf = bs.map prOf := map_keep rfl
      have hy := chk_holds (acts := acts) (wild := wild) (i := k) (a := aI acts k) (bs := (bs.set x (gvT c.b1 c.b2 c.b3 c.b4 c.e1 c.e2 c.e3 c.e4 c.p1 c.p2 c.p3 c.p4 (bs.getD x default) ((a :: r).getD q default).2))) (es := es) (ts := (some ((a :: r).eraseIdx q))) (okv := true) hc hb2 he hn hp0 ht hs2 (by simp)
      rw [hpr] at hy
      unfold ChkOK at hy
      refine ⟨⟨(bs.set x (gvT c.b1 c.b2 c.b3 c.b4 c.e1 c.e2 c.e3 c.e4 c.p1 c.p2 c.p3 c.p4 (bs.getD x default) ((a :: r).getD q default).2)), es, some ((a :: r).eraseIdx q), (nwE acts k now)⟩, is_up hI hb2 he hw (fun t h => .inl (mem_er h)) (by simp only [Option.getD_some]; omega) hs2, ?_⟩
      unfold RS stH stF
      dsimp only
      rw [hpr]
      by_cases h0 : q = 0 <;> by_cases h1 : q + 1 < (a :: r).length
      · have hne : (a :: r).eraseIdx q ≠ [] := fun h => by rw [h] at hlen; simp only [List.length_nil, List.length_cons] at hlen h1; omega
        rw [oHp_pos hne] at hy ⊢
        exact ev_row3t0 (ts := a :: r) (q := q) (es2 := []) (re2 := []) (rp2 := []) (ep := 0) (er := 0) hA hk h80 (by omega) hkd hqq hqn h0 h1 (Nat.succ_pos _) d0 d1 (er_0 h0) (by omega) hy
      · have hnil : (a :: r).eraseIdx q = [] := List.length_eq_zero_iff.1 (by omega)
        rw [hnil] at hy ⊢
        exact ev_row3t1 (ts2 := []) (ts := a :: r) (q := q) (es2 := []) (re2 := []) (rp2 := []) (ep := 0) (er := 0) hA hk h80 (by omega) hkd hqq hqn h0 h1 (Nat.succ_pos _) d0 d1 hy
      · have hne : (a :: r).eraseIdx q ≠ [] := fun h => by rw [h] at hlen; simp only [List.length_nil, List.length_cons] at hlen h1; omega
        rw [oHp_pos hne] at hy ⊢
        exact ev_row3t2 (ts := a :: r) (q := q) (es2 := []) (re2 := []) (rp2 := []) (ep := 0) (er := 0) hA hk h80 (by omega) hkd hqq hqn h0 h1 (Nat.succ_pos _) d0 d1 er_m (by omega) hy
      · have hne : (a :: r).eraseIdx q ≠ [] := fun h => by rw [h] at hlen; simp only [List.length_nil, List.length_cons] at hlen h0 hqn; omega
        rw [oHp_pos hne] at hy ⊢
        exact ev_row3t3 (ts := a :: r) (q := q) (es2 := []) (re2 := []) (rp2 := []) (ep := 0) (er := 0) hA hk h80 (by omega) hkd hqq hqn h0 h1 (Nat.succ_pos _) d0 d1 (er_l h1) (by omega) hy
theorem step_all (hA : rg.cells 0 = acts.flatMap actF) (hc : hcheck_0 c.b1 c.b2 c.b3 c.b4 c.e1 c.e2 c.e3 c.e4 c.p1 c.p2 c.p3 c.p4 = 0) (h80 : acts.length ≤ 80) (hp0 : 0 < n) (hn : n ≤ 64) (hk : k < acts.length) (hI : IS n k ⟨bs, es, ts, now⟩) : ∃ s', IS n (k + 1) s' ∧ RS acts wild c n k ⟨bs, es, ts, now⟩ s' := by
  have p := pick_rng (aI acts k).k (m := 6) (by omega) (by omega)
  have hv : pick_0 (aI acts k).k 6 = 0 ∨ pick_0 (aI acts k).k 6 = 1 ∨ pick_0 (aI acts k).k 6 = 2 ∨ pick_0 (aI acts k).k 6 = 3 ∨ pick_0 (aI acts k).k 6 = 4 ∨ pick_0 (aI acts k).k 6 = 5 := by omega
  rcases hv with h | h | h | h | h | h
  · exact step0 hA hc h80 hp0 hn hk hI h
  · exact step1 hA hc h80 hp0 hn hk hI h
  · exact step2 hA hc h80 hp0 hn hk hI h
  · exact step3 hA hc h80 hp0 hn hk hI h
  · exact step4 hA hc h80 hp0 hn hk hI h
  · exact step5 hA hc h80 hp0 hn hk hI h
end
end
section
open Go.RowKit
set_option linter.unusedSimpArgs false
set_option linter.unusedVariables false
set_option linter.unusedSectionVars false
set_option maxRecDepth 100000
variable [Inhabited RawG]
theorem rx_nil {acts : List ActT} {c : CT} {bs : List BkT} {es re : List EjT} {rb : List BrT} {rp : List PrT} {ts : List TrT} {n i : Nat} {now wild : Int} (hi : i = acts.length) : RoundTo2 Try.prog callQ 10 100 (loopN Try.prog 6 0) 3264 3280 [] (.exit 0) (yE acts wild (pN 3265) (pN 3267) (.slice none 0 0) now i) (hM c n bs es rb re rp []) (mkF [] 308 0) [] 3328 := by
  have k0 : (decide ((↑i : Int) < (acts.length : Int))) = false := (decide_eq_false (by omega))
  exact roundTo2_of [(3536, oF)] [] (ps := [decide ((↑i : Int) < (acts.length : Int)) = false]) (by kernel_rfl) (ob_cons k0 ob_nil) (by decide)

theorem rx_emp {acts : List ActT} {c : CT} {bs : List BkT} {es re : List EjT} {rb : List BrT} {rp : List PrT} {ts : List TrT} {n i : Nat} {now wild : Int} (hi : i = acts.length) : RoundTo2 Try.prog callQ 10 100 (loopN Try.prog 6 0) 3264 3280 [] (.exit 0) (yE acts wild (pN 3265) (pN 3267) (.slice (some ⟨3271, 0, none⟩) 0 0) now i) (hM c n bs es rb re rp [(3271, ⟨54, [], 0⟩)]) (mkF [] 308 0) [] 3328 := by
  have k0 : (decide ((↑i : Int) < (acts.length : Int))) = false := (decide_eq_false (by omega))
  exact roundTo2_of [(3536, oF)] [] (ps := [decide ((↑i : Int) < (acts.length : Int)) = false]) (by kernel_rfl) (ob_cons k0 ob_nil) (by decide)

theorem rx_row {acts : List ActT} {c : CT} {bs : List BkT} {es re : List EjT} {rb : List BrT} {rp : List PrT} {ts : List TrT} {n i : Nat} {now wild : Int} (hi : i = acts.length) : RoundTo2 Try.prog callQ 10 100 (loopN Try.prog 6 0) 3264 3280 [] (.exit 0) (yE acts wild (pN 3265) (pN 3267) (.slice (some ⟨3271, 0, none⟩) ts.length ts.length) now i) (hM c n bs es rb re rp [(3271, ⟨54, ts.flatMap trF, 3⟩)]) (mkF [] 308 0) [] 3328 := by
  have k0 : (decide ((↑i : Int) < (acts.length : Int))) = false := (decide_eq_false (by omega))
  exact roundTo2_of [(3536, oF)] [] (ps := [decide ((↑i : Int) < (acts.length : Int)) = false]) (by kernel_rfl) (ob_cons k0 ob_nil) (by decide)

theorem lw_none {acts : List ActT} {c : CT} {m0 er wild : Int} (d0 : CallOK Try.prog 10 [Value.agg #[vI c.b1, vI c.b2, vI c.b3, vI c.b4, vI c.e1, vI c.e2, vI c.e3, vI c.e4, vI c.p1, vI c.p2, vI c.p3, vI c.p4], vI m0] [] 0 (Value.tuple #[Value.pointer none, vI er]) []) (d1 : CallOK Try.prog 24 [Value.agg #[vI c.b1, vI c.b2, vI c.b3, vI c.b4, vI c.e1, vI c.e2, vI c.e3, vI c.e4, vI c.p1, vI c.p2, vI c.p3, vI c.p4], vI m0] [] 0 (Value.tuple #[Value.pointer none, vI er]) []) : LawOK Try.prog callQ 10 100 6 [cA c, vI m0, .slice (some ⟨0, 0, some 2⟩) acts.length 0, vI wild] [] 0 := by
  rcases Bool.eq_false_or_eq_true (decide ((acts.length : Int) > 80)) with h0 | h0
  · exact ⟨[(448, oT)], [decide ((acts.length : Int) > 80) = true], by kernel_rfl, (ob_cons h0 ob_nil)⟩
  · rcases Bool.eq_false_or_eq_true (decide (m0 > 70)) with h1 | h1
    · rcases Bool.eq_false_or_eq_true (decide (m0 ≤ 1000)) with h2 | h2
      · exact ⟨[(448, oF), (640, oT), (896, oT)], [decide ((acts.length : Int) > 80) = false, decide (m0 > 70) = true, decide (m0 ≤ 1000) = true], by kernel_rfl, (ob_cons h0 (ob_cons h1 (ob_cons h2 ob_nil)))⟩
      · have k3 : (er != er) = false := (by simp)
        have k4 : (hcheck_0 c.b1 c.b2 c.b3 c.b4 c.e1 c.e2 c.e3 c.e4 c.p1 c.p2 c.p3 c.p4 != rhcheck_0 c.b1 c.b2 c.b3 c.b4 c.e1 c.e2 c.e3 c.e4 c.p1 c.p2 c.p3 c.p4) = false := (by rw [rhcheck_eq]; simp)
        rcases Bool.eq_false_or_eq_true (decide (0 < (acts.length : Int))) with h5 | h5
        · exact ⟨[(448, oF), (640, oT), (896, oF), (1088, OV.call (Value.tuple #[Value.pointer none, vI er]) []), (1600, OV.call (Value.tuple #[Value.pointer none, vI er]) []), (2176, oF), (3008, oF), (3520, oT)], [decide ((acts.length : Int) > 80) = false, decide (m0 > 70) = true, decide (m0 ≤ 1000) = false, CallOK Try.prog 10 [Value.agg #[vI c.b1, vI c.b2, vI c.b3, vI c.b4, vI c.e1, vI c.e2, vI c.e3, vI c.e4, vI c.p1, vI c.p2, vI c.p3, vI c.p4], vI m0] [] 0 (Value.tuple #[Value.pointer none, vI er]) [], CallOK Try.prog 24 [Value.agg #[vI c.b1, vI c.b2, vI c.b3, vI c.b4, vI c.e1, vI c.e2, vI c.e3, vI c.e4, vI c.p1, vI c.p2, vI c.p3, vI c.p4], vI m0] [] 0 (Value.tuple #[Value.pointer none, vI er]) [], (er != er) = false, (hcheck_0 c.b1 c.b2 c.b3 c.b4 c.e1 c.e2 c.e3 c.e4 c.p1 c.p2 c.p3 c.p4 != rhcheck_0 c.b1 c.b2 c.b3 c.b4 c.e1 c.e2 c.e3 c.e4 c.p1 c.p2 c.p3 c.p4) = false, decide (0 < (acts.length : Int)) = true], by kernel_rfl, (ob_cons h0 (ob_cons h1 (ob_cons h2 (ob_cons d0 (ob_cons d1 (ob_cons k3 (ob_cons k4 (ob_cons h5 ob_nil))))))))⟩
        · exact ⟨[(448, oF), (640, oT), (896, oF), (1088, OV.call (Value.tuple #[Value.pointer none, vI er]) []), (1600, OV.call (Value.tuple #[Value.pointer none, vI er]) []), (2176, oF), (3008, oF), (3520, oF)], [decide ((acts.length : Int) > 80) = false, decide (m0 > 70) = true, decide (m0 ≤ 1000) = false, CallOK Try.prog 10 [Value.agg #[vI c.b1, vI c.b2, vI c.b3, vI c.b4, vI c.e1, vI c.e2, vI c.e3, vI c.e4, vI c.p1, vI c.p2, vI c.p3, vI c.p4], vI m0] [] 0 (Value.tuple #[Value.pointer none, vI er]) [], CallOK Try.prog 24 [Value.agg #[vI c.b1, vI c.b2, vI c.b3, vI c.b4, vI c.e1, vI c.e2, vI c.e3, vI c.e4, vI c.p1, vI c.p2, vI c.p3, vI c.p4], vI m0] [] 0 (Value.tuple #[Value.pointer none, vI er]) [], (er != er) = false, (hcheck_0 c.b1 c.b2 c.b3 c.b4 c.e1 c.e2 c.e3 c.e4 c.p1 c.p2 c.p3 c.p4 != rhcheck_0 c.b1 c.b2 c.b3 c.b4 c.e1 c.e2 c.e3 c.e4 c.p1 c.p2 c.p3 c.p4) = false, decide (0 < (acts.length : Int)) = false], by kernel_rfl, (ob_cons h0 (ob_cons h1 (ob_cons h2 (ob_cons d0 (ob_cons d1 (ob_cons k3 (ob_cons k4 (ob_cons h5 ob_nil))))))))⟩
    · have k2 : (er != er) = false := (by simp)
      have k3 : (hcheck_0 c.b1 c.b2 c.b3 c.b4 c.e1 c.e2 c.e3 c.e4 c.p1 c.p2 c.p3 c.p4 != rhcheck_0 c.b1 c.b2 c.b3 c.b4 c.e1 c.e2 c.e3 c.e4 c.p1 c.p2 c.p3 c.p4) = false := (by rw [rhcheck_eq]; simp)
      rcases Bool.eq_false_or_eq_true (decide (0 < (acts.length : Int))) with h4 | h4
      · exact ⟨[(448, oF), (640, oF), (1088, OV.call (Value.tuple #[Value.pointer none, vI er]) []), (1600, OV.call (Value.tuple #[Value.pointer none, vI er]) []), (2176, oF), (3008, oF), (3520, oT)], [decide ((acts.length : Int) > 80) = false, decide (m0 > 70) = false, CallOK Try.prog 10 [Value.agg #[vI c.b1, vI c.b2, vI c.b3, vI c.b4, vI c.e1, vI c.e2, vI c.e3, vI c.e4, vI c.p1, vI c.p2, vI c.p3, vI c.p4], vI m0] [] 0 (Value.tuple #[Value.pointer none, vI er]) [], CallOK Try.prog 24 [Value.agg #[vI c.b1, vI c.b2, vI c.b3, vI c.b4, vI c.e1, vI c.e2, vI c.e3, vI c.e4, vI c.p1, vI c.p2, vI c.p3, vI c.p4], vI m0] [] 0 (Value.tuple #[Value.pointer none, vI er]) [], (er != er) = false, (hcheck_0 c.b1 c.b2 c.b3 c.b4 c.e1 c.e2 c.e3 c.e4 c.p1 c.p2 c.p3 c.p4 != rhcheck_0 c.b1 c.b2 c.b3 c.b4 c.e1 c.e2 c.e3 c.e4 c.p1 c.p2 c.p3 c.p4) = false, decide (0 < (acts.length : Int)) = true], by kernel_rfl, (ob_cons h0 (ob_cons h1 (ob_cons d0 (ob_cons d1 (ob_cons k2 (ob_cons k3 (ob_cons h4 ob_nil)))))))⟩
      · exact ⟨[(448, oF), (640, oF), (1088, OV.call (Value.tuple #[Value.pointer none, vI er]) []), (1600, OV.call (Value.tuple #[Value.pointer none, vI er]) []), (2176, oF), (3008, oF), (3520, oF)], [decide ((acts.length : Int) > 80) = false, decide (m0 > 70) = false, CallOK Try.prog 10 [Value.agg #[vI c.b1, vI c.b2, vI c.b3, vI c.b4, vI c.e1, vI c.e2, vI c.e3, vI c.e4, vI c.p1, vI c.p2, vI c.p3, vI c.p4], vI m0] [] 0 (Value.tuple #[Value.pointer none, vI er]) [], CallOK Try.prog 24 [Value.agg #[vI c.b1, vI c.b2, vI c.b3, vI c.b4, vI c.e1, vI c.e2, vI c.e3, vI c.e4, vI c.p1, vI c.p2, vI c.p3, vI c.p4], vI m0] [] 0 (Value.tuple #[Value.pointer none, vI er]) [], (er != er) = false, (hcheck_0 c.b1 c.b2 c.b3 c.b4 c.e1 c.e2 c.e3 c.e4 c.p1 c.p2 c.p3 c.p4 != rhcheck_0 c.b1 c.b2 c.b3 c.b4 c.e1 c.e2 c.e3 c.e4 c.p1 c.p2 c.p3 c.p4) = false, decide (0 < (acts.length : Int)) = false], by kernel_rfl, (ob_cons h0 (ob_cons h1 (ob_cons d0 (ob_cons d1 (ob_cons k2 (ob_cons k3 (ob_cons h4 ob_nil)))))))⟩

theorem lw_big {acts : List ActT} {c : CT} {n : Nat} {wild : Int} (hl : 80 < acts.length) : LawOK Try.prog callQ 10 100 6 [cA c, vI (n : Int), .slice (some ⟨0, 0, some 2⟩) acts.length 0, vI wild] [] 0 := by
  have k0 : (decide ((acts.length : Int) > 80)) = true := (decide_eq_true (by omega))
  exact ⟨[(448, oT)], [decide ((acts.length : Int) > 80) = true], by kernel_rfl, (ob_cons k0 ob_nil)⟩

theorem lw_main {acts : List ActT} {c : CT} {n : Nat} {wild : Int} (hl : acts.length ≤ 80) (hn : n ≤ 64) (d0 : CallOK Try.prog 10 [Value.agg #[vI c.b1, vI c.b2, vI c.b3, vI c.b4, vI c.e1, vI c.e2, vI c.e3, vI c.e4, vI c.p1, vI c.p2, vI c.p3, vI c.p4], vI (↑n : Int)] [] 0 (Value.tuple #[pN 0, vI 0]) [(2, ⟨48, List.flatMap ejF (List.replicate n (0, 0, 0)), 3⟩), (0, (pC c n 1 2)), (1, ⟨78, List.flatMap bkF (List.replicate n bk0), 3⟩)]) (d1 : CallOK Try.prog 24 [Value.agg #[vI c.b1, vI c.b2, vI c.b3, vI c.b4, vI c.e1, vI c.e2, vI c.e3, vI c.e4, vI c.p1, vI c.p2, vI c.p3, vI c.p4], vI (↑n : Int)] [] 0 (Value.tuple #[pN 0, vI 0]) [(0, (rC c n 1 2 3)), (1, ⟨46, List.flatMap brF (List.map brOf (List.replicate n bk0)), 3⟩), (2, ⟨48, List.flatMap ejF (List.replicate n (0, 0, 0)), 3⟩), (3, ⟨50, List.flatMap prF (List.map prOf (List.replicate n bk0)), 3⟩)]) (hL : LoopOK Try.prog (loopN Try.prog 6 0) (mkF [(2, Value.slice (some { block := 0, off := 0, spot := some 2 }) acts.length 0), (3, vI wild), (9, pN 1088), (11, pN 1600), (13, Value.slice none 0 0), (14, vI 0), (15, vI 0)] 308 0) [(1089, ⟨78, List.flatMap bkF (List.replicate n bk0), 3⟩), (1088, (pC c n 1089 1090)), (1090, ⟨48, List.flatMap ejF (List.replicate n (0, 0, 0)), 3⟩), (1603, ⟨50, List.flatMap prF (List.map prOf (List.replicate n bk0)), 3⟩), (1602, ⟨48, List.flatMap ejF (List.replicate n (0, 0, 0)), 3⟩), (1601, ⟨46, List.flatMap brF (List.map brOf (List.replicate n bk0)), 3⟩), (1600, (rC c n 1601 1602 1603))] 3264 ⟨.exit 0, mkF [] 308 0, [], 3328, []⟩) : LawOK Try.prog callQ 10 100 6 [cA c, vI (n : Int), .slice (some ⟨0, 0, some 2⟩) acts.length 0, vI wild] [] 0 := by
  have k0 : (decide ((acts.length : Int) > 80)) = false := (decide_eq_false (by omega))
  have k1 : (decide ((↑n : Int) > 70)) = false := (decide_eq_false (by omega))
  have k2 : (hcheck_0 c.b1 c.b2 c.b3 c.b4 c.e1 c.e2 c.e3 c.e4 c.p1 c.p2 c.p3 c.p4 != rhcheck_0 c.b1 c.b2 c.b3 c.b4 c.e1 c.e2 c.e3 c.e4 c.p1 c.p2 c.p3 c.p4) = false := (by rw [rhcheck_eq]; simp)
  exact ⟨[(448, oF), (640, oF), (1088, OV.call (Value.tuple #[pN 0, vI 0]) [(2, ⟨48, List.flatMap ejF (List.replicate n (0, 0, 0)), 3⟩), (0, (pC c n 1 2)), (1, ⟨78, List.flatMap bkF (List.replicate n bk0), 3⟩)]), (1600, OV.call (Value.tuple #[pN 0, vI 0]) [(0, (rC c n 1 2 3)), (1, ⟨46, List.flatMap brF (List.map brOf (List.replicate n bk0)), 3⟩), (2, ⟨48, List.flatMap ejF (List.replicate n (0, 0, 0)), 3⟩), (3, ⟨50, List.flatMap prF (List.map prOf (List.replicate n bk0)), 3⟩)]), (3008, oF), (3265, OV.loop [2, 3, 9, 11, 13, 14, 15] (AX.exit 0) (mkF [] 308 0) [] 3328)], [decide ((acts.length : Int) > 80) = false, decide ((↑n : Int) > 70) = false, CallOK Try.prog 10 [Value.agg #[vI c.b1, vI c.b2, vI c.b3, vI c.b4, vI c.e1, vI c.e2, vI c.e3, vI c.e4, vI c.p1, vI c.p2, vI c.p3, vI c.p4], vI (↑n : Int)] [] 0 (Value.tuple #[pN 0, vI 0]) [(2, ⟨48, List.flatMap ejF (List.replicate n (0, 0, 0)), 3⟩), (0, (pC c n 1 2)), (1, ⟨78, List.flatMap bkF (List.replicate n bk0), 3⟩)], CallOK Try.prog 24 [Value.agg #[vI c.b1, vI c.b2, vI c.b3, vI c.b4, vI c.e1, vI c.e2, vI c.e3, vI c.e4, vI c.p1, vI c.p2, vI c.p3, vI c.p4], vI (↑n : Int)] [] 0 (Value.tuple #[pN 0, vI 0]) [(0, (rC c n 1 2 3)), (1, ⟨46, List.flatMap brF (List.map brOf (List.replicate n bk0)), 3⟩), (2, ⟨48, List.flatMap ejF (List.replicate n (0, 0, 0)), 3⟩), (3, ⟨50, List.flatMap prF (List.map prOf (List.replicate n bk0)), 3⟩)], (hcheck_0 c.b1 c.b2 c.b3 c.b4 c.e1 c.e2 c.e3 c.e4 c.p1 c.p2 c.p3 c.p4 != rhcheck_0 c.b1 c.b2 c.b3 c.b4 c.e1 c.e2 c.e3 c.e4 c.p1 c.p2 c.p3 c.p4) = false, LoopOK Try.prog (loopN Try.prog 6 0) (mkF [(2, Value.slice (some { block := 0, off := 0, spot := some 2 }) acts.length 0), (3, vI wild), (9, pN 1088), (11, pN 1600), (13, Value.slice none 0 0), (14, vI 0), (15, vI 0)] 308 0) [(1089, ⟨78, List.flatMap bkF (List.replicate n bk0), 3⟩), (1088, (pC c n 1089 1090)), (1090, ⟨48, List.flatMap ejF (List.replicate n (0, 0, 0)), 3⟩), (1603, ⟨50, List.flatMap prF (List.map prOf (List.replicate n bk0)), 3⟩), (1602, ⟨48, List.flatMap ejF (List.replicate n (0, 0, 0)), 3⟩), (1601, ⟨46, List.flatMap brF (List.map brOf (List.replicate n bk0)), 3⟩), (1600, (rC c n 1601 1602 1603))] 3264 ⟨.exit 0, mkF [] 308 0, [], 3328, []⟩], by kernel_rfl, (ob_cons k0 (ob_cons k1 (ob_cons d0 (ob_cons d1 (ob_cons k2 (ob_cons hL ob_nil))))))⟩

theorem law_script (c : CT) (m0 : Int) (acts : List ActT) (wild : Int) (hA : rg.cells 0 = acts.flatMap actF) : LawOK Try.prog callQ 10 100 6 [cA c, vI m0, .slice (some ⟨0, 0, some 2⟩) acts.length 0, vI wild] [] 0 := by
  by_cases hc : hcheck_0 c.b1 c.b2 c.b3 c.b4 c.e1 c.e2 c.e3 c.e4 c.p1 c.p2 c.p3 c.p4 = 0
  · by_cases hm : 1 ≤ m0 ∧ m0 ≤ 64
    · obtain ⟨n, rfl⟩ : ∃ n : Nat, m0 = (n : Int) := ⟨m0.toNat, by omega⟩
      by_cases h80 : acts.length ≤ 80
      · have d0 := new_ok (n := n) hc (by omega) (by omega)
        have d1 := rnew_ok (n := n) ((rhcheck_eq c.b1 c.b2 c.b3 c.b4 c.e1 c.e2 c.e3 c.e4 c.p1 c.p2 c.p3 c.p4).trans hc) (by omega) (by omega)
        rw [show List.replicate n ((1, 0, 0, 0, 0, 0) : BrT) = (List.replicate n bk0).map brOf by rw [List.map_replicate], show List.replicate n ((true, 0, 0, false, 0) : PrT) = (List.replicate n bk0).map prOf by rw [List.map_replicate]] at d1
        obtain ⟨s, hI, h⟩ := loop_inv2 (P := Try.prog) (call := callQ) (LF := 10) (F := 100) (x := loopN Try.prog 6 0) (nx0 := 3264) (nxb := 3280) (nx2 := 3328) (keys := [2, 3, 9, 11, 13, 14, 15]) (keysE := []) (ax := .exit 0) (fr0 := mkF [(2, Value.slice (some { block := 0, off := 0, spot := some 2 }) acts.length 0), (3, vI wild), (9, pN 1088), (11, pN 1600), (13, Value.slice none 0 0), (14, vI 0), (15, vI 0)] 308 0) (H0 := [(1089, ⟨78, List.flatMap bkF (List.replicate n bk0), 3⟩), (1088, (pC c n 1089 1090)), (1090, ⟨48, List.flatMap ejF (List.replicate n (0, 0, 0)), 3⟩), (1603, ⟨50, List.flatMap prF (List.map prOf (List.replicate n bk0)), 3⟩), (1602, ⟨48, List.flatMap ejF (List.replicate n (0, 0, 0)), 3⟩), (1601, ⟨46, List.flatMap brF (List.map brOf (List.replicate n bk0)), 3⟩), (1600, (rC c n 1601 1602 1603))]) callQ_spec mixed acts.length (IS n) (fun k s => stF acts wild k s) (fun _ s => stH c n s) (fun _ => mkF [] 308 0) (fun _ => []) [1089, 1088, 1090, 1600, 1601, 1602, 1603] ⟨List.replicate n bk0, List.replicate n (0, 0, 0), none, 0⟩
          ⟨by simp, by simp, fun t h => (by simp at h), by simp, by simp, by simp, fun b hb => by rw [List.eq_of_mem_replicate hb]; decide⟩ (by kernel_rfl) (by kernel_rfl) (by kernel_rfl) (by decide) (by decide) (by decide) (fun h => by cases h)
          (fun k s hk hI => by
            obtain ⟨bs, es, ts, now⟩ := s
            exact step_all hA hc h80 (by omega) (by omega) hk hI)
          (fun s _ => by
            obtain ⟨bs, es, ts, now⟩ := s
            cases ts with
            | none => exact rx_nil (ts := []) rfl
            | some l =>
              cases l with
              | nil => exact rx_emp (ts := []) rfl
              | cons a r => exact rx_row (ts := a :: r) rfl)
        exact lw_main h80 (by omega) d0 d1 h
      · exact lw_big (by omega)
    · exact lw_none (new_rng hc hm) (rnew_rng ((rhcheck_eq c.b1 c.b2 c.b3 c.b4 c.e1 c.e2 c.e3 c.e4 c.p1 c.p2 c.p3 c.p4).trans hc) hm)
  · have d1 := rnew_err (n := m0) (fun h => hc ((rhcheck_eq c.b1 c.b2 c.b3 c.b4 c.e1 c.e2 c.e3 c.e4 c.p1 c.p2 c.p3 c.p4).symm.trans h))
    rw [rhcheck_eq] at d1
    exact lw_none (new_err2 hc) d1
end
section
open Go.RowKit
set_option linter.unusedSectionVars false
set_option linter.unusedVariables false
variable [Inhabited RawG]
theorem acts_of (l : List (Int × Int × Int × Bool × Int)) : l.flatMap (fun t => [Value.int .i64 t.1, Value.int .i64 t.2.1, Value.int .i64 t.2.2.1, Value.bool t.2.2.2.1, Value.int .i64 t.2.2.2.2]) = (l.map fun t => (⟨t.1, t.2.1, t.2.2.1, t.2.2.2.1, t.2.2.2.2⟩ : ActT)).flatMap actF := by
  induction l with
  | nil => rfl
  | cons a r ih => rw [List.flatMap_cons, ih]; rfl
theorem law_any (b1 b2 b3 b4 e1 e2 e3 e4 p1 p2 p3 p4 m0 wild : Int) (l : List (Int × Int × Int × Bool × Int)) (h : rg.cells 0 = l.flatMap (fun t => [Value.int .i64 t.1, Value.int .i64 t.2.1, Value.int .i64 t.2.2.1, Value.bool t.2.2.2.1, Value.int .i64 t.2.2.2.2])) :
    LawOK Try.prog callQ 10 100 6 [.agg #[.int .i64 b1, .int .i64 b2, .int .i64 b3, .int .i64 b4, .int .i64 e1, .int .i64 e2, .int .i64 e3, .int .i64 e4, .int .i64 p1, .int .i64 p2, .int .i64 p3, .int .i64 p4], .int .i64 m0, .slice (some ⟨0, 0, some 2⟩) l.length 0, .int .i64 wild] [] 0 := by
  have hL := law_script ⟨b1, b2, b3, b4, e1, e2, e3, e4, p1, p2, p3, p4⟩ m0 _ wild (h.trans (acts_of l))
  rw [List.length_map] at hL
  exact hL
end
end Go.Proofs.Ytadpnamooajpoaa
