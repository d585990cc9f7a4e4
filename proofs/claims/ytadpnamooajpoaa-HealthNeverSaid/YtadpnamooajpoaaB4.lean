/- HealthNever: what holds of a breaker and of the attempts that are out. -/
import Derived.Test.YtadpnamooajpoaaB0
namespace Go.Proofs.Ytadpnamooajpoaa
open Go.RowKit
set_option linter.unusedSectionVars false
set_option linter.unusedSimpArgs false
set_option linter.unusedVariables false
set_option maxRecDepth 100000
section plain
theorem bmay_in {b1 b2 b3 b4 now : Int} (h : bcheck_0 b1 b2 b3 b4 = 0) (ht : 0 ≤ now ∧ now ≤ 253402300799) : bmay_0 b1 b2 b3 b4 now = 0 := by
  unfold bmay_0
  rw [h, show ((0 : Int) != 0) = false from rfl, show decide (now < 0) = false from decide_eq_false (by omega), show decide (now > 253402300799) = false from decide_eq_false (by omega)]
  rfl
theorem bg7 {b1 b2 b3 b4 now : Int} {t : BkT} {e : EjT} (hm : bmay_0 b1 b2 b3 b4 now = 0) (ha : mayE b1 b2 b3 b4 t e now = true) : bbegin_7 b1 b2 b3 b4 t.s t.f t.u t.o t.g t.p now = 0 := by
  have e0 : (bmay_0 b1 b2 b3 b4 now != 0) = false := by rw [hm]; rfl
  have hal : allows_0 b1 b2 b3 b4 t.s t.f t.u t.o t.g t.p now = true := by
    unfold mayE at ha
    rcases Bool.eq_false_or_eq_true t.up with h1 | h1
    · rw [h1] at ha
      rcases Bool.eq_false_or_eq_true (decide (e.2.2 > now)) with h2 | h2
      · rw [h2] at ha; cases ha
      · rw [h2] at ha; exact ha
    · rw [h1] at ha; cases ha
  unfold bbegin_7
  rw [e0, hal]
  cases (t.s == 2) <;> cases (t.s == 3) <;> rfl
theorem be6 {b1 b2 b3 b4 now s f u o g p ep : Int} {well : Bool} (h : bmay_0 b1 b2 b3 b4 now = 0) : (bend_6 b1 b2 b3 b4 s f u o g p ep well now != 0) = false := by
  have e : (bmay_0 b1 b2 b3 b4 now != 0) = false := by rw [h]; rfl
  unfold bend_6
  rw [e]
  simp only [cond_false]
  cases (ep != p) <;> cases (s == 1) <;> cases (s == 3) <;> rfl
theorem hcheck_parts {b1 b2 b3 b4 e1 e2 e3 e4 p1 p2 p3 p4 : Int} (h : hcheck_0 b1 b2 b3 b4 e1 e2 e3 e4 p1 p2 p3 p4 = 0) : bcheck_0 b1 b2 b3 b4 = 0 ∧ check_0 e1 e2 e3 e4 = 0 ∧ pcheck_0 p1 p2 p3 p4 = 0 := by
  unfold hcheck_0 at h
  rcases Bool.eq_false_or_eq_true (bcheck_0 b1 b2 b3 b4 != 0) with h1 | h1
  · rw [h1] at h; simp only [cond_true] at h; rw [h] at h1; cases h1
  · rw [h1] at h; simp only [cond_false] at h
    rcases Bool.eq_false_or_eq_true (check_0 e1 e2 e3 e4 != 0) with h2 | h2
    · rw [h2] at h; simp only [cond_true] at h; rw [h] at h2; cases h2
    · rw [h2] at h
      exact ⟨by simpa using h1, by simpa using h2, h⟩
theorem fm_take {T : Type} {f : T → List Value} {sz : Nat} (hf : ∀ t, (f t).length = sz) (l : List T) (k : Nat) : (l.take k).flatMap f = (l.flatMap f).take (k * sz) := by
  induction l generalizing k with
  | nil => simp
  | cons a r ih =>
    cases k with
    | zero => simp
    | succ k =>
      rw [List.take_succ_cons, List.flatMap_cons, List.flatMap_cons, ih, Nat.succ_mul, List.take_append, hf, List.take_of_length_le (l := f a) (by rw [hf]; omega), show k * sz + sz - sz = k * sz by omega]
theorem fm_drop {T : Type} {f : T → List Value} {sz : Nat} (hf : ∀ t, (f t).length = sz) (l : List T) (k : Nat) : (l.drop k).flatMap f = (l.flatMap f).drop (k * sz) := by
  induction l generalizing k with
  | nil => simp
  | cons a r ih =>
    cases k with
    | zero => simp
    | succ k =>
      rw [List.drop_succ_cons, List.flatMap_cons, ih, Nat.succ_mul, List.drop_append, hf, List.drop_of_length_le (i := k * sz + sz) (by rw [hf]; omega), show k * sz + sz - sz = k * sz by omega, List.nil_append]
theorem er_m {l : List TrT} {q : Nat} : (l.eraseIdx q).flatMap trF = [] ++ List.take (q * 2) (List.drop 0 (List.flatMap trF l)) ++ List.take ((l.length - (q + 1)) * 2) (List.drop (0 + (q + 1) * 2) (List.flatMap trF l)) := by
  rw [List.eraseIdx_eq_take_drop_succ, List.flatMap_append, fm_take tr2, fm_drop tr2, List.nil_append, List.drop_zero, Nat.zero_add, List.take_of_length_le (i := (l.length - (q + 1)) * 2) (by rw [List.length_drop, flatMap_len tr2]; omega)]
theorem er_0 {l : List TrT} {q : Nat} (h : q = 0) : (l.eraseIdx q).flatMap trF = [] ++ List.take ((l.length - (q + 1)) * 2) (List.drop (0 + (q + 1) * 2) (List.flatMap trF l)) := by
  rw [er_m]; subst h; simp
theorem er_l {l : List TrT} {q : Nat} (h : ¬ (q + 1 < l.length)) : (l.eraseIdx q).flatMap trF = [] ++ List.take (q * 2) (List.drop 0 (List.flatMap trF l)) := by
  rw [er_m, show l.length - (q + 1) = 0 by omega]; simp

theorem mem_er {l : List TrT} {q : Nat} {t : TrT} (h : t ∈ l.eraseIdx q) : t ∈ l := List.mem_of_mem_eraseIdx h
theorem may_al {b1 b2 b3 b4 now : Int} {t : BkT} {e : EjT} (ha : mayE b1 b2 b3 b4 t e now = true) : t.up = true ∧ e.2.2 ≤ now ∧ allows_0 b1 b2 b3 b4 t.s t.f t.u t.o t.g t.p now = true := by
  unfold mayE at ha
  rcases Bool.eq_false_or_eq_true t.up with h1 | h1
  · rw [h1] at ha
    rcases Bool.eq_false_or_eq_true (decide (e.2.2 > now)) with h2 | h2
    · rw [h2] at ha; cases ha
    · rw [h2] at ha; exact ⟨h1, by have := of_decide_eq_false h2; omega, ha⟩
  · rw [h1] at ha; cases ha
theorem al_iff {b1 b2 b3 b4 now s f u o g p : Int} (hm : bmay_0 b1 b2 b3 b4 now = 0) (hs : s = 1 ∨ s = 2 ∨ s = 3) : allows_0 b1 b2 b3 b4 s f u o g p now = true ↔ (s = 2 → u ≤ now) ∧ (s = 3 → o < b3) := by
  have e : (bmay_0 b1 b2 b3 b4 now != 0) = false := by rw [hm]; rfl
  unfold allows_0
  rw [e]
  rcases hs with rfl | rfl | rfl
  · simp
  · simp
  · simp
/-- The document's word for 'may not'. -/
theorem may_not {b1 b2 b3 b4 now : Int} {t : BkT} {e : EjT} (hm : bmay_0 b1 b2 b3 b4 now = 0) (hs : t.s = 1 ∨ t.s = 2 ∨ t.s = 3) (ha : mayE b1 b2 b3 b4 t e now = false) : t.s = 2 ∧ t.u > now ∨ t.s = 3 ∧ t.o ≥ b3 ∨ e.2.2 > now ∨ t.up = false := by
  unfold mayE at ha
  rcases Bool.eq_false_or_eq_true t.up with h1 | h1
  · rw [h1] at ha
    rcases Bool.eq_false_or_eq_true (decide (e.2.2 > now)) with h2 | h2
    · exact .inr (.inr (.inl (of_decide_eq_true h2)))
    · rw [h2] at ha
      have ha : allows_0 b1 b2 b3 b4 t.s t.f t.u t.o t.g t.p now = false := ha
      have hn : ¬ ((t.s = 2 → t.u ≤ now) ∧ (t.s = 3 → t.o < b3)) := fun h => by rw [(al_iff hm hs).2 h] at ha; cases ha
      by_cases q1 : t.s = 2 ∧ t.u > now
      · exact .inl q1
      · by_cases q2 : t.s = 3 ∧ t.o ≥ b3
        · exact .inr (.inl q2)
        · exact absurd ⟨fun h => by have : ¬ t.u > now := fun h' => q1 ⟨h, h'⟩
                                    omega, fun h => by have : ¬ t.o ≥ b3 := fun h' => q2 ⟨h, h'⟩
                                                       omega⟩ hn
  · exact .inr (.inr (.inr h1))
theorem bwithin_iff (n : Int) : bwithin_0 n = true ↔ 1 ≤ n ∧ n ≤ 1048576 := by
  unfold bwithin_0
  by_cases h1 : 1 ≤ n <;> by_cases h2 : n ≤ 1048576 <;> simp [h1, h2]
theorem bcheck_zero {cf cd ct cg : Int} (h : bcheck_0 cf cd ct cg = 0) : (1 ≤ ct ∧ ct ≤ 1048576) ∧ (1 ≤ cg ∧ cg ≤ 1048576) := by
  unfold bcheck_0 at h
  cases h1 : bwithin_0 cf <;> cases h2 : bwithin_0 ct <;> cases h3 : bwithin_0 cg <;> simp [h1, h2, h3] at h
  rw [bwithin_iff] at h2 h3
  exact ⟨h2, h3⟩
/-- What holds of a breaker and of the attempts that are out, behind so many events. -/
structure BI (ct cg : Int) (k x : Nat) (t : BkT) (ts : List TrT) : Prop where
  p0 : 0 ≤ t.p
  pk : t.p ≤ k
  ep : ∀ r ∈ ts, r.1 = (x : Int) → r.2 ≤ t.p
  st : t.s = 1 ∨ t.s = 2 ∨ t.s = 3
  hf : t.s = 3 → (ts.count ((x : Int), t.p) : Int) = t.o ∧ t.o ≤ ct ∧ 0 ≤ t.g ∧ t.g < cg
theorem bi_up {ct cg : Int} {k x : Nat} {t t' : BkT} {ts ts' : List TrT} (hI : BI ct cg k x t ts) (e1 : t'.s = t.s) (e2 : t'.o = t.o) (e3 : t'.g = t.g) (e4 : t'.p = t.p) (hs : ∀ r ∈ ts', r.1 = (x : Int) → r ∈ ts) (hn : ts'.count ((x : Int), t.p) = ts.count ((x : Int), t.p)) : BI ct cg (k + 1) x t' ts' := by
  obtain ⟨a1, a2, a3, a4, a5⟩ := hI
  exact ⟨by rw [e4]; exact a1, by rw [e4]; omega, fun r h h' => by rw [e4]; exact a3 r (hs r h h') h', by rw [e1]; exact a4, fun h => by rw [e2, e3, e4, hn]; exact a5 (e1 ▸ h)⟩
theorem count_hi {ts : List TrT} {x : Nat} {p q : Int} (h : ∀ r ∈ ts, r.1 = (x : Int) → r.2 ≤ p) (hq : p < q) : ts.count ((x : Int), q) = 0 := by
  rw [List.count_eq_zero]
  intro hm
  have := h _ hm rfl
  dsimp only at this
  omega
theorem count_er {ts : List TrT} {q : Nat} {r : TrT} (hq : q < ts.length) : ts.count r = (ts.eraseIdx q).count r + (if ts.getD q default = r then 1 else 0) := by
  rw [List.eraseIdx_eq_take_drop_succ, List.count_append]
  conv => lhs; rw [← List.take_append_drop q ts]
  rw [List.count_append, List.drop_eq_getElem_cons hq, List.count_cons]
  have : ts.getD q default = ts[q] := by rw [List.getD_eq_getElem?_getD, List.getElem?_eq_getElem hq]; rfl
  rw [this]
  by_cases h : ts[q] = r
  · simp [h]; omega
  · simp [h]
section
variable {b1 b2 b3 b4 e1 e2 e3 e4 p1 p2 p3 p4 now ep : Int} {well : Bool} {k x q : Nat} {t : BkT} {e : EjT} {ts : List TrT}
theorem bi_begin (hc : bcheck_0 b1 b2 b3 b4 = 0) (hm : bmay_0 b1 b2 b3 b4 now = 0) (hk : k ≤ 1000) (hI : BI b3 b4 k x t ts) (ha : mayE b1 b2 b3 b4 t e now = true) :
    BI b3 b4 (k + 1) x (bgT b1 b2 b3 b4 e1 e2 e3 e4 p1 p2 p3 p4 t now) (ts ++ [((x : Int), bbegin_6 b1 b2 b3 b4 t.s t.f t.u t.o t.g t.p now)]) := by
  have hz := bcheck_zero hc
  have e0 : (bmay_0 b1 b2 b3 b4 now != 0) = false := by rw [hm]; rfl
  obtain ⟨_, _, hal⟩ := may_al ha
  obtain ⟨s, f, u, o, g, p, up, run, nxt, ot, since⟩ := t
  have h0 := hI.p0
  have h1 := hI.pk
  have h2 := hI.ep
  have h3 := hI.st
  have h4 := hI.hf
  dsimp only at h0 h1 h2 h3 h4 hal ⊢
  have wp : IntKind.i64.wrap (p + 1) = p + 1 := w64 (by omega)
  have hl := (al_iff hm h3).1 hal
  simp only [bgT, bbegin_0, bbegin_3, bbegin_4, bbegin_5, bbegin_6, e0, hal, cond_false, cond_true, Bool.not_true, wp]
  rcases h3 with rfl | rfl | rfl
  · simp only [show ((1 : Int) == 2) = false from rfl, show ((1 : Int) == 3) = false from rfl, cond_false]
    exact ⟨h0, by dsimp only; omega, fun r h hr => (List.mem_append.1 h).elim (fun h => h2 r h hr) (fun h => by simp at h; subst h; exact Int.le_refl _), .inl rfl, fun h => absurd h (by dsimp only; decide)⟩
  · simp only [show ((2 : Int) == 2) = true from rfl, cond_true]
    refine ⟨by dsimp only; omega, by dsimp only; omega, fun r h hr => (List.mem_append.1 h).elim (fun h => by have := h2 r h hr; dsimp only; omega) (fun h => by simp at h; subst h; exact Int.le_refl _), .inr (.inr rfl), fun _ => ⟨?_, by dsimp only; omega, by dsimp only; omega, by dsimp only; omega⟩⟩
    rw [List.count_append, count_hi (p := p) h2 (by dsimp only; omega)]
    simp
  · obtain ⟨c1, c2, c3, c4⟩ := h4 rfl
    have hlt := hl.2 rfl
    have wo : IntKind.i64.wrap (o + 1) = o + 1 := w64 (by omega)
    simp only [show ((3 : Int) == 2) = false from rfl, show ((3 : Int) == 3) = true from rfl, cond_false, cond_true, wo]
    refine ⟨h0, by dsimp only; omega, fun r h hr => (List.mem_append.1 h).elim (fun h => h2 r h hr) (fun h => by simp at h; subst h; exact Int.le_refl _), .inr (.inr rfl), fun _ => ⟨?_, by dsimp only; omega, c3, c4⟩⟩
    rw [List.count_append]
    dsimp only
    rw [List.count_singleton_self, ← c1]
    omega
theorem bi_end (hc : bcheck_0 b1 b2 b3 b4 = 0) (hm : bmay_0 b1 b2 b3 b4 now = 0) (hk : k ≤ 1000) (hI : BI b3 b4 k x t ts) (hq : q < ts.length) (hx : ts.getD q default = ((x : Int), ep)) :
    BI b3 b4 (k + 1) x (edT b1 b2 b3 b4 e1 e2 e3 e4 p1 p2 p3 p4 t ep well now) (ts.eraseIdx q) := by
  have e0 : (bmay_0 b1 b2 b3 b4 now != 0) = false := by rw [hm]; rfl
  have hz := bcheck_zero hc
  obtain ⟨s, f, u, o, g, p, up, run, nxt, ot, since⟩ := t
  have hcn := count_er (r := ((x : Int), p)) hq
  rw [hx] at hcn
  rcases Bool.eq_false_or_eq_true (ep != p) with hne | hne
  · have hnp : ¬ ep = p := by simpa using hne
    rw [if_neg (fun h => hnp (Prod.mk.inj h).2)] at hcn
    refine bi_up hI ?_ ?_ ?_ ?_ (fun r h _ => mem_er h) (by dsimp only; omega) <;> simp only [edT, bend_0, bend_3, bend_4, bend_5, e0, hne, cond_false, cond_true]
  · have hep : ep = p := by simpa using hne
    subst hep
    rw [if_pos rfl] at hcn
    have h0 := hI.p0
    have h1 := hI.pk
    have h2 := hI.ep
    have h3 := hI.st
    have h4 := hI.hf
    dsimp only at h0 h1 h2 h3 h4
    have wp : IntKind.i64.wrap (ep + 1) = ep + 1 := w64 (by omega)
    simp only [edT, bend_0, bend_1, bend_2, bend_3, bend_4, bend_5, e0, hne, cond_false]
    have up2 : ∀ t' : BkT, t'.p = ep + 1 → (t'.s = 1 ∨ t'.s = 2) → BI b3 b4 (k + 1) x t' (ts.eraseIdx q) := fun t' a b => ⟨by omega, by omega, fun r h hr => by have := h2 r (mem_er h) hr; omega, by omega, fun h => by omega⟩
    have sm : ∀ t' : BkT, t'.p = ep → (t'.s = 1 ∨ t'.s = 2) → BI b3 b4 (k + 1) x t' (ts.eraseIdx q) := fun t' a b => ⟨by omega, by omega, fun r h hr => by have := h2 r (mem_er h) hr; omega, by omega, fun h => by omega⟩
    rcases h3 with rfl | rfl | rfl
    · simp only [show ((1 : Int) == 1) = true from rfl, cond_true, ended_0, ended_1, ended_2, ended_3, ended_4, ended_5, wp]
      cases well with
      | true => simp only [cond_true]; exact sm _ rfl (.inl rfl)
      | false =>
        simp only [cond_false]
        cases decide (IntKind.i64.wrap (f + 1) ≥ b1) with
        | true => exact up2 _ rfl (.inr rfl)
        | false => exact sm _ rfl (.inl rfl)
    · simp only [show ((2 : Int) == 1) = false from rfl, show ((2 : Int) == 3) = false from rfl, cond_false]
      exact sm _ rfl (.inr rfl)
    · obtain ⟨c1, c2, c3, c4⟩ := h4 rfl
      have wg : IntKind.i64.wrap (g + 1) = g + 1 := w64 (by omega)
      have wo : IntKind.i64.wrap (o - 1) = o - 1 := w64 (by omega)
      simp only [show ((3 : Int) == 1) = false from rfl, show ((3 : Int) == 3) = true from rfl, cond_false, cond_true, tried_0, tried_1, tried_2, tried_3, tried_4, tried_5, wp, wg, wo]
      cases well with
      | false => exact up2 _ rfl (.inr rfl)
      | true =>
        simp only [Bool.not_true, cond_false]
        rcases Bool.eq_false_or_eq_true (decide (g + 1 ≥ b4)) with hg | hg
        · rw [hg]
          exact up2 _ rfl (.inl rfl)
        · have hg2 := of_decide_eq_false hg
          rw [hg]
          simp only [cond_false]
          refine ⟨h0, by dsimp only; omega, fun r h hr => h2 r (mem_er h) hr, .inr (.inr rfl), fun _ => ?_⟩
          dsimp only
          refine ⟨?_, ?_, by omega, by omega⟩ <;> split <;> omega
theorem bi_give (hc : bcheck_0 b1 b2 b3 b4 = 0) (hk : k ≤ 1000) (hI : BI b3 b4 k x t ts) (hq : q < ts.length) (hx : ts.getD q default = ((x : Int), ep)) :
    BI b3 b4 (k + 1) x (gvT b1 b2 b3 b4 e1 e2 e3 e4 p1 p2 p3 p4 t ep) (ts.eraseIdx q) := by
  have ec : (bcheck_0 b1 b2 b3 b4 != 0) = false := by rw [hc]; rfl
  have hz := bcheck_zero hc
  obtain ⟨s, f, u, o, g, p, up, run, nxt, ot, since⟩ := t
  have hcn := count_er (r := ((x : Int), p)) hq
  rw [hx] at hcn
  rcases Bool.eq_false_or_eq_true (ep == p) with hne | hne
  · have hep : ep = p := by simpa using hne
    subst hep
    rw [if_pos rfl] at hcn
    have h0 := hI.p0
    have h1 := hI.pk
    have h2 := hI.ep
    have h3 := hI.st
    have h4 := hI.hf
    dsimp only at h0 h1 h2 h3 h4
    simp only [gvT, give_3, ec, hne, cond_false, cond_true]
    have sm : ∀ t' : BkT, t'.p = ep → (t'.s = 1 ∨ t'.s = 2) → BI b3 b4 (k + 1) x t' (ts.eraseIdx q) := fun t' a b => ⟨by omega, by omega, fun r h hr => by have := h2 r (mem_er h) hr; omega, by omega, fun h => by omega⟩
    rcases h3 with rfl | rfl | rfl
    · exact sm _ rfl (.inl rfl)
    · exact sm _ rfl (.inr rfl)
    · obtain ⟨c1, c2, c3, c4⟩ := h4 rfl
      have wo : IntKind.i64.wrap (o - 1) = o - 1 := w64 (by omega)
      simp only [show ((3 : Int) == 3) = true from rfl, cond_true, wo]
      refine ⟨h0, by dsimp only; omega, fun r h hr => h2 r (mem_er h) hr, .inr (.inr rfl), fun _ => ?_⟩
      dsimp only
      refine ⟨?_, ?_, by omega, by omega⟩ <;> split <;> omega
  · have hnp : ¬ ep = p := by simpa using hne
    rw [if_neg (fun h => hnp (Prod.mk.inj h).2)] at hcn
    refine bi_up hI rfl ?_ rfl rfl (fun r h _ => mem_er h) (by dsimp only; omega)
    simp only [gvT, give_3, ec, hne, cond_false]
end
end plain
end Go.Proofs.Ytadpnamooajpoaa
