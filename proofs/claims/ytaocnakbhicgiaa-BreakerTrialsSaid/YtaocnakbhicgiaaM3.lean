/- Breaker: the states of a run, and what holds of them. -/
import Derived.Test.YtaocnakbhicgiaaM2
namespace Go.Proofs.Ytaocnakbhicgiaa
open Go.RowKit
set_option linter.unusedSimpArgs false
set_option linter.unusedVariables false
set_option maxRecDepth 100000
abbrev Act4 := Int × Int × Bool × Int
def act4F : Act4 → List Value := fun t => [Value.int .i64 t.1, Value.int .i64 t.2.1, Value.bool t.2.2.1, Value.int .i64 t.2.2.2]
theorem act4 (t : Act4) : (act4F t).length = 4 := rfl
theorem within_iff2 (n : Int) : within_0 n = true ↔ 1 ≤ n ∧ n ≤ 1048576 := by
  unfold within_0
  by_cases h1 : 1 ≤ n <;> by_cases h2 : n ≤ 1048576 <;> simp [h1, h2]
theorem check_zero2 {cf cd ct cg : Int} (h : check_0 cf cd ct cg = 0) : (1 ≤ cf ∧ cf ≤ 1048576) ∧ (1 ≤ ct ∧ ct ≤ 1048576) ∧ (1 ≤ cg ∧ cg ≤ 1048576) ∧ cg ≤ ct ∧ 1 ≤ cd ∧ cd ≤ 253402300799 := by
  unfold check_0 at h
  cases h1 : within_0 cf <;> cases h2 : within_0 ct <;> cases h3 : within_0 cg <;> simp [h1, h2, h3] at h
  rw [within_iff2] at h1 h2 h3
  refine ⟨h1, h2, h3, ?_⟩
  by_cases h4 : ct < cg <;> by_cases h5 : cd < 1 <;> by_cases h6 : 253402300799 < cd <;> simp [h4, h5, h6] at h
  omega
abbrev StT := BT × Option (List Int) × Int
def loOf : Option (List Int) → Nat
  | none => 1
  | some _ => 2
def n2Of (a : Act4) (now : Int) : Int := IntKind.i64.wrap (now + pick_0 (a.2.2.2.tmod 1000) 20)
def Stp (cf cd ct cg : Int) (a : Act4) (x : StT) (b' : BT) (out' : Option (List Int)) : Prop :=
  StepTo cf cd ct cg a.1 a.2.1 a.2.2.1 a.2.2.2 x.1 x.2.1 x.2.2 (n2Of a x.2.2) (loOf x.2.1) b' out'
section
variable {cf cd ct cg : Int} {a : Act4} {x : StT} {k : Nat} {acts : List Act4}
theorem n2_rng (h0 : 0 ≤ x.2.2) (h1 : x.2.2 ≤ 100000) : x.2.2 ≤ n2Of a x.2.2 ∧ n2Of a x.2.2 ≤ x.2.2 + 20 := by
  have p1 := pick_rng (a.2.2.2.tmod 1000) (m := 20) (by omega) (by omega)
  unfold n2Of
  rw [w64 (by omega)]
  omega
theorem stp_ex (hc : check_0 cf cd ct cg = 0) (h0 : 0 ≤ x.2.2) (h1 : x.2.2 ≤ 100000) (hl : (x.2.1.getD []).length ≤ 1000) : ∃ b' out', Stp cf cd ct cg a x b' out' := by
  have p1 := n2_rng (a := a) h0 h1
  have hm := may_in (now := n2Of a x.2.2) hc (by omega) (by omega)
  obtain ⟨⟨s, f, u, o, g, p⟩, out, now⟩ := x
  obtain ⟨kd, wh, wl, more⟩ := a
  cases out with
  | none => exact step_nil (os := []) (k := 0) hm rfl
  | some os =>
    cases os with
    | nil => exact step_emp (os := []) (k := 0) hm rfl
    | cons y l =>
      have hl' : (y :: l).length ≤ 1000 := hl
      have p2 := pick_rng wh (m := ((y :: l).length : Int)) (by simp only [List.length_cons]; omega) (by omega)
      obtain ⟨j, hj⟩ : ∃ j : Nat, pick_0 wh ((y :: l).length : Int) = (j : Int) := ⟨_, (Int.toNat_of_nonneg p2.1).symm⟩
      exact step_row (k := j) hm rfl (by omega) hl' hj (by simp)
open Classical in
/-- The state after an act: some state that the step may lead to. -/
noncomputable def nxt (cf cd ct cg : Int) (a : Act4) (x : StT) : StT :=
  if h : ∃ y : BT × Option (List Int), Stp cf cd ct cg a x y.1 y.2 then ((Classical.choose h).1, (Classical.choose h).2, n2Of a x.2.2) else (x.1, x.2.1, n2Of a x.2.2)
theorem nxt_now : (nxt cf cd ct cg a x).2.2 = n2Of a x.2.2 := by
  unfold nxt
  split <;> rfl
theorem nxt_ok (hc : check_0 cf cd ct cg = 0) (h0 : 0 ≤ x.2.2) (h1 : x.2.2 ≤ 100000) (hl : (x.2.1.getD []).length ≤ 1000) : Stp cf cd ct cg a x (nxt cf cd ct cg a x).1 (nxt cf cd ct cg a x).2.1 := by
  have hex : ∃ y : BT × Option (List Int), Stp cf cd ct cg a x y.1 y.2 := by
    obtain ⟨b', out', h⟩ := stp_ex (a := a) hc h0 h1 hl
    exact ⟨(b', out'), h⟩
  unfold nxt
  rw [dif_pos hex]
  exact Classical.choose_spec hex
noncomputable def stA (cf cd ct cg : Int) (acts : List Act4) : Nat → StT
  | 0 => ((1, 0, 0, 0, 0, 0), none, 0)
  | k + 1 => nxt cf cd ct cg (acts.getD k default) (stA cf cd ct cg acts k)
theorem stp_out {b' : BT} {out' : Option (List Int)} (h : Stp cf cd ct cg a x b' out') : StepOut cf cd ct cg x.1 x.2.1 (n2Of a x.2.2) b' out' := by
  rcases h with ⟨h1, h2, _⟩ | ⟨h, _⟩
  · exact .inl ⟨h1, h2⟩
  · exact h
theorem out_len {b b' : BT} {out out' : Option (List Int)} {n2 : Int} (h : StepOut cf cd ct cg b out n2 b' out') : (out'.getD []).length ≤ (out.getD []).length + 1 := by
  rcases h with ⟨_, rfl⟩ | ⟨_, _, rfl⟩ | ⟨k, os, wl, rfl, hk, rfl, _⟩
  · omega
  · simp
  · simp only [Option.getD_some]; rw [List.length_eraseIdx_of_lt hk]; omega
theorem stA_inv (hc : check_0 cf cd ct cg = 0) (h80 : acts.length ≤ 80) : ∀ k, k ≤ acts.length → 0 ≤ (stA cf cd ct cg acts k).2.2 ∧ (stA cf cd ct cg acts k).2.2 ≤ 20 * k ∧ ((stA cf cd ct cg acts k).2.1.getD []).length ≤ k
  | 0, _ => by simp [stA]
  | k + 1, hk => by
    obtain ⟨h1, h2, h3⟩ := stA_inv hc h80 k (by omega)
    have p1 := n2_rng (a := acts.getD k default) h1 (by omega)
    have hs := out_len (stp_out (nxt_ok (a := acts.getD k default) hc h1 (by omega) (by omega)))
    refine ⟨?_, ?_, ?_⟩
    · show 0 ≤ (nxt _ _ _ _ _ _).2.2; rw [nxt_now]; omega
    · show (nxt _ _ _ _ _ _).2.2 ≤ _; rw [nxt_now]; omega
    · show ((nxt _ _ _ _ _ _).2.1.getD []).length ≤ _; omega
theorem stA_step (hc : check_0 cf cd ct cg = 0) (h80 : acts.length ≤ 80) (hk : k < acts.length) : Stp cf cd ct cg (acts.getD k default) (stA cf cd ct cg acts k) (stA cf cd ct cg acts (k + 1)).1 (stA cf cd ct cg acts (k + 1)).2.1 := by
  obtain ⟨h1, h2, h3⟩ := stA_inv hc h80 k (by omega)
  exact nxt_ok hc h1 (by omega) (by omega)
theorem stA_now : (stA cf cd ct cg acts (k + 1)).2.2 = n2Of (acts.getD k default) (stA cf cd ct cg acts k).2.2 := nxt_now
/-! a late attempt -/
theorem end_late {s f u o g p now ep : Int} {well : Bool} (hm : may_0 cf cd ct cg now = 0) (h : (ep != p) = true) :
    bend_0 cf cd ct cg s f u o g p ep well now = s ∧ bend_1 cf cd ct cg s f u o g p ep well now = f ∧ bend_2 cf cd ct cg s f u o g p ep well now = u ∧ bend_3 cf cd ct cg s f u o g p ep well now = o ∧ bend_4 cf cd ct cg s f u o g p ep well now = g ∧ bend_5 cf cd ct cg s f u o g p ep well now = p := by
  have e : (may_0 cf cd ct cg now != 0) = false := by rw [hm]; rfl
  simp only [bend_0, bend_1, bend_2, bend_3, bend_4, bend_5, e, h, cond_false, cond_true, and_self]
theorem give_late {s f u o g p ep : Int} (hc : check_0 cf cd ct cg = 0) (h : (ep != p) = true) : give_3 cf cd ct cg s f u o g p ep = o := by
  have e : (check_0 cf cd ct cg != 0) = false := by rw [hc]; rfl
  have e2 : (ep == p) = false := by simpa using h
  simp only [give_3, e, e2, cond_false]
/-! trials -/
/-- What holds of a breaker and the attempts that are out, behind so many acts. -/
structure TInv (ct cg : Int) (k : Nat) (s o g p : Int) (os : List Int) : Prop where
  p0 : 0 ≤ p
  pk : p ≤ k
  ep : ∀ e ∈ os, e ≤ p
  st : s = 1 ∨ s = 2 ∨ s = 3
  no : s ≠ 3 → o = 0
  hf : s = 3 → (os.count p : Int) = o ∧ o ≤ ct ∧ 0 ≤ g ∧ g < cg
theorem count_gt {os : List Int} {p q : Int} (h : ∀ e ∈ os, e ≤ p) (hq : p < q) : os.count q = 0 := by
  rw [List.count_eq_zero]
  intro hm
  have := h q hm
  omega
theorem count_erase {os : List Int} {k : Nat} {p : Int} (hk : k < os.length) : os.count p = (os.eraseIdx k).count p + (if os.getD k 0 = p then 1 else 0) := by
  rw [List.eraseIdx_eq_take_drop_succ, List.count_append]
  conv => lhs; rw [← List.take_append_drop k os]
  rw [List.count_append, List.drop_eq_getElem_cons hk, List.count_cons]
  have : os.getD k 0 = os[k] := by rw [List.getD_eq_getElem?_getD, List.getElem?_eq_getElem hk]; rfl
  rw [this]
  by_cases h : os[k] = p
  · simp [h]; omega
  · simp [h]
theorem getD_mem2 {os : List Int} {k : Nat} (hk : k < os.length) : os.getD k 0 ∈ os := by
  rw [List.getD_eq_getElem?_getD, List.getElem?_eq_getElem hk]; exact List.getElem_mem hk
theorem tinv_less {s o g p : Int} {os os' : List Int} {k : Nat} (hI : TInv ct cg k s o g p os) (hs : ∀ e ∈ os', e ∈ os) (hn : s = 3 → os'.count p = os.count p) : TInv ct cg (k + 1) s o g p os' :=
  ⟨hI.p0, by have := hI.pk; omega, fun e h => hI.ep e (hs e h), hI.st, hI.no, fun h => by rw [hn h]; exact hI.hf h⟩
theorem tinv_step {b b' : BT} {out out' : Option (List Int)} {n2 : Int} (hc : check_0 cf cd ct cg = 0) (hm : may_0 cf cd ct cg n2 = 0) (hk : k ≤ 1000)
    (hI : TInv ct cg k b.1 b.2.2.2.1 b.2.2.2.2.1 b.2.2.2.2.2 (out.getD [])) (h : StepOut cf cd ct cg b out n2 b' out') :
    TInv ct cg (k + 1) b'.1 b'.2.2.2.1 b'.2.2.2.2.1 b'.2.2.2.2.2 (out'.getD []) ∧ b.2.2.2.2.2 ≤ b'.2.2.2.2.2 := by
  have hz := check_zero2 hc
  have e : (may_0 cf cd ct cg n2 != 0) = false := by rw [hm]; rfl
  have ec : (check_0 cf cd ct cg != 0) = false := by rw [hc]; rfl
  obtain ⟨s, f, u, o, g, p⟩ := b
  dsimp only at hI ⊢
  have h0 := hI.p0
  have h1 := hI.pk
  rcases h with ⟨rfl, rfl⟩ | ⟨hb, rfl, rfl⟩ | ⟨k0, os, wl, rfl, hk0, rfl, hb⟩
  · exact ⟨tinv_less hI (fun _ h => h) (fun _ => rfl), Int.le_refl _⟩
  · generalize out.getD [] = os at hI
    have hal : allows_0 cf cd ct cg s f u o g p n2 = true := by
      rw [← begin_ok hm]; unfold bErr at hb; dsimp only at hb; rw [hb]; rfl
    have hal2 := hal
    unfold allows_0 at hal2
    rw [e] at hal2
    have wp : IntKind.i64.wrap (p + 1) = p + 1 := w64 (by omega)
    simp only [bBegin, bEpoch, bbegin_0, bbegin_3, bbegin_4, bbegin_5, bbegin_6, e, hal, cond_false, cond_true, Option.getD_some, wp]
    rcases hI.st with rfl | rfl | rfl
    · simp only [show ((1 : Int) == 2) = false from rfl, show ((1 : Int) == 3) = false from rfl, cond_false]
      exact ⟨⟨h0, by omega, fun e h => (List.mem_append.1 h).elim (hI.ep e) (fun h => by simp at h; omega), .inl rfl, hI.no, fun h => absurd h (by decide)⟩, Int.le_refl _⟩
    · simp only [show ((2 : Int) == 2) = true from rfl, cond_true]
      refine ⟨⟨by omega, by omega, fun e h => (List.mem_append.1 h).elim (fun h => by have := hI.ep e h; omega) (fun h => by simp at h; omega), .inr (.inr rfl), fun h => absurd rfl h, fun _ => ⟨?_, by omega, by omega, by omega⟩⟩, by omega⟩
      rw [List.count_append, count_gt hI.ep (by omega)]
      simp
    · simp only [show ((3 : Int) == 2) = false from rfl, show ((3 : Int) == 3) = true from rfl, show ((3 : Int) == 1) = false from rfl, cond_true, cond_false] at hal2 ⊢
      obtain ⟨c1, c2, c3, c4⟩ := hI.hf rfl
      have c5 : o < ct := by
        rcases Bool.eq_false_or_eq_true (decide (o < ct)) with h | h
        · exact of_decide_eq_true h
        · rw [h] at hal2; cases hal2
      have wo : IntKind.i64.wrap (o + 1) = o + 1 := w64 (by omega)
      rw [wo]
      refine ⟨⟨h0, by omega, fun e h => (List.mem_append.1 h).elim (hI.ep e) (fun h => by simp at h; omega), .inr (.inr rfl), fun h => absurd rfl h, fun _ => ⟨?_, by omega, by omega, by omega⟩⟩, Int.le_refl _⟩
      rw [List.count_append]
      simp
      exact c1
  · have hsub : ∀ x ∈ os.eraseIdx k0, x ∈ os := fun x h => List.mem_of_mem_eraseIdx h
    have hcn := count_erase (p := p) hk0
    have wp : IntKind.i64.wrap (p + 1) = p + 1 := w64 (by omega)
    dsimp only [Option.getD_some] at hI ⊢
    rcases Bool.eq_false_or_eq_true (os.getD k0 0 != p) with hne | hne
    · have hnp : ¬ os.getD k0 0 = p := by simpa using hne
      rw [if_neg hnp] at hcn
      rcases hb with rfl | rfl
      · obtain ⟨b0, b1, b2, b3, b4, b5⟩ := end_late (cf := cf) (cd := cd) (ct := ct) (cg := cg) (s := s) (f := f) (u := u) (o := o) (g := g) (well := wl) hm hne
        simp only [bEnd, b0, b3, b4, b5]
        exact ⟨tinv_less hI hsub (fun _ => by omega), Int.le_refl _⟩
      · simp only [bGive, give_late (s := s) (f := f) (u := u) (o := o) (g := g) hc hne]
        exact ⟨tinv_less hI hsub (fun _ => by omega), Int.le_refl _⟩
    · have hep : os.getD k0 0 = p := by simpa using hne
      rw [if_pos hep] at hcn
      have hn2 : (os.getD k0 0 == p) = true := by simpa using hep
      have opened : ∀ q, q = p + 1 → TInv ct cg (k + 1) 2 0 0 q (os.eraseIdx k0) := fun q hq => ⟨by omega, by omega, fun e h => by have := hI.ep e (hsub e h); omega, .inr (.inl rfl), fun _ => rfl, fun h => absurd h (by decide)⟩
      rcases hb with rfl | rfl
      · simp only [bEnd, bend_0, bend_3, bend_4, bend_5, e, hne, cond_false]
        rcases hI.st with rfl | rfl | rfl
        · simp only [show ((1 : Int) == 1) = true from rfl, cond_true, ended_0, ended_3, ended_4, ended_5, cond_false, wp]
          cases wl with
          | true => simp only [cond_true]; exact ⟨tinv_less hI hsub (fun h => absurd h (by decide)), Int.le_refl _⟩
          | false =>
            simp only [cond_false]
            cases decide (IntKind.i64.wrap (f + 1) ≥ cf) with
            | true => exact ⟨opened _ rfl, by simp only [cond_true]; omega⟩
            | false => simp only [cond_false]; exact ⟨tinv_less hI hsub (fun h => absurd h (by decide)), Int.le_refl _⟩
        · simp only [show ((2 : Int) == 1) = false from rfl, show ((2 : Int) == 3) = false from rfl, cond_false]
          exact ⟨tinv_less hI hsub (fun h => absurd h (by decide)), Int.le_refl _⟩
        · obtain ⟨c1, c2, c3, c4⟩ := hI.hf rfl
          have wg : IntKind.i64.wrap (g + 1) = g + 1 := w64 (by omega)
          have wo : IntKind.i64.wrap (o - 1) = o - 1 := w64 (by omega)
          simp only [show ((3 : Int) == 1) = false from rfl, show ((3 : Int) == 3) = true from rfl, cond_false, cond_true, tried_0, tried_3, tried_4, tried_5, wp, wg, wo]
          cases wl with
          | false => exact ⟨opened _ rfl, by simp only [cond_false]; omega⟩
          | true =>
            simp only [cond_true]
            rcases Bool.eq_false_or_eq_true (decide (g + 1 ≥ cg)) with hg | hg
            · rw [hg]
              simp only [cond_true]
              exact ⟨⟨by omega, by omega, fun e h => by have := hI.ep e (hsub e h); omega, .inl rfl, fun _ => rfl, fun h => absurd h (by decide)⟩, by omega⟩
            · have hg2 := of_decide_eq_false hg
              rw [hg]
              simp only [cond_false]
              refine ⟨⟨h0, by omega, fun e h => hI.ep e (hsub e h), .inr (.inr rfl), fun h => absurd rfl h, fun _ => ⟨?_, ?_, by omega, by omega⟩⟩, Int.le_refl _⟩ <;> split <;> omega
      · simp only [bGive, give_3, ec, hn2, cond_false, cond_true]
        rcases hI.st with rfl | rfl | rfl
        · simp only [show ((1 : Int) == 3) = false from rfl, cond_false]
          exact ⟨tinv_less hI hsub (fun h => absurd h (by decide)), Int.le_refl _⟩
        · simp only [show ((2 : Int) == 3) = false from rfl, cond_false]
          exact ⟨tinv_less hI hsub (fun h => absurd h (by decide)), Int.le_refl _⟩
        · obtain ⟨c1, c2, c3, c4⟩ := hI.hf rfl
          have wo : IntKind.i64.wrap (o - 1) = o - 1 := w64 (by omega)
          simp only [show ((3 : Int) == 3) = true from rfl, cond_true, wo]
          refine ⟨⟨h0, by omega, fun e h => hI.ep e (hsub e h), .inr (.inr rfl), fun h => absurd rfl h, fun _ => ⟨?_, ?_, by omega, by omega⟩⟩, Int.le_refl _⟩ <;> split <;> omega
/-- How many of the first x attempts are of the epoch. -/
def cntE (os : List Int) (p : Int) (x : Nat) : Nat := (os.take x).count p
theorem cntE_succ {os : List Int} {p : Int} {x : Nat} (hx : x < os.length) : cntE os p (x + 1) = cntE os p x + (if os.getD x 0 = p then 1 else 0) := by
  unfold cntE
  have : os.getD x 0 = os[x] := by rw [List.getD_eq_getElem?_getD, List.getElem?_eq_getElem hx]; rfl
  rw [List.take_add_one, List.getElem?_eq_getElem hx, List.count_append, this]
  by_cases h : os[x] = p
  · simp [h]
  · simp [h]
theorem cntE_all (os : List Int) (p : Int) : cntE os p os.length = os.count p := by unfold cntE; rw [List.take_length]
theorem stA_tinv (hc : check_0 cf cd ct cg = 0) (h80 : acts.length ≤ 80) : ∀ k, k ≤ acts.length → TInv ct cg k (stA cf cd ct cg acts k).1.1 (stA cf cd ct cg acts k).1.2.2.2.1 (stA cf cd ct cg acts k).1.2.2.2.2.1 (stA cf cd ct cg acts k).1.2.2.2.2.2 ((stA cf cd ct cg acts k).2.1.getD [])
  | 0, _ => ⟨Int.le_refl _, by simp [stA], fun e h => by simp [stA] at h, .inl rfl, fun _ => rfl, fun h => by simp [stA] at h⟩
  | k + 1, hk => by
    obtain ⟨h1, h2, h3⟩ := stA_inv (cf := cf) (cd := cd) (ct := ct) (cg := cg) hc h80 k (by omega)
    have p1 := n2_rng (a := acts.getD k default) h1 (by omega)
    exact (tinv_step hc (may_in hc (by omega) (by omega)) (by omega) (stA_tinv hc h80 k (by omega)) (stp_out (stA_step hc h80 (by omega)))).1
end
end Go.Proofs.Ytaocnakbhicgiaa
