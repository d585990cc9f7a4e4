/- HealthNever: states, a step. -/
import Derived.Test.YtadpnamooajpoaaB1
import Derived.Test.YtadpnamooajpoaaB2
import Derived.Test.YtadpnamooajpoaaB3
import Derived.Test.YtadpnamooajpoaaB4
namespace Go.Proofs.Ytadpnamooajpoaa
open Go.RowKit
set_option linter.unusedSectionVars false
set_option linter.unusedSimpArgs false
set_option linter.unusedVariables false
set_option maxRecDepth 100000
/-- A state of the loop over the events. -/
structure SA where
  bs : List BkT
  es : List EjT
  ts : Option (List TrT)
  now : Int
def oSl (b : Nat) : Option (List TrT) → Value
  | none => .slice none 0 0
  | some ts => .slice (some ⟨b, 0, none⟩) ts.length ts.length
def oHp (b : Nat) : Option (List TrT) → Heap
  | none => []
  | some [] => [(b, ⟨54, [], 0⟩)]
  | some (t :: r) => [(b, ⟨54, (t :: r).flatMap trF, 3⟩)]
theorem oHp_pos {b : Nat} {l : List TrT} (h : l ≠ []) : oHp b (some l) = [(b, ⟨54, l.flatMap trF, 3⟩)] := by cases l with | nil => exact absurd rfl h | cons => rfl
def stF (acts : List ActT) (n k : Nat) (s : SA) : List Value := mkF [(1, vI (n : Int)), (2, .slice (some ⟨0, 0, some 2⟩) acts.length 0), (3, pN 1667), (7, pN 1665), (9, oSl 1668 s.ts), (10, vI s.now), (11, vI (k : Int))] 272 0
def stH (c : CT) (n : Nat) (s : SA) : Heap := hM c n s.bs s.es ((1667, bX c) :: oHp 1668 s.ts)
/-- What holds of it behind so many events. -/
structure IA (c : CT) (n k : Nat) (s : SA) : Prop where
  hb : s.bs.length = n
  he : s.es.length = n
  ht : ∀ t ∈ s.ts.getD [], 0 ≤ t.1 ∧ t.1 < n
  hl : (s.ts.getD []).length ≤ k
  n0 : 0 ≤ s.now
  n1 : s.now ≤ 50 * k
  bi : ∀ x, x < n → BI c.b3 c.b4 k x (s.bs.getD x default) (s.ts.getD [])
variable [Inhabited RawG]
theorem nwE_rng {acts : List ActT} {k : Nat} {now : Int} (h0 : 0 ≤ now) (h1 : now ≤ 100000) : now ≤ nwE acts k now ∧ nwE acts k now ≤ now + 49 := by
  have p := pick_rng (aI acts k).m (m := 50) (by omega) (by omega)
  unfold nwE
  rw [w64 (by omega)]
  omega
abbrev RS (acts : List ActT) (c : CT) (n k : Nat) (s s' : SA) : Prop := RoundTo2 Try.prog callH 10 100 (loopN Try.prog 3 0) 1664 1672 [1, 2, 3, 7, 9, 10, 11] .normal (stF acts n k s) (stH c n s) (stF acts n (k + 1) s') (stH c n s') 1672
theorem ia_up {c : CT} {n k : Nat} {bs bs2 : List BkT} {es es2 : List EjT} {ts ts2 : Option (List TrT)} {now nw : Int} (hI : IA c n k ⟨bs, es, ts, now⟩) (hb : bs2.length = bs.length) (he : es2.length = es.length) (hw : now ≤ nw ∧ nw ≤ now + 49) (ht : ∀ t ∈ ts2.getD [], t ∈ ts.getD [] ∨ (0 ≤ t.1 ∧ t.1 < n)) (hl : (ts2.getD []).length ≤ (ts.getD []).length + 1)
    (hbi : ∀ y, y < n → BI c.b3 c.b4 (k + 1) y (bs2.getD y default) (ts2.getD [])) : IA c n (k + 1) ⟨bs2, es2, ts2, nw⟩ := by
  obtain ⟨a1, a2, a3, a4, a5, a6, a7⟩ := hI
  dsimp only at a1 a2 a3 a4 a5 a6 a7
  exact ⟨by dsimp only; omega, by dsimp only; omega, fun t h => (ht t h).elim (a3 t) id, by dsimp only; omega, by dsimp only; omega, by dsimp only; omega, hbi⟩
theorem set_oth {T : Type} {l : List T} {x y : Nat} {t d : T} (h : x ≠ y) : (l.set x t).getD y d = l.getD y d := by
  rw [List.getD_eq_getElem?_getD, List.getD_eq_getElem?_getD, List.getElem?_set_ne h]
/-- All but one as they were. -/
theorem bi_all {ct cg : Int} {n k x : Nat} {bs : List BkT} {t' : BkT} {ts ts' : List TrT} (hI : ∀ y, y < n → BI ct cg k y (bs.getD y default) ts) (hx : x < bs.length) (hX : BI ct cg (k + 1) x t' ts') (hs : ∀ r ∈ ts', r.1 ≠ (x : Int) → r ∈ ts) (hn : ∀ y p, y ≠ x → ts'.count ((y : Int), p) = ts.count ((y : Int), p)) :
    ∀ y, y < n → BI ct cg (k + 1) y ((bs.set x t').getD y default) ts' := by
  intro y hy
  by_cases h : y = x
  · subst h; rw [getD_set_self hx]; exact hX
  · rw [set_oth (fun e => h e.symm)]
    exact bi_up (hI y hy) rfl rfl rfl rfl (fun r h1 h2 => hs r h1 (by rw [h2]; omega)) (hn y _ h)
theorem stL_at {bs : List BkT} {es : List EjT} {n y : Nat} (hy : y < n) : (stL bs es n).getD y default = (bs.getD y default, es.getD y default) := by
  unfold stL
  rw [List.getD_eq_getElem?_getD, List.getElem?_map, List.getElem?_range hy]; rfl
theorem gB_at {bs : List BkT} {es : List EjT} {n y : Nat} (hy : y < n) : gB (stL bs es n) y = bs.getD y default := by show ((stL bs es n).getD y default).1 = _; rw [stL_at hy]
theorem gE_at {bs : List BkT} {es : List EjT} {n y : Nat} (hy : y < n) : gE (stL bs es n) y = es.getD y default := by show ((stL bs es n).getD y default).2 = _; rw [stL_at hy]
section
variable {acts : List ActT} {c : CT} {n k : Nat} {bs : List BkT} {es : List EjT} {ts : Option (List TrT)} {now : Int}
theorem step0 (hA : rg.cells 0 = acts.flatMap actF) (hc : hcheck_0 c.b1 c.b2 c.b3 c.b4 c.e1 c.e2 c.e3 c.e4 c.p1 c.p2 c.p3 c.p4 = 0) (h80 : acts.length ≤ 80) (hp0 : 0 < n) (hn : n ≤ 20) (hk : k < acts.length) (hI : IA c n k ⟨bs, es, ts, now⟩) (hkd : pick_0 (aI acts k).k 6 = 0) : ∃ s', IA c n (k + 1) s' ∧ RS acts c n k ⟨bs, es, ts, now⟩ s' := by
  obtain ⟨c1, c2, c3⟩ := hcheck_parts hc
  have hb := hI.hb
  have he := hI.he
  have hl := hI.hl
  have hn0 := hI.n0
  have hn1 := hI.n1
  have hbi := hI.bi
  dsimp only at hb he hl hn0 hn1 hbi
  have hw := nwE_rng (acts := acts) (k := k) hn0 (by omega)
  have ht : 0 ≤ nwE acts k now ∧ nwE acts k now ≤ 253402300799 := by omega
  have hbm := bmay_in c1 ht
  have hp := pick_rng (aI acts k).i (m := (n : Int)) (by omega) (by omega)
  obtain ⟨x, hx⟩ : ∃ x : Nat, pick_0 (aI acts k).i (n : Int) = (x : Int) := ⟨_, (Int.toNat_of_nonneg hp.1).symm⟩
  have hxn : x < n := by omega
  have hM := hmay_ok (k := x) hb he hxn ht (b1 := c.b1) (b2 := c.b2) (b3 := c.b3) (b4 := c.b4) (e1 := c.e1) (e2 := c.e2) (e3 := c.e3) (e4 := c.e4) (p1 := c.p1) (p2 := c.p2) (p3 := c.p3) (p4 := c.p4)
  have hS := state_ok hb he hp0 (show n ≤ 64 by omega) (b1 := c.b1) (b2 := c.b2) (b3 := c.b3) (b4 := c.b4) (e1 := c.e1) (e2 := c.e2) (e3 := c.e3) (e4 := c.e4) (p1 := c.p1) (p2 := c.p2) (p3 := c.p3) (p4 := c.p4)
  rcases Bool.eq_false_or_eq_true (mayE c.b1 c.b2 c.b3 c.b4 (bs.getD x default) (es.getD x default) (nwE acts k now)) with hm | hm
  · rw [hm] at hM
    have cE := begin_t hb he hxn ht hM
    rw [bg7 hbm hm] at cE
    obtain ⟨m1, m2, m3⟩ := may_al hm
    obtain ⟨m4, m5⟩ := (al_iff hbm (hbi x hxn).st).1 m3
    rw [← gB_at (es := es) hxn] at m1 m4 m5
    rw [← gE_at (bs := bs) hxn] at m2
    refine ⟨⟨(bs.set x (bgT c.b1 c.b2 c.b3 c.b4 c.e1 c.e2 c.e3 c.e4 c.p1 c.p2 c.p3 c.p4 (bs.getD x default) (nwE acts k now))), es, some (ts.getD [] ++ [((x : Int), (bbegin_6 c.b1 c.b2 c.b3 c.b4 (bs.getD x default).s (bs.getD x default).f (bs.getD x default).u (bs.getD x default).o (bs.getD x default).g (bs.getD x default).p (nwE acts k now)))]), nwE acts k now⟩, ia_up hI (by simp) rfl hw (fun t h => ?_) (by simp) (bi_all hbi (by omega) (bi_begin c1 hbm (by omega) (hbi x hxn) hm) (fun r h hr => ?_) (fun y p hy => ?_)), ?_⟩
    · simp only [Option.getD_some, List.mem_append, List.mem_singleton] at h
      exact h.imp id fun h => by subst h; dsimp only; omega
    · simp only [Option.getD_some, List.mem_append, List.mem_singleton] at h
      exact h.elim id fun h => absurd (by rw [h]) hr
    · rw [Option.getD_some, List.count_append, List.count_singleton]
      have : (((x : Int), (bbegin_6 c.b1 c.b2 c.b3 c.b4 (bs.getD x default).s (bs.getD x default).f (bs.getD x default).u (bs.getD x default).o (bs.getD x default).g (bs.getD x default).p (nwE acts k now))) == ((y : Int), p)) = false := by
        rw [beq_eq_false_iff_ne]; intro h; have := (Prod.mk.inj h).1; omega
      rw [this]; rfl
    · cases ts with
      | none => exact rv_nil0t0 (ts := []) (hs := stL bs es n) (q := 0) hA hk h80 (Nat.zero_le _) hkd hx hxn stL_len hS cE m4 m5 m2 m1 (by simp) rfl
      | some l =>
        cases l with
        | nil => exact rv_emp0t0 (ts := []) (hs := stL bs es n) (q := 0) hA hk h80 (Nat.zero_le _) hkd hx hxn stL_len hS cE m4 m5 m2 m1 (by simp) rfl
        | cons a r => exact rv_row0t0 (ts := a :: r) (hs := stL bs es n) (q := 0) hA hk h80 (by simp only [Option.getD_some] at hl; omega) hkd hx hxn stL_len (Nat.succ_pos _) hS cE m4 m5 m2 m1 (snoc_tr _ _).symm (by simp)
  · rw [hm] at hM
    have cE := begin_f hb he hxn ht hM
    have kb := may_not hbm (hbi x hxn).st hm
    rw [← gB_at (es := es) hxn, ← gE_at (bs := bs) hxn] at kb
    refine ⟨⟨bs, es, ts, nwE acts k now⟩, ia_up hI rfl rfl hw (fun t h => .inl h) (Nat.le_succ _) (fun y hy => bi_up (hbi y hy) rfl rfl rfl rfl (fun r h _ => h) rfl), ?_⟩
    cases ts with
    | none => exact rv_nil0f0 (ts := []) (bs2 := bs) (es2 := es) (ts2 := []) (ep := 0) (hs := stL bs es n) (q := 0) hA hk h80 (Nat.zero_le _) hkd hx hxn stL_len hS cE kb
    | some l =>
      cases l with
      | nil => exact rv_emp0f0 (ts := []) (bs2 := bs) (es2 := es) (ts2 := []) (ep := 0) (hs := stL bs es n) (q := 0) hA hk h80 (Nat.zero_le _) hkd hx hxn stL_len hS cE kb
      | cons a r => exact rv_row0f0 (ts := a :: r) (bs2 := bs) (es2 := es) (ts2 := []) (ep := 0) (hs := stL bs es n) (q := 0) hA hk h80 (by simp only [Option.getD_some] at hl; omega) hkd hx hxn stL_len (Nat.succ_pos _) hS cE kb
theorem step1 (hA : rg.cells 0 = acts.flatMap actF) (hc : hcheck_0 c.b1 c.b2 c.b3 c.b4 c.e1 c.e2 c.e3 c.e4 c.p1 c.p2 c.p3 c.p4 = 0) (h80 : acts.length ≤ 80) (hp0 : 0 < n) (hn : n ≤ 20) (hk : k < acts.length) (hI : IA c n k ⟨bs, es, ts, now⟩) (hkd : pick_0 (aI acts k).k 6 = 1) : ∃ s', IA c n (k + 1) s' ∧ RS acts c n k ⟨bs, es, ts, now⟩ s' := by
  obtain ⟨c1, c2, c3⟩ := hcheck_parts hc
  have hb := hI.hb
  have he := hI.he
  have hl := hI.hl
  have hn0 := hI.n0
  have hn1 := hI.n1
  have hbi := hI.bi
  dsimp only at hb he hl hn0 hn1 hbi
  have hw := nwE_rng (acts := acts) (k := k) hn0 (by omega)
  have ht : 0 ≤ nwE acts k now ∧ nwE acts k now ≤ 253402300799 := by omega
  have hbm := bmay_in c1 ht
  have hp := pick_rng (aI acts k).i (m := (n : Int)) (by omega) (by omega)
  obtain ⟨x, hx⟩ : ∃ x : Nat, pick_0 (aI acts k).i (n : Int) = (x : Int) := ⟨_, (Int.toNat_of_nonneg hp.1).symm⟩
  have hxn : x < n := by omega
  have hM := hmay_ok (k := x) hb he hxn ht (b1 := c.b1) (b2 := c.b2) (b3 := c.b3) (b4 := c.b4) (e1 := c.e1) (e2 := c.e2) (e3 := c.e3) (e4 := c.e4) (p1 := c.p1) (p2 := c.p2) (p3 := c.p3) (p4 := c.p4)
  have hS := state_ok hb he hp0 (show n ≤ 64 by omega) (b1 := c.b1) (b2 := c.b2) (b3 := c.b3) (b4 := c.b4) (e1 := c.e1) (e2 := c.e2) (e3 := c.e3) (e4 := c.e4) (p1 := c.p1) (p2 := c.p2) (p3 := c.p3) (p4 := c.p4)
  rcases Bool.eq_false_or_eq_true (mayE c.b1 c.b2 c.b3 c.b4 (bs.getD x default) (es.getD x default) (nwE acts k now)) with hm | hm
  · rw [hm] at hM
    have cE := begin_t hb he hxn ht hM
    rw [bg7 hbm hm] at cE
    obtain ⟨m1, m2, m3⟩ := may_al hm
    obtain ⟨m4, m5⟩ := (al_iff hbm (hbi x hxn).st).1 m3
    rw [← gB_at (es := es) hxn] at m1 m4 m5
    rw [← gE_at (bs := bs) hxn] at m2
    refine ⟨⟨(bs.set x (bgT c.b1 c.b2 c.b3 c.b4 c.e1 c.e2 c.e3 c.e4 c.p1 c.p2 c.p3 c.p4 (bs.getD x default) (nwE acts k now))), es, some (ts.getD [] ++ [((x : Int), (bbegin_6 c.b1 c.b2 c.b3 c.b4 (bs.getD x default).s (bs.getD x default).f (bs.getD x default).u (bs.getD x default).o (bs.getD x default).g (bs.getD x default).p (nwE acts k now)))]), nwE acts k now⟩, ia_up hI (by simp) rfl hw (fun t h => ?_) (by simp) (bi_all hbi (by omega) (bi_begin c1 hbm (by omega) (hbi x hxn) hm) (fun r h hr => ?_) (fun y p hy => ?_)), ?_⟩
    · simp only [Option.getD_some, List.mem_append, List.mem_singleton] at h
      exact h.imp id fun h => by subst h; dsimp only; omega
    · simp only [Option.getD_some, List.mem_append, List.mem_singleton] at h
      exact h.elim id fun h => absurd (by rw [h]) hr
    · rw [Option.getD_some, List.count_append, List.count_singleton]
      have : (((x : Int), (bbegin_6 c.b1 c.b2 c.b3 c.b4 (bs.getD x default).s (bs.getD x default).f (bs.getD x default).u (bs.getD x default).o (bs.getD x default).g (bs.getD x default).p (nwE acts k now))) == ((y : Int), p)) = false := by
        rw [beq_eq_false_iff_ne]; intro h; have := (Prod.mk.inj h).1; omega
      rw [this]; rfl
    · cases ts with
      | none => exact rv_nil1t0 (ts := []) (hs := stL bs es n) (q := 0) hA hk h80 (Nat.zero_le _) hkd hx hxn stL_len hS cE m4 m5 m2 m1 (by simp) rfl
      | some l =>
        cases l with
        | nil => exact rv_emp1t0 (ts := []) (hs := stL bs es n) (q := 0) hA hk h80 (Nat.zero_le _) hkd hx hxn stL_len hS cE m4 m5 m2 m1 (by simp) rfl
        | cons a r => exact rv_row1t0 (ts := a :: r) (hs := stL bs es n) (q := 0) hA hk h80 (by simp only [Option.getD_some] at hl; omega) hkd hx hxn stL_len (Nat.succ_pos _) hS cE m4 m5 m2 m1 (snoc_tr _ _).symm (by simp)
  · rw [hm] at hM
    have cE := begin_f hb he hxn ht hM
    have kb := may_not hbm (hbi x hxn).st hm
    rw [← gB_at (es := es) hxn, ← gE_at (bs := bs) hxn] at kb
    refine ⟨⟨bs, es, ts, nwE acts k now⟩, ia_up hI rfl rfl hw (fun t h => .inl h) (Nat.le_succ _) (fun y hy => bi_up (hbi y hy) rfl rfl rfl rfl (fun r h _ => h) rfl), ?_⟩
    cases ts with
    | none => exact rv_nil1f0 (ts := []) (bs2 := bs) (es2 := es) (ts2 := []) (ep := 0) (hs := stL bs es n) (q := 0) hA hk h80 (Nat.zero_le _) hkd hx hxn stL_len hS cE kb
    | some l =>
      cases l with
      | nil => exact rv_emp1f0 (ts := []) (bs2 := bs) (es2 := es) (ts2 := []) (ep := 0) (hs := stL bs es n) (q := 0) hA hk h80 (Nat.zero_le _) hkd hx hxn stL_len hS cE kb
      | cons a r => exact rv_row1f0 (ts := a :: r) (bs2 := bs) (es2 := es) (ts2 := []) (ep := 0) (hs := stL bs es n) (q := 0) hA hk h80 (by simp only [Option.getD_some] at hl; omega) hkd hx hxn stL_len (Nat.succ_pos _) hS cE kb
theorem step4 (hA : rg.cells 0 = acts.flatMap actF) (hc : hcheck_0 c.b1 c.b2 c.b3 c.b4 c.e1 c.e2 c.e3 c.e4 c.p1 c.p2 c.p3 c.p4 = 0) (h80 : acts.length ≤ 80) (hp0 : 0 < n) (hn : n ≤ 20) (hk : k < acts.length) (hI : IA c n k ⟨bs, es, ts, now⟩) (hkd : pick_0 (aI acts k).k 6 = 4) : ∃ s', IA c n (k + 1) s' ∧ RS acts c n k ⟨bs, es, ts, now⟩ s' := by
  obtain ⟨c1, c2, c3⟩ := hcheck_parts hc
  have hb := hI.hb
  have he := hI.he
  have hl := hI.hl
  have hn0 := hI.n0
  have hn1 := hI.n1
  have hbi := hI.bi
  dsimp only at hb he hl hn0 hn1 hbi
  have hw := nwE_rng (acts := acts) (k := k) hn0 (by omega)
  have ht : 0 ≤ nwE acts k now ∧ nwE acts k now ≤ 253402300799 := by omega
  have hbm := bmay_in c1 ht
  have hp := pick_rng (aI acts k).i (m := (n : Int)) (by omega) (by omega)
  obtain ⟨x, hx⟩ : ∃ x : Nat, pick_0 (aI acts k).i (n : Int) = (x : Int) := ⟨_, (Int.toNat_of_nonneg hp.1).symm⟩
  have hxn : x < n := by omega
  have cE := probe_ok (k := x) hb he hxn ht (b1 := c.b1) (b2 := c.b2) (b3 := c.b3) (b4 := c.b4) (e1 := c.e1) (e2 := c.e2) (e3 := c.e3) (e4 := c.e4) (p1 := c.p1) (p2 := c.p2) (p3 := c.p3) (p4 := c.p4)
  refine ⟨⟨(bs.set x (pbT c.b1 c.b2 c.b3 c.b4 c.e1 c.e2 c.e3 c.e4 c.p1 c.p2 c.p3 c.p4 (bs.getD x default) (nwE acts k now))), es, ts, nwE acts k now⟩, ia_up hI (by simp) rfl hw (fun t h => .inl h) (Nat.le_succ _) (bi_all hbi (by omega) (bi_up (hbi x hxn) rfl rfl rfl rfl (fun r h _ => h) rfl) (fun r h _ => h) (fun _ _ _ => rfl)), ?_⟩
  cases ts with
  | none => exact rv_nil4t0 (ts := []) (hs := []) (ts2 := []) (q := 0) hA hk h80 (Nat.zero_le _) hkd hx hxn cE
  | some l =>
    cases l with
    | nil => exact rv_emp4t0 (ts := []) (hs := []) (ts2 := []) (q := 0) hA hk h80 (Nat.zero_le _) hkd hx hxn cE
    | cons a r => exact rv_row4t0 (ts := a :: r) (hs := []) (ts2 := []) (q := 0) hA hk h80 (by simp only [Option.getD_some] at hl; omega) hkd hx hxn (Nat.succ_pos _) cE
theorem step5 (hA : rg.cells 0 = acts.flatMap actF) (hc : hcheck_0 c.b1 c.b2 c.b3 c.b4 c.e1 c.e2 c.e3 c.e4 c.p1 c.p2 c.p3 c.p4 = 0) (h80 : acts.length ≤ 80) (hp0 : 0 < n) (hn : n ≤ 20) (hk : k < acts.length) (hI : IA c n k ⟨bs, es, ts, now⟩) (hkd : pick_0 (aI acts k).k 6 = 5) : ∃ s', IA c n (k + 1) s' ∧ RS acts c n k ⟨bs, es, ts, now⟩ s' := by
  obtain ⟨c1, c2, c3⟩ := hcheck_parts hc
  have hb := hI.hb
  have he := hI.he
  have hl := hI.hl
  have hn0 := hI.n0
  have hn1 := hI.n1
  have hbi := hI.bi
  dsimp only at hb he hl hn0 hn1 hbi
  have hw := nwE_rng (acts := acts) (k := k) hn0 (by omega)
  have ht : 0 ≤ nwE acts k now ∧ nwE acts k now ≤ 253402300799 := by omega
  have hbm := bmay_in c1 ht
  have hp := pick_rng (aI acts k).i (m := (n : Int)) (by omega) (by omega)
  obtain ⟨x, hx⟩ : ∃ x : Nat, pick_0 (aI acts k).i (n : Int) = (x : Int) := ⟨_, (Int.toNat_of_nonneg hp.1).symm⟩
  have hxn : x < n := by omega
  have cE := probed_ok (k := x) (well := (aI acts k).w) hb he hxn ht (b1 := c.b1) (b2 := c.b2) (b3 := c.b3) (b4 := c.b4) (e1 := c.e1) (e2 := c.e2) (e3 := c.e3) (e4 := c.e4) (p1 := c.p1) (p2 := c.p2) (p3 := c.p3) (p4 := c.p4)
  refine ⟨⟨(bs.set x (peT c.b1 c.b2 c.b3 c.b4 c.e1 c.e2 c.e3 c.e4 c.p1 c.p2 c.p3 c.p4 (bs.getD x default) (aI acts k).w (nwE acts k now))), es, ts, nwE acts k now⟩, ia_up hI (by simp) rfl hw (fun t h => .inl h) (Nat.le_succ _) (bi_all hbi (by omega) (bi_up (hbi x hxn) rfl rfl rfl rfl (fun r h _ => h) rfl) (fun r h _ => h) (fun _ _ _ => rfl)), ?_⟩
  cases ts with
  | none => exact rv_nil5t0 (ts := []) (hs := []) (ts2 := []) (q := 0) hA hk h80 (Nat.zero_le _) hkd hx hxn cE
  | some l =>
    cases l with
    | nil => exact rv_emp5t0 (ts := []) (hs := []) (ts2 := []) (q := 0) hA hk h80 (Nat.zero_le _) hkd hx hxn cE
    | cons a r => exact rv_row5t0 (ts := a :: r) (hs := []) (ts2 := []) (q := 0) hA hk h80 (by simp only [Option.getD_some] at hl; omega) hkd hx hxn (Nat.succ_pos _) cE
theorem step2 (hA : rg.cells 0 = acts.flatMap actF) (hc : hcheck_0 c.b1 c.b2 c.b3 c.b4 c.e1 c.e2 c.e3 c.e4 c.p1 c.p2 c.p3 c.p4 = 0) (h80 : acts.length ≤ 80) (hp0 : 0 < n) (hn : n ≤ 20) (hk : k < acts.length) (hI : IA c n k ⟨bs, es, ts, now⟩) (hkd : pick_0 (aI acts k).k 6 = 2) : ∃ s', IA c n (k + 1) s' ∧ RS acts c n k ⟨bs, es, ts, now⟩ s' := by
  obtain ⟨c1, c2, c3⟩ := hcheck_parts hc
  have hb := hI.hb
  have he := hI.he
  have hl := hI.hl
  have hn0 := hI.n0
  have hn1 := hI.n1
  have hbi := hI.bi
  dsimp only at hb he hl hn0 hn1 hbi
  have hw := nwE_rng (acts := acts) (k := k) hn0 (by omega)
  have ht : 0 ≤ nwE acts k now ∧ nwE acts k now ≤ 253402300799 := by omega
  have hbm := bmay_in c1 ht
  cases ts with
  | none => exact ⟨⟨bs, es, none, nwE acts k now⟩, ia_up hI rfl rfl hw (fun t h => .inl h) (Nat.le_succ _) (fun y hy => bi_up (hbi y hy) rfl rfl rfl rfl (fun r h _ => h) rfl), rv_nil2tc (ts := []) (bs2 := bs) (es2 := es) (ts2 := []) (q := 0) (x := 0) (hs := []) (ep := 0) hA hk h80 (Nat.zero_le _) hkd⟩
  | some l =>
    cases l with
    | nil => exact ⟨⟨bs, es, some [], nwE acts k now⟩, ia_up hI rfl rfl hw (fun t h => .inl h) (Nat.le_succ _) (fun y hy => bi_up (hbi y hy) rfl rfl rfl rfl (fun r h _ => h) rfl), rv_emp2tc (ts := []) (bs2 := bs) (es2 := es) (ts2 := []) (q := 0) (x := 0) (hs := []) (ep := 0) hA hk h80 (Nat.zero_le _) hkd⟩
    | cons a r =>
      simp only [Option.getD_some] at hl hbi
      have hq := pick_rng (aI acts k).n (m := ((a :: r).length : Int)) (by simp only [List.length_cons]; omega) (by omega)
      obtain ⟨q, hqq⟩ : ∃ q : Nat, pick_0 (aI acts k).n ((a :: r).length : Int) = (q : Int) := ⟨_, (Int.toNat_of_nonneg hq.1).symm⟩
      have hqn : q < (a :: r).length := by omega
      have hmem : (a :: r).getD q default ∈ (a :: r) := by
        rw [List.getD_eq_getElem?_getD, List.getElem?_eq_getElem hqn]; exact List.getElem_mem hqn
      have hp := hI.ht _ hmem
      obtain ⟨x, hx⟩ : ∃ x : Nat, ((a :: r).getD q default).1 = (x : Int) := ⟨_, (Int.toNat_of_nonneg hp.1).symm⟩
      have hxn : x < n := by omega
      have hxe : (a :: r).getD q default = ((x : Int), ((a :: r).getD q default).2) := Prod.ext hx rfl
      have cE := end_ok (k := x) (ep := ((a :: r).getD q default).2) (well := (aI acts k).w) hb he hxn ht (by omega) (may_of (check_ok c2) ht.1 ht.2) (be6 hbm) (b1 := c.b1) (b2 := c.b2) (b3 := c.b3) (b4 := c.b4) (e1 := c.e1) (e2 := c.e2) (e3 := c.e3) (e4 := c.e4) (p1 := c.p1) (p2 := c.p2) (p3 := c.p3) (p4 := c.p4)
      rw [← hx] at cE
      have hlen : ((a :: r).eraseIdx q).length = (a :: r).length - 1 := List.length_eraseIdx_of_lt hqn
      have hI2 : IA c n (k + 1) ⟨(bs.set x (edT c.b1 c.b2 c.b3 c.b4 c.e1 c.e2 c.e3 c.e4 c.p1 c.p2 c.p3 c.p4 (bs.getD x default) ((a :: r).getD q default).2 (aI acts k).w (nwE acts k now))), (es.set x (repE c.e1 c.e2 c.e3 c.e4 es x (aI acts k).w (nwE acts k now))), some ((a :: r).eraseIdx q), nwE acts k now⟩ := ia_up hI (by simp) (by simp) hw (fun t h => .inl (mem_er h)) (by simp only [Option.getD_some]; omega)
        (bi_all hbi (by omega) (bi_end c1 hbm (by omega) (hbi x hxn) hqn hxe) (fun r h _ => mem_er h) (fun y p hy => by
          have := count_er (r := ((y : Int), p)) hqn
          rw [hxe, if_neg (fun h => by have := (Prod.mk.inj h).1; omega)] at this
          simp only [Option.getD_some]
          omega))
      refine ⟨_, hI2, ?_⟩
      by_cases h0 : q = 0 <;> by_cases h1 : q + 1 < (a :: r).length
      · have hne : (a :: r).eraseIdx q ≠ [] := fun h => by rw [h] at hlen; simp only [List.length_nil, List.length_cons] at hlen h1; omega
        unfold RS stH
        dsimp only
        rw [oHp_pos hne]
        exact rv_row2t0 (ts := a :: r) (q := q) (x := 0) (hs := []) (ep := 0) hA hk h80 (by omega) hkd hqq hqn h0 h1 (Nat.succ_pos _) cE (er_0 h0) (by omega)
      · have hnil : (a :: r).eraseIdx q = [] := List.length_eq_zero_iff.1 (by omega)
        rw [hnil]
        exact rv_row2t1 (ts2 := []) (ts := a :: r) (q := q) (x := 0) (hs := []) (ep := 0) hA hk h80 (by omega) hkd hqq hqn h0 h1 (Nat.succ_pos _) cE
      · have hne : (a :: r).eraseIdx q ≠ [] := fun h => by rw [h] at hlen; simp only [List.length_nil, List.length_cons] at hlen h1; omega
        unfold RS stH
        dsimp only
        rw [oHp_pos hne]
        exact rv_row2t2 (ts := a :: r) (q := q) (x := 0) (hs := []) (ep := 0) hA hk h80 (by omega) hkd hqq hqn h0 h1 (Nat.succ_pos _) cE er_m (by omega)
      · have hne : (a :: r).eraseIdx q ≠ [] := fun h => by rw [h] at hlen; simp only [List.length_nil, List.length_cons] at hlen h0 hqn; omega
        unfold RS stH
        dsimp only
        rw [oHp_pos hne]
        exact rv_row2t3 (ts := a :: r) (q := q) (x := 0) (hs := []) (ep := 0) hA hk h80 (by omega) hkd hqq hqn h0 h1 (Nat.succ_pos _) cE (er_l h1) (by omega)
theorem step3 (hA : rg.cells 0 = acts.flatMap actF) (hc : hcheck_0 c.b1 c.b2 c.b3 c.b4 c.e1 c.e2 c.e3 c.e4 c.p1 c.p2 c.p3 c.p4 = 0) (h80 : acts.length ≤ 80) (hp0 : 0 < n) (hn : n ≤ 20) (hk : k < acts.length) (hI : IA c n k ⟨bs, es, ts, now⟩) (hkd : pick_0 (aI acts k).k 6 = 3) : ∃ s', IA c n (k + 1) s' ∧ RS acts c n k ⟨bs, es, ts, now⟩ s' := by
  obtain ⟨c1, c2, c3⟩ := hcheck_parts hc
  have hb := hI.hb
  have he := hI.he
  have hl := hI.hl
  have hn0 := hI.n0
  have hn1 := hI.n1
  have hbi := hI.bi
  dsimp only at hb he hl hn0 hn1 hbi
  have hw := nwE_rng (acts := acts) (k := k) hn0 (by omega)
  have ht : 0 ≤ nwE acts k now ∧ nwE acts k now ≤ 253402300799 := by omega
  have hbm := bmay_in c1 ht
  cases ts with
  | none => exact ⟨⟨bs, es, none, nwE acts k now⟩, ia_up hI rfl rfl hw (fun t h => .inl h) (Nat.le_succ _) (fun y hy => bi_up (hbi y hy) rfl rfl rfl rfl (fun r h _ => h) rfl), rv_nil3tc (ts := []) (bs2 := bs) (es2 := es) (ts2 := []) (q := 0) (x := 0) (hs := []) (ep := 0) hA hk h80 (Nat.zero_le _) hkd⟩
  | some l =>
    cases l with
    | nil => exact ⟨⟨bs, es, some [], nwE acts k now⟩, ia_up hI rfl rfl hw (fun t h => .inl h) (Nat.le_succ _) (fun y hy => bi_up (hbi y hy) rfl rfl rfl rfl (fun r h _ => h) rfl), rv_emp3tc (ts := []) (bs2 := bs) (es2 := es) (ts2 := []) (q := 0) (x := 0) (hs := []) (ep := 0) hA hk h80 (Nat.zero_le _) hkd⟩
    | cons a r =>
      simp only [Option.getD_some] at hl hbi
      have hq := pick_rng (aI acts k).n (m := ((a :: r).length : Int)) (by simp only [List.length_cons]; omega) (by omega)
      obtain ⟨q, hqq⟩ : ∃ q : Nat, pick_0 (aI acts k).n ((a :: r).length : Int) = (q : Int) := ⟨_, (Int.toNat_of_nonneg hq.1).symm⟩
      have hqn : q < (a :: r).length := by omega
      have hmem : (a :: r).getD q default ∈ (a :: r) := by
        rw [List.getD_eq_getElem?_getD, List.getElem?_eq_getElem hqn]; exact List.getElem_mem hqn
      have hp := hI.ht _ hmem
      obtain ⟨x, hx⟩ : ∃ x : Nat, ((a :: r).getD q default).1 = (x : Int) := ⟨_, (Int.toNat_of_nonneg hp.1).symm⟩
      have hxn : x < n := by omega
      have hxe : (a :: r).getD q default = ((x : Int), ((a :: r).getD q default).2) := Prod.ext hx rfl
      have cE := give_ok (k := x) (ep := ((a :: r).getD q default).2) hb he hxn (b1 := c.b1) (b2 := c.b2) (b3 := c.b3) (b4 := c.b4) (e1 := c.e1) (e2 := c.e2) (e3 := c.e3) (e4 := c.e4) (p1 := c.p1) (p2 := c.p2) (p3 := c.p3) (p4 := c.p4)
      rw [← hx] at cE
      have hlen : ((a :: r).eraseIdx q).length = (a :: r).length - 1 := List.length_eraseIdx_of_lt hqn
      have hI2 : IA c n (k + 1) ⟨(bs.set x (gvT c.b1 c.b2 c.b3 c.b4 c.e1 c.e2 c.e3 c.e4 c.p1 c.p2 c.p3 c.p4 (bs.getD x default) ((a :: r).getD q default).2)), es, some ((a :: r).eraseIdx q), nwE acts k now⟩ := ia_up hI (by simp) rfl hw (fun t h => .inl (mem_er h)) (by simp only [Option.getD_some]; omega)
        (bi_all hbi (by omega) (bi_give c1 (by omega) (hbi x hxn) hqn hxe) (fun r h _ => mem_er h) (fun y p hy => by
          have := count_er (r := ((y : Int), p)) hqn
          rw [hxe, if_neg (fun h => by have := (Prod.mk.inj h).1; omega)] at this
          simp only [Option.getD_some]
          omega))
      refine ⟨_, hI2, ?_⟩
      by_cases h0 : q = 0 <;> by_cases h1 : q + 1 < (a :: r).length
      · have hne : (a :: r).eraseIdx q ≠ [] := fun h => by rw [h] at hlen; simp only [List.length_nil, List.length_cons] at hlen h1; omega
        unfold RS stH
        dsimp only
        rw [oHp_pos hne]
        exact rv_row3t0 (ts := a :: r) (q := q) (x := 0) (hs := []) hA hk h80 (by omega) hkd hqq hqn h0 h1 (Nat.succ_pos _) cE (er_0 h0) (by omega)
      · have hnil : (a :: r).eraseIdx q = [] := List.length_eq_zero_iff.1 (by omega)
        rw [hnil]
        exact rv_row3t1 (ts2 := []) (ts := a :: r) (q := q) (x := 0) (hs := []) hA hk h80 (by omega) hkd hqq hqn h0 h1 (Nat.succ_pos _) cE
      · have hne : (a :: r).eraseIdx q ≠ [] := fun h => by rw [h] at hlen; simp only [List.length_nil, List.length_cons] at hlen h1; omega
        unfold RS stH
        dsimp only
        rw [oHp_pos hne]
        exact rv_row3t2 (ts := a :: r) (q := q) (x := 0) (hs := []) hA hk h80 (by omega) hkd hqq hqn h0 h1 (Nat.succ_pos _) cE er_m (by omega)
      · have hne : (a :: r).eraseIdx q ≠ [] := fun h => by rw [h] at hlen; simp only [List.length_nil, List.length_cons] at hlen h0 hqn; omega
        unfold RS stH
        dsimp only
        rw [oHp_pos hne]
        exact rv_row3t3 (ts := a :: r) (q := q) (x := 0) (hs := []) hA hk h80 (by omega) hkd hqq hqn h0 h1 (Nat.succ_pos _) cE (er_l h1) (by omega)
theorem step_all (hA : rg.cells 0 = acts.flatMap actF) (hc : hcheck_0 c.b1 c.b2 c.b3 c.b4 c.e1 c.e2 c.e3 c.e4 c.p1 c.p2 c.p3 c.p4 = 0) (h80 : acts.length ≤ 80) (hp0 : 0 < n) (hn : n ≤ 20) (hk : k < acts.length) (hI : IA c n k ⟨bs, es, ts, now⟩) : ∃ s', IA c n (k + 1) s' ∧ RS acts c n k ⟨bs, es, ts, now⟩ s' := by
  have p := pick_rng (aI acts k).k (m := 6) (by omega) (by omega)
  have hv : pick_0 (aI acts k).k 6 = 0 ∨ pick_0 (aI acts k).k 6 = 1 ∨ pick_0 (aI acts k).k 6 = 2 ∨ pick_0 (aI acts k).k 6 = 3 ∨ pick_0 (aI acts k).k 6 = 4 ∨ pick_0 (aI acts k).k 6 = 5 := by omega
  rcases hv with h | h | h | h | h | h
  · exact step0 hA hc h80 hp0 hn hk hI h
  · exact step1 hA hc h80 hp0 hn hk hI h
  · exact step2 hA hc h80 hp0 hn hk hI h
  · exact step3 hA hc h80 hp0 hn hk hI h
  · exact step4 hA hc h80 hp0 hn hk hI h
  · exact step5 hA hc h80 hp0 hn hk hI h
end
end Go.Proofs.Ytadpnamooajpoaa
