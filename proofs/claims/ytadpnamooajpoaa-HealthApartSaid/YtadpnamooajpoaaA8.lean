/- HealthApart: states, what holds of them, a step. -/
import Derived.Test.YtadpnamooajpoaaA7
namespace Go.Proofs.Ytadpnamooajpoaa
open Go.RowKit
set_option linter.unusedSectionVars false
set_option linter.unusedSimpArgs false
set_option linter.unusedVariables false
set_option maxRecDepth 100000
section plain
theorem bmay_in {b1 b2 b3 b4 now : Int} (h : bcheck_0 b1 b2 b3 b4 = 0) (ht : 0 ≤ now ∧ now ≤ 253402300799) : bmay_0 b1 b2 b3 b4 now = 0 := by
  unfold bmay_0
  rw [h, show ((0 : Int) != 0) = false from rfl, show decide (now < 0) = false from decide_eq_false (by omega), show decide (now > 253402300799) = false from decide_eq_false (by omega)]
  rfl
theorem bg7 {b1 b2 b3 b4 now : Int} {t : BkT} {e : EjT} (hm : bmay_0 b1 b2 b3 b4 now = 0) (ha : mayE b1 b2 b3 b4 t e now = true) : bbegin_7 b1 b2 b3 b4 t.s t.f t.u t.o t.g t.p now = 0 := by
  have e0 : (bmay_0 b1 b2 b3 b4 now != 0) = false := by rw [hm]; rfl
  have hal : allows_0 b1 b2 b3 b4 t.s t.f t.u t.o t.g t.p now = true := by
    unfold mayE at ha
    rcases Bool.eq_false_or_eq_true t.up with h1 | h1
    · rw [h1] at ha
      rcases Bool.eq_false_or_eq_true (decide (e.2.2 > now)) with h2 | h2
      · rw [h2] at ha; cases ha
      · rw [h2] at ha; exact ha
    · rw [h1] at ha; cases ha
  unfold bbegin_7
  rw [e0, hal]
  cases (t.s == 2) <;> cases (t.s == 3) <;> rfl
theorem be6 {b1 b2 b3 b4 now s f u o g p ep : Int} {well : Bool} (h : bmay_0 b1 b2 b3 b4 now = 0) : (bend_6 b1 b2 b3 b4 s f u o g p ep well now != 0) = false := by
  have e : (bmay_0 b1 b2 b3 b4 now != 0) = false := by rw [h]; rfl
  unfold bend_6
  rw [e]
  simp only [cond_false]
  cases (ep != p) <;> cases (s == 1) <;> cases (s == 3) <;> rfl
theorem hcheck_parts {b1 b2 b3 b4 e1 e2 e3 e4 p1 p2 p3 p4 : Int} (h : hcheck_0 b1 b2 b3 b4 e1 e2 e3 e4 p1 p2 p3 p4 = 0) : bcheck_0 b1 b2 b3 b4 = 0 ∧ check_0 e1 e2 e3 e4 = 0 ∧ pcheck_0 p1 p2 p3 p4 = 0 := by
  unfold hcheck_0 at h
  rcases Bool.eq_false_or_eq_true (bcheck_0 b1 b2 b3 b4 != 0) with h1 | h1
  · rw [h1] at h; simp only [cond_true] at h; rw [h] at h1; cases h1
  · rw [h1] at h; simp only [cond_false] at h
    rcases Bool.eq_false_or_eq_true (check_0 e1 e2 e3 e4 != 0) with h2 | h2
    · rw [h2] at h; simp only [cond_true] at h; rw [h] at h2; cases h2
    · rw [h2] at h
      exact ⟨by simpa using h1, by simpa using h2, h⟩
theorem fm_take {T : Type} {f : T → List Value} {sz : Nat} (hf : ∀ t, (f t).length = sz) (l : List T) (k : Nat) : (l.take k).flatMap f = (l.flatMap f).take (k * sz) := by
  induction l generalizing k with
  | nil => simp
  | cons a r ih =>
    cases k with
    | zero => simp
    | succ k =>
      rw [List.take_succ_cons, List.flatMap_cons, List.flatMap_cons, ih, Nat.succ_mul, List.take_append, hf, List.take_of_length_le (l := f a) (by rw [hf]; omega), show k * sz + sz - sz = k * sz by omega]
theorem fm_drop {T : Type} {f : T → List Value} {sz : Nat} (hf : ∀ t, (f t).length = sz) (l : List T) (k : Nat) : (l.drop k).flatMap f = (l.flatMap f).drop (k * sz) := by
  induction l generalizing k with
  | nil => simp
  | cons a r ih =>
    cases k with
    | zero => simp
    | succ k =>
      rw [List.drop_succ_cons, List.flatMap_cons, ih, Nat.succ_mul, List.drop_append, hf, List.drop_of_length_le (i := k * sz + sz) (by rw [hf]; omega), show k * sz + sz - sz = k * sz by omega, List.nil_append]
theorem er_m {l : List TrT} {q : Nat} : (l.eraseIdx q).flatMap trF = [] ++ List.take (q * 2) (List.drop 0 (List.flatMap trF l)) ++ List.take ((l.length - (q + 1)) * 2) (List.drop (0 + (q + 1) * 2) (List.flatMap trF l)) := by
  rw [List.eraseIdx_eq_take_drop_succ, List.flatMap_append, fm_take tr2, fm_drop tr2, List.nil_append, List.drop_zero, Nat.zero_add, List.take_of_length_le (i := (l.length - (q + 1)) * 2) (by rw [List.length_drop, flatMap_len tr2]; omega)]
theorem er_0 {l : List TrT} {q : Nat} (h : q = 0) : (l.eraseIdx q).flatMap trF = [] ++ List.take ((l.length - (q + 1)) * 2) (List.drop (0 + (q + 1) * 2) (List.flatMap trF l)) := by
  rw [er_m]; subst h; simp
theorem er_l {l : List TrT} {q : Nat} (h : ¬ (q + 1 < l.length)) : (l.eraseIdx q).flatMap trF = [] ++ List.take (q * 2) (List.drop 0 (List.flatMap trF l)) := by
  rw [er_m, show l.length - (q + 1) = 0 by omega]; simp
end plain
/-- A state of the loop over the events. -/
structure SA where
  bs : List BkT
  es : List EjT
  ts : Option (List TrT)
  now : Int
def oSl (b : Nat) : Option (List TrT) → Value
  | none => .slice none 0 0
  | some ts => .slice (some ⟨b, 0, none⟩) ts.length ts.length
def oHp (b : Nat) : Option (List TrT) → Heap
  | none => []
  | some [] => [(b, ⟨54, [], 0⟩)]
  | some (t :: r) => [(b, ⟨54, (t :: r).flatMap trF, 3⟩)]
theorem oHp_pos {b : Nat} {l : List TrT} (h : l ≠ []) : oHp b (some l) = [(b, ⟨54, l.flatMap trF, 3⟩)] := by cases l with | nil => exact absurd rfl h | cons => rfl
def stF (acts : List ActT) (n k : Nat) (s : SA) : List Value := mkF [(1, vI (n : Int)), (2, .slice (some ⟨0, 0, some 2⟩) acts.length 0), (7, pN 1665), (9, oSl 1667 s.ts), (10, vI s.now), (11, vI (k : Int))] 195 0
def stH (c : CT) (n : Nat) (s : SA) : Heap := hM c n s.bs s.es (oHp 1667 s.ts)
/-- What holds of it behind so many events. -/
structure IA (n k : Nat) (s : SA) : Prop where
  hb : s.bs.length = n
  he : s.es.length = n
  ht : ∀ t ∈ s.ts.getD [], 0 ≤ t.1 ∧ t.1 < n
  hl : (s.ts.getD []).length ≤ k
  n0 : 0 ≤ s.now
  n1 : s.now ≤ 50 * k
variable [Inhabited RawG]
abbrev nwE (acts : List ActT) (k : Nat) (now : Int) : Int := IntKind.i64.wrap (now + pick_0 (aI acts k).m 50)
theorem nwE_rng {acts : List ActT} {k : Nat} {now : Int} (h0 : 0 ≤ now) (h1 : now ≤ 100000) : now ≤ nwE acts k now ∧ nwE acts k now ≤ now + 49 := by
  have p := pick_rng (aI acts k).m (m := 50) (by omega) (by omega)
  unfold nwE
  rw [w64 (by omega)]
  omega
abbrev RS (acts : List ActT) (c : CT) (n k : Nat) (s s' : SA) : Prop := RoundTo2 Try.prog callH 10 100 (loopN Try.prog 4 0) 1664 1672 [1, 2, 7, 9, 10, 11] .normal (stF acts n k s) (stH c n s) (stF acts n (k + 1) s') (stH c n s') 1672
theorem ia_up {n k : Nat} {bs bs2 : List BkT} {es es2 : List EjT} {ts ts2 : Option (List TrT)} {now nw : Int} (hI : IA n k ⟨bs, es, ts, now⟩) (hb : bs2.length = bs.length) (he : es2.length = es.length) (hw : now ≤ nw ∧ nw ≤ now + 49) (ht : ∀ t ∈ ts2.getD [], t ∈ ts.getD [] ∨ (0 ≤ t.1 ∧ t.1 < n)) (hl : (ts2.getD []).length ≤ (ts.getD []).length + 1) : IA n (k + 1) ⟨bs2, es2, ts2, nw⟩ := by
  obtain ⟨a1, a2, a3, a4, a5, a6⟩ := hI
  dsimp only at a1 a2 a3 a4 a5 a6
  exact ⟨by dsimp only; omega, by dsimp only; omega, fun t h => (ht t h).elim (a3 t) id, by dsimp only; omega, by dsimp only; omega, by dsimp only; omega⟩
theorem mem_er {l : List TrT} {q : Nat} {t : TrT} (h : t ∈ l.eraseIdx q) : t ∈ l := List.mem_of_mem_eraseIdx h
section
variable {acts : List ActT} {c : CT} {n k : Nat} {bs : List BkT} {es : List EjT} {ts : Option (List TrT)} {now : Int}
theorem step0 (hA : rg.cells 0 = acts.flatMap actF) (hc : hcheck_0 c.b1 c.b2 c.b3 c.b4 c.e1 c.e2 c.e3 c.e4 c.p1 c.p2 c.p3 c.p4 = 0) (h80 : acts.length ≤ 80) (hp0 : 0 < n) (hn : n ≤ 20) (hk : k < acts.length) (hI : IA n k ⟨bs, es, ts, now⟩) (hkd : pick_0 (aI acts k).k 6 = 0) : ∃ s', IA n (k + 1) s' ∧ RS acts c n k ⟨bs, es, ts, now⟩ s' := by
  obtain ⟨c1, c2, c3⟩ := hcheck_parts hc
  have hb := hI.hb
  have he := hI.he
  have hl := hI.hl
  have hn0 := hI.n0
  have hn1 := hI.n1
  dsimp only at hb he hl hn0 hn1
  have hw := nwE_rng (acts := acts) (k := k) hn0 (by omega)
  have ht : 0 ≤ nwE acts k now ∧ nwE acts k now ≤ 253402300799 := by omega
  have hp := pick_rng (aI acts k).i (m := (n : Int)) (by omega) (by omega)
  obtain ⟨x, hx⟩ : ∃ x : Nat, pick_0 (aI acts k).i (n : Int) = (x : Int) := ⟨_, (Int.toNat_of_nonneg hp.1).symm⟩
  have hxn : x < n := by omega
  have hM := hmay_ok (k := x) hb he hxn ht (b1 := c.b1) (b2 := c.b2) (b3 := c.b3) (b4 := c.b4) (e1 := c.e1) (e2 := c.e2) (e3 := c.e3) (e4 := c.e4) (p1 := c.p1) (p2 := c.p2) (p3 := c.p3) (p4 := c.p4)
  rcases Bool.eq_false_or_eq_true (mayE c.b1 c.b2 c.b3 c.b4 (bs.getD x default) (es.getD x default) (nwE acts k now)) with hm | hm
  · rw [hm] at hM
    have cE := begin_t hb he hxn ht hM
    rw [bg7 (bmay_in c1 ht) hm, ← hx] at cE
    refine ⟨⟨bs.set x (bgT c.b1 c.b2 c.b3 c.b4 c.e1 c.e2 c.e3 c.e4 c.p1 c.p2 c.p3 c.p4 (bs.getD x default) (nwE acts k now)), es, some (ts.getD [] ++ [(pick_0 (aI acts k).i (n : Int), bbegin_6 c.b1 c.b2 c.b3 c.b4 (bs.getD x default).s (bs.getD x default).f (bs.getD x default).u (bs.getD x default).o (bs.getD x default).g (bs.getD x default).p (nwE acts k now))]), nwE acts k now⟩, ia_up hI (by simp) rfl hw (fun t h => ?_) (by simp), ?_⟩
    · simp only [Option.getD_some, List.mem_append, List.mem_singleton] at h
      exact h.imp id fun h => by subst h; exact hp
    · have heq : ∀ y, y < n → (y : Int) ≠ pick_0 (aI acts k).i (n : Int) → (bs.set x (bgT c.b1 c.b2 c.b3 c.b4 c.e1 c.e2 c.e3 c.e4 c.p1 c.p2 c.p3 c.p4 (bs.getD x default) (nwE acts k now))).getD y default = bs.getD y default ∧ es.getD y default = es.getD y default := fun y hy hne => ⟨set_oth (by omega), rfl⟩
      cases ts with
      | none => exact st_nil0t0 (ts := []) (q := 0) hA hk h80 (Nat.zero_le _) hkd hb he hp0 (by omega) ht (by simp [hb]) he heq cE (by simp) rfl
      | some l =>
        cases l with
        | nil => exact st_emp0t0 (ts := []) (q := 0) hA hk h80 (Nat.zero_le _) hkd hb he hp0 (by omega) ht (by simp [hb]) he heq cE (by simp) rfl
        | cons a r => exact st_row0t0 (ts := a :: r) (q := 0) hA hk h80 (by simp only [Option.getD_some] at hl; omega) hkd (Nat.succ_pos _) hb he hp0 (by omega) ht (by simp [hb]) he heq cE (snoc_tr _ _).symm (by simp)
  · rw [hm] at hM
    have cE := begin_f hb he hxn ht hM
    rw [← hx] at cE
    refine ⟨⟨bs, es, ts, nwE acts k now⟩, ia_up hI rfl rfl hw (fun t h => .inl h) (Nat.le_succ _), ?_⟩
    cases ts with
    | none => exact st_nil0f0 (ts := []) (bs2 := bs) (es2 := es) (ts2 := []) (q := 0) (ep := 0) hA hk h80 (Nat.zero_le _) hkd hb he hp0 (by omega) ht cE
    | some l =>
      cases l with
      | nil => exact st_emp0f0 (ts := []) (bs2 := bs) (es2 := es) (ts2 := []) (q := 0) (ep := 0) hA hk h80 (Nat.zero_le _) hkd hb he hp0 (by omega) ht cE
      | cons a r => exact st_row0f0 (ts := a :: r) (bs2 := bs) (es2 := es) (ts2 := []) (q := 0) (ep := 0) hA hk h80 (by simp only [Option.getD_some] at hl; omega) hkd (Nat.succ_pos _) hb he hp0 (by omega) ht cE
theorem step1 (hA : rg.cells 0 = acts.flatMap actF) (hc : hcheck_0 c.b1 c.b2 c.b3 c.b4 c.e1 c.e2 c.e3 c.e4 c.p1 c.p2 c.p3 c.p4 = 0) (h80 : acts.length ≤ 80) (hp0 : 0 < n) (hn : n ≤ 20) (hk : k < acts.length) (hI : IA n k ⟨bs, es, ts, now⟩) (hkd : pick_0 (aI acts k).k 6 = 1) : ∃ s', IA n (k + 1) s' ∧ RS acts c n k ⟨bs, es, ts, now⟩ s' := by
  obtain ⟨c1, c2, c3⟩ := hcheck_parts hc
  have hb := hI.hb
  have he := hI.he
  have hl := hI.hl
  have hn0 := hI.n0
  have hn1 := hI.n1
  dsimp only at hb he hl hn0 hn1
  have hw := nwE_rng (acts := acts) (k := k) hn0 (by omega)
  have ht : 0 ≤ nwE acts k now ∧ nwE acts k now ≤ 253402300799 := by omega
  have hp := pick_rng (aI acts k).i (m := (n : Int)) (by omega) (by omega)
  obtain ⟨x, hx⟩ : ∃ x : Nat, pick_0 (aI acts k).i (n : Int) = (x : Int) := ⟨_, (Int.toNat_of_nonneg hp.1).symm⟩
  have hxn : x < n := by omega
  have hM := hmay_ok (k := x) hb he hxn ht (b1 := c.b1) (b2 := c.b2) (b3 := c.b3) (b4 := c.b4) (e1 := c.e1) (e2 := c.e2) (e3 := c.e3) (e4 := c.e4) (p1 := c.p1) (p2 := c.p2) (p3 := c.p3) (p4 := c.p4)
  rcases Bool.eq_false_or_eq_true (mayE c.b1 c.b2 c.b3 c.b4 (bs.getD x default) (es.getD x default) (nwE acts k now)) with hm | hm
  · rw [hm] at hM
    have cE := begin_t hb he hxn ht hM
    rw [bg7 (bmay_in c1 ht) hm, ← hx] at cE
    refine ⟨⟨bs.set x (bgT c.b1 c.b2 c.b3 c.b4 c.e1 c.e2 c.e3 c.e4 c.p1 c.p2 c.p3 c.p4 (bs.getD x default) (nwE acts k now)), es, some (ts.getD [] ++ [(pick_0 (aI acts k).i (n : Int), bbegin_6 c.b1 c.b2 c.b3 c.b4 (bs.getD x default).s (bs.getD x default).f (bs.getD x default).u (bs.getD x default).o (bs.getD x default).g (bs.getD x default).p (nwE acts k now))]), nwE acts k now⟩, ia_up hI (by simp) rfl hw (fun t h => ?_) (by simp), ?_⟩
    · simp only [Option.getD_some, List.mem_append, List.mem_singleton] at h
      exact h.imp id fun h => by subst h; exact hp
    · have heq : ∀ y, y < n → (y : Int) ≠ pick_0 (aI acts k).i (n : Int) → (bs.set x (bgT c.b1 c.b2 c.b3 c.b4 c.e1 c.e2 c.e3 c.e4 c.p1 c.p2 c.p3 c.p4 (bs.getD x default) (nwE acts k now))).getD y default = bs.getD y default ∧ es.getD y default = es.getD y default := fun y hy hne => ⟨set_oth (by omega), rfl⟩
      cases ts with
      | none => exact st_nil1t0 (ts := []) (q := 0) hA hk h80 (Nat.zero_le _) hkd hb he hp0 (by omega) ht (by simp [hb]) he heq cE (by simp) rfl
      | some l =>
        cases l with
        | nil => exact st_emp1t0 (ts := []) (q := 0) hA hk h80 (Nat.zero_le _) hkd hb he hp0 (by omega) ht (by simp [hb]) he heq cE (by simp) rfl
        | cons a r => exact st_row1t0 (ts := a :: r) (q := 0) hA hk h80 (by simp only [Option.getD_some] at hl; omega) hkd (Nat.succ_pos _) hb he hp0 (by omega) ht (by simp [hb]) he heq cE (snoc_tr _ _).symm (by simp)
  · rw [hm] at hM
    have cE := begin_f hb he hxn ht hM
    rw [← hx] at cE
    refine ⟨⟨bs, es, ts, nwE acts k now⟩, ia_up hI rfl rfl hw (fun t h => .inl h) (Nat.le_succ _), ?_⟩
    cases ts with
    | none => exact st_nil1f0 (ts := []) (bs2 := bs) (es2 := es) (ts2 := []) (q := 0) (ep := 0) hA hk h80 (Nat.zero_le _) hkd hb he hp0 (by omega) ht cE
    | some l =>
      cases l with
      | nil => exact st_emp1f0 (ts := []) (bs2 := bs) (es2 := es) (ts2 := []) (q := 0) (ep := 0) hA hk h80 (Nat.zero_le _) hkd hb he hp0 (by omega) ht cE
      | cons a r => exact st_row1f0 (ts := a :: r) (bs2 := bs) (es2 := es) (ts2 := []) (q := 0) (ep := 0) hA hk h80 (by simp only [Option.getD_some] at hl; omega) hkd (Nat.succ_pos _) hb he hp0 (by omega) ht cE
theorem step4 (hA : rg.cells 0 = acts.flatMap actF) (hc : hcheck_0 c.b1 c.b2 c.b3 c.b4 c.e1 c.e2 c.e3 c.e4 c.p1 c.p2 c.p3 c.p4 = 0) (h80 : acts.length ≤ 80) (hp0 : 0 < n) (hn : n ≤ 20) (hk : k < acts.length) (hI : IA n k ⟨bs, es, ts, now⟩) (hkd : pick_0 (aI acts k).k 6 = 4) : ∃ s', IA n (k + 1) s' ∧ RS acts c n k ⟨bs, es, ts, now⟩ s' := by
  obtain ⟨c1, c2, c3⟩ := hcheck_parts hc
  have hb := hI.hb
  have he := hI.he
  have hl := hI.hl
  have hn0 := hI.n0
  have hn1 := hI.n1
  dsimp only at hb he hl hn0 hn1
  have hw := nwE_rng (acts := acts) (k := k) hn0 (by omega)
  have ht : 0 ≤ nwE acts k now ∧ nwE acts k now ≤ 253402300799 := by omega
  have hp := pick_rng (aI acts k).i (m := (n : Int)) (by omega) (by omega)
  obtain ⟨x, hx⟩ : ∃ x : Nat, pick_0 (aI acts k).i (n : Int) = (x : Int) := ⟨_, (Int.toNat_of_nonneg hp.1).symm⟩
  have hxn : x < n := by omega
  have cE := probe_ok (k := x) hb he hxn ht (b1 := c.b1) (b2 := c.b2) (b3 := c.b3) (b4 := c.b4) (e1 := c.e1) (e2 := c.e2) (e3 := c.e3) (e4 := c.e4) (p1 := c.p1) (p2 := c.p2) (p3 := c.p3) (p4 := c.p4)
  rw [← hx] at cE
  refine ⟨⟨(bs.set x (pbT c.b1 c.b2 c.b3 c.b4 c.e1 c.e2 c.e3 c.e4 c.p1 c.p2 c.p3 c.p4 (bs.getD x default) (nwE acts k now))), es, ts, nwE acts k now⟩, ia_up hI (by simp) rfl hw (fun t h => .inl h) (Nat.le_succ _), ?_⟩
  have heq : ∀ y, y < n → (y : Int) ≠ pick_0 (aI acts k).i (n : Int) → (bs.set x (pbT c.b1 c.b2 c.b3 c.b4 c.e1 c.e2 c.e3 c.e4 c.p1 c.p2 c.p3 c.p4 (bs.getD x default) (nwE acts k now))).getD y default = bs.getD y default ∧ es.getD y default = es.getD y default := fun y hy hne => ⟨set_oth (by omega), rfl⟩
  cases ts with
  | none => exact st_nil4t0 (ts := []) (ts2 := []) (q := 0) hA hk h80 (Nat.zero_le _) hkd hb he hp0 (by omega) ht (by simp [hb]) he heq cE
  | some l =>
    cases l with
    | nil => exact st_emp4t0 (ts := []) (ts2 := []) (q := 0) hA hk h80 (Nat.zero_le _) hkd hb he hp0 (by omega) ht (by simp [hb]) he heq cE
    | cons a r => exact st_row4t0 (ts := a :: r) (ts2 := []) (q := 0) hA hk h80 (by simp only [Option.getD_some] at hl; omega) hkd (Nat.succ_pos _) hb he hp0 (by omega) ht (by simp [hb]) he heq cE
theorem step5 (hA : rg.cells 0 = acts.flatMap actF) (hc : hcheck_0 c.b1 c.b2 c.b3 c.b4 c.e1 c.e2 c.e3 c.e4 c.p1 c.p2 c.p3 c.p4 = 0) (h80 : acts.length ≤ 80) (hp0 : 0 < n) (hn : n ≤ 20) (hk : k < acts.length) (hI : IA n k ⟨bs, es, ts, now⟩) (hkd : pick_0 (aI acts k).k 6 = 5) : ∃ s', IA n (k + 1) s' ∧ RS acts c n k ⟨bs, es, ts, now⟩ s' := by
  obtain ⟨c1, c2, c3⟩ := hcheck_parts hc
  have hb := hI.hb
  have he := hI.he
  have hl := hI.hl
  have hn0 := hI.n0
  have hn1 := hI.n1
  dsimp only at hb he hl hn0 hn1
  have hw := nwE_rng (acts := acts) (k := k) hn0 (by omega)
  have ht : 0 ≤ nwE acts k now ∧ nwE acts k now ≤ 253402300799 := by omega
  have hp := pick_rng (aI acts k).i (m := (n : Int)) (by omega) (by omega)
  obtain ⟨x, hx⟩ : ∃ x : Nat, pick_0 (aI acts k).i (n : Int) = (x : Int) := ⟨_, (Int.toNat_of_nonneg hp.1).symm⟩
  have hxn : x < n := by omega
  have cE := probed_ok (k := x) (well := (aI acts k).w) hb he hxn ht (b1 := c.b1) (b2 := c.b2) (b3 := c.b3) (b4 := c.b4) (e1 := c.e1) (e2 := c.e2) (e3 := c.e3) (e4 := c.e4) (p1 := c.p1) (p2 := c.p2) (p3 := c.p3) (p4 := c.p4)
  rw [← hx] at cE
  refine ⟨⟨(bs.set x (peT c.b1 c.b2 c.b3 c.b4 c.e1 c.e2 c.e3 c.e4 c.p1 c.p2 c.p3 c.p4 (bs.getD x default) (aI acts k).w (nwE acts k now))), es, ts, nwE acts k now⟩, ia_up hI (by simp) rfl hw (fun t h => .inl h) (Nat.le_succ _), ?_⟩
  have heq : ∀ y, y < n → (y : Int) ≠ pick_0 (aI acts k).i (n : Int) → (bs.set x (peT c.b1 c.b2 c.b3 c.b4 c.e1 c.e2 c.e3 c.e4 c.p1 c.p2 c.p3 c.p4 (bs.getD x default) (aI acts k).w (nwE acts k now))).getD y default = bs.getD y default ∧ es.getD y default = es.getD y default := fun y hy hne => ⟨set_oth (by omega), rfl⟩
  cases ts with
  | none => exact st_nil5t0 (ts := []) (ts2 := []) (q := 0) hA hk h80 (Nat.zero_le _) hkd hb he hp0 (by omega) ht (by simp [hb]) he heq cE
  | some l =>
    cases l with
    | nil => exact st_emp5t0 (ts := []) (ts2 := []) (q := 0) hA hk h80 (Nat.zero_le _) hkd hb he hp0 (by omega) ht (by simp [hb]) he heq cE
    | cons a r => exact st_row5t0 (ts := a :: r) (ts2 := []) (q := 0) hA hk h80 (by simp only [Option.getD_some] at hl; omega) hkd (Nat.succ_pos _) hb he hp0 (by omega) ht (by simp [hb]) he heq cE
theorem step2 (hA : rg.cells 0 = acts.flatMap actF) (hc : hcheck_0 c.b1 c.b2 c.b3 c.b4 c.e1 c.e2 c.e3 c.e4 c.p1 c.p2 c.p3 c.p4 = 0) (h80 : acts.length ≤ 80) (hp0 : 0 < n) (hn : n ≤ 20) (hk : k < acts.length) (hI : IA n k ⟨bs, es, ts, now⟩) (hkd : pick_0 (aI acts k).k 6 = 2) : ∃ s', IA n (k + 1) s' ∧ RS acts c n k ⟨bs, es, ts, now⟩ s' := by
  obtain ⟨c1, c2, c3⟩ := hcheck_parts hc
  have hb := hI.hb
  have he := hI.he
  have hl := hI.hl
  have hn0 := hI.n0
  have hn1 := hI.n1
  dsimp only at hb he hl hn0 hn1
  have hw := nwE_rng (acts := acts) (k := k) hn0 (by omega)
  have ht : 0 ≤ nwE acts k now ∧ nwE acts k now ≤ 253402300799 := by omega
  cases ts with
  | none => exact ⟨⟨bs, es, none, nwE acts k now⟩, ia_up hI rfl rfl hw (fun t h => .inl h) (Nat.le_succ _), st_nil2tc (ts := []) (bs2 := bs) (es2 := es) (ts2 := []) (q := 0) (ep := 0) hA hk h80 (Nat.zero_le _) hkd hb he hp0 (by omega)⟩
  | some l =>
    cases l with
    | nil => exact ⟨⟨bs, es, some [], nwE acts k now⟩, ia_up hI rfl rfl hw (fun t h => .inl h) (Nat.le_succ _), st_emp2tc (ts := []) (bs2 := bs) (es2 := es) (ts2 := []) (q := 0) (ep := 0) hA hk h80 (Nat.zero_le _) hkd hb he hp0 (by omega)⟩
    | cons a r =>
      simp only [Option.getD_some] at hl
      have hq := pick_rng (aI acts k).n (m := ((a :: r).length : Int)) (by simp only [List.length_cons]; omega) (by omega)
      obtain ⟨q, hqq⟩ : ∃ q : Nat, pick_0 (aI acts k).n ((a :: r).length : Int) = (q : Int) := ⟨_, (Int.toNat_of_nonneg hq.1).symm⟩
      have hqn : q < (a :: r).length := by omega
      have hmem : (a :: r).getD q default ∈ (a :: r) := by
        rw [List.getD_eq_getElem?_getD, List.getElem?_eq_getElem hqn]; exact List.getElem_mem hqn
      have hp := hI.ht _ hmem
      obtain ⟨x, hx⟩ : ∃ x : Nat, ((a :: r).getD q default).1 = (x : Int) := ⟨_, (Int.toNat_of_nonneg hp.1).symm⟩
      have hxn : x < n := by omega
      have cE := end_ok (k := x) (ep := ((a :: r).getD q default).2) (well := (aI acts k).w) hb he hxn ht (by omega) (may_of (check_ok c2) ht.1 ht.2) (be6 (bmay_in c1 ht)) (b1 := c.b1) (b2 := c.b2) (b3 := c.b3) (b4 := c.b4) (e1 := c.e1) (e2 := c.e2) (e3 := c.e3) (e4 := c.e4) (p1 := c.p1) (p2 := c.p2) (p3 := c.p3) (p4 := c.p4)
      rw [← hx] at cE
      have heq : ∀ y, y < n → (y : Int) ≠ ((a :: r).getD q default).1 → (bs.set x (edT c.b1 c.b2 c.b3 c.b4 c.e1 c.e2 c.e3 c.e4 c.p1 c.p2 c.p3 c.p4 (bs.getD x default) ((a :: r).getD q default).2 (aI acts k).w (nwE acts k now))).getD y default = bs.getD y default ∧ (es.set x (repE c.e1 c.e2 c.e3 c.e4 es x (aI acts k).w (nwE acts k now))).getD y default = es.getD y default := fun y hy hne => ⟨set_oth (by omega), set_oth (by omega)⟩
      have hlen : ((a :: r).eraseIdx q).length = (a :: r).length - 1 := List.length_eraseIdx_of_lt hqn
      have hI2 : IA n (k + 1) ⟨(bs.set x (edT c.b1 c.b2 c.b3 c.b4 c.e1 c.e2 c.e3 c.e4 c.p1 c.p2 c.p3 c.p4 (bs.getD x default) ((a :: r).getD q default).2 (aI acts k).w (nwE acts k now))), (es.set x (repE c.e1 c.e2 c.e3 c.e4 es x (aI acts k).w (nwE acts k now))), some ((a :: r).eraseIdx q), nwE acts k now⟩ := ia_up hI (by simp) (by simp) hw (fun t h => .inl (mem_er h)) (by simp only [Option.getD_some]; omega)
      refine ⟨_, hI2, ?_⟩
      by_cases h0 : q = 0 <;> by_cases h1 : q + 1 < (a :: r).length
      · have hne : (a :: r).eraseIdx q ≠ [] := fun h => by rw [h] at hlen; simp only [List.length_nil, List.length_cons] at hlen h1; omega
        unfold RS stH
        dsimp only
        rw [oHp_pos hne]
        exact st_row2t0 (ts := a :: r) (q := q) (ep := 0) hA hk h80 (by omega) hkd hqq hqn h0 h1 (Nat.succ_pos _) hb he hp0 (by omega) ht (by simp [hb]) (by simp [he]) heq cE (er_0 h0) (by omega)
      · have hnil : (a :: r).eraseIdx q = [] := List.length_eq_zero_iff.1 (by omega)
        rw [hnil]
        exact st_row2t1 (ts2 := []) (ts := a :: r) (q := q) (ep := 0) hA hk h80 (by omega) hkd hqq hqn h0 h1 (Nat.succ_pos _) hb he hp0 (by omega) ht (by simp [hb]) (by simp [he]) heq cE
      · have hne : (a :: r).eraseIdx q ≠ [] := fun h => by rw [h] at hlen; simp only [List.length_nil, List.length_cons] at hlen h1; omega
        unfold RS stH
        dsimp only
        rw [oHp_pos hne]
        exact st_row2t2 (ts := a :: r) (q := q) (ep := 0) hA hk h80 (by omega) hkd hqq hqn h0 h1 (Nat.succ_pos _) hb he hp0 (by omega) ht (by simp [hb]) (by simp [he]) heq cE er_m (by omega)
      · have hne : (a :: r).eraseIdx q ≠ [] := fun h => by rw [h] at hlen; simp only [List.length_nil, List.length_cons] at hlen h0 hqn; omega
        unfold RS stH
        dsimp only
        rw [oHp_pos hne]
        exact st_row2t3 (ts := a :: r) (q := q) (ep := 0) hA hk h80 (by omega) hkd hqq hqn h0 h1 (Nat.succ_pos _) hb he hp0 (by omega) ht (by simp [hb]) (by simp [he]) heq cE (er_l h1) (by omega)
theorem step3 (hA : rg.cells 0 = acts.flatMap actF) (hc : hcheck_0 c.b1 c.b2 c.b3 c.b4 c.e1 c.e2 c.e3 c.e4 c.p1 c.p2 c.p3 c.p4 = 0) (h80 : acts.length ≤ 80) (hp0 : 0 < n) (hn : n ≤ 20) (hk : k < acts.length) (hI : IA n k ⟨bs, es, ts, now⟩) (hkd : pick_0 (aI acts k).k 6 = 3) : ∃ s', IA n (k + 1) s' ∧ RS acts c n k ⟨bs, es, ts, now⟩ s' := by
  obtain ⟨c1, c2, c3⟩ := hcheck_parts hc
  have hb := hI.hb
  have he := hI.he
  have hl := hI.hl
  have hn0 := hI.n0
  have hn1 := hI.n1
  dsimp only at hb he hl hn0 hn1
  have hw := nwE_rng (acts := acts) (k := k) hn0 (by omega)
  have ht : 0 ≤ nwE acts k now ∧ nwE acts k now ≤ 253402300799 := by omega
  cases ts with
  | none => exact ⟨⟨bs, es, none, nwE acts k now⟩, ia_up hI rfl rfl hw (fun t h => .inl h) (Nat.le_succ _), st_nil3tc (ts := []) (bs2 := bs) (es2 := es) (ts2 := []) (q := 0) (ep := 0) hA hk h80 (Nat.zero_le _) hkd hb he hp0 (by omega)⟩
  | some l =>
    cases l with
    | nil => exact ⟨⟨bs, es, some [], nwE acts k now⟩, ia_up hI rfl rfl hw (fun t h => .inl h) (Nat.le_succ _), st_emp3tc (ts := []) (bs2 := bs) (es2 := es) (ts2 := []) (q := 0) (ep := 0) hA hk h80 (Nat.zero_le _) hkd hb he hp0 (by omega)⟩
    | cons a r =>
      simp only [Option.getD_some] at hl
      have hq := pick_rng (aI acts k).n (m := ((a :: r).length : Int)) (by simp only [List.length_cons]; omega) (by omega)
      obtain ⟨q, hqq⟩ : ∃ q : Nat, pick_0 (aI acts k).n ((a :: r).length : Int) = (q : Int) := ⟨_, (Int.toNat_of_nonneg hq.1).symm⟩
      have hqn : q < (a :: r).length := by omega
      have hmem : (a :: r).getD q default ∈ (a :: r) := by
        rw [List.getD_eq_getElem?_getD, List.getElem?_eq_getElem hqn]; exact List.getElem_mem hqn
      have hp := hI.ht _ hmem
      obtain ⟨x, hx⟩ : ∃ x : Nat, ((a :: r).getD q default).1 = (x : Int) := ⟨_, (Int.toNat_of_nonneg hp.1).symm⟩
      have hxn : x < n := by omega
      have cE := give_ok (k := x) (ep := ((a :: r).getD q default).2) hb he hxn (b1 := c.b1) (b2 := c.b2) (b3 := c.b3) (b4 := c.b4) (e1 := c.e1) (e2 := c.e2) (e3 := c.e3) (e4 := c.e4) (p1 := c.p1) (p2 := c.p2) (p3 := c.p3) (p4 := c.p4)
      rw [← hx] at cE
      have heq : ∀ y, y < n → (y : Int) ≠ ((a :: r).getD q default).1 → (bs.set x (gvT c.b1 c.b2 c.b3 c.b4 c.e1 c.e2 c.e3 c.e4 c.p1 c.p2 c.p3 c.p4 (bs.getD x default) ((a :: r).getD q default).2)).getD y default = bs.getD y default ∧ es.getD y default = es.getD y default := fun y hy hne => ⟨set_oth (by omega), rfl⟩
      have hlen : ((a :: r).eraseIdx q).length = (a :: r).length - 1 := List.length_eraseIdx_of_lt hqn
      have hI2 : IA n (k + 1) ⟨(bs.set x (gvT c.b1 c.b2 c.b3 c.b4 c.e1 c.e2 c.e3 c.e4 c.p1 c.p2 c.p3 c.p4 (bs.getD x default) ((a :: r).getD q default).2)), es, some ((a :: r).eraseIdx q), nwE acts k now⟩ := ia_up hI (by simp) rfl hw (fun t h => .inl (mem_er h)) (by simp only [Option.getD_some]; omega)
      refine ⟨_, hI2, ?_⟩
      by_cases h0 : q = 0 <;> by_cases h1 : q + 1 < (a :: r).length
      · have hne : (a :: r).eraseIdx q ≠ [] := fun h => by rw [h] at hlen; simp only [List.length_nil, List.length_cons] at hlen h1; omega
        unfold RS stH
        dsimp only
        rw [oHp_pos hne]
        exact st_row3t0 (ts := a :: r) (q := q) hA hk h80 (by omega) hkd hqq hqn h0 h1 (Nat.succ_pos _) hb he hp0 (by omega) ht (by simp [hb]) he heq cE (er_0 h0) (by omega)
      · have hnil : (a :: r).eraseIdx q = [] := List.length_eq_zero_iff.1 (by omega)
        rw [hnil]
        exact st_row3t1 (ts2 := []) (ts := a :: r) (q := q) hA hk h80 (by omega) hkd hqq hqn h0 h1 (Nat.succ_pos _) hb he hp0 (by omega) ht (by simp [hb]) he heq cE
      · have hne : (a :: r).eraseIdx q ≠ [] := fun h => by rw [h] at hlen; simp only [List.length_nil, List.length_cons] at hlen h1; omega
        unfold RS stH
        dsimp only
        rw [oHp_pos hne]
        exact st_row3t2 (ts := a :: r) (q := q) hA hk h80 (by omega) hkd hqq hqn h0 h1 (Nat.succ_pos _) hb he hp0 (by omega) ht (by simp [hb]) he heq cE er_m (by omega)
      · have hne : (a :: r).eraseIdx q ≠ [] := fun h => by rw [h] at hlen; simp only [List.length_nil, List.length_cons] at hlen h0 hqn; omega
        unfold RS stH
        dsimp only
        rw [oHp_pos hne]
        exact st_row3t3 (ts := a :: r) (q := q) hA hk h80 (by omega) hkd hqq hqn h0 h1 (Nat.succ_pos _) hb he hp0 (by omega) ht (by simp [hb]) he heq cE (er_l h1) (by omega)
theorem step_all (hA : rg.cells 0 = acts.flatMap actF) (hc : hcheck_0 c.b1 c.b2 c.b3 c.b4 c.e1 c.e2 c.e3 c.e4 c.p1 c.p2 c.p3 c.p4 = 0) (h80 : acts.length ≤ 80) (hp0 : 0 < n) (hn : n ≤ 20) (hk : k < acts.length) (hI : IA n k ⟨bs, es, ts, now⟩) : ∃ s', IA n (k + 1) s' ∧ RS acts c n k ⟨bs, es, ts, now⟩ s' := by
  have p := pick_rng (aI acts k).k (m := 6) (by omega) (by omega)
  have hv : pick_0 (aI acts k).k 6 = 0 ∨ pick_0 (aI acts k).k 6 = 1 ∨ pick_0 (aI acts k).k 6 = 2 ∨ pick_0 (aI acts k).k 6 = 3 ∨ pick_0 (aI acts k).k 6 = 4 ∨ pick_0 (aI acts k).k 6 = 5 := by omega
  rcases hv with h | h | h | h | h | h
  · exact step0 hA hc h80 hp0 hn hk hI h
  · exact step1 hA hc h80 hp0 hn hk hI h
  · exact step2 hA hc h80 hp0 hn hk hI h
  · exact step3 hA hc h80 hp0 hn hk hI h
  · exact step4 hA hc h80 hp0 hn hk hI h
  · exact step5 hA hc h80 hp0 hn hk hI h
end
end Go.Proofs.Ytadpnamooajpoaa
