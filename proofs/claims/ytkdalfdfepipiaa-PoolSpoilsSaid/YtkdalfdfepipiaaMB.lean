/- PoolSpoils behind the copy: all fourteen. PoolSpoils: the law. -/
import Derived.Test.YtkdalfdfepipiaaMA
import Derived.KernelRfl
namespace Go.Proofs.Ytkdalfdfepipiaa
section
open Go.RowKit
set_option linter.unusedSimpArgs false
set_option linter.unusedVariables false
set_option linter.unusedSectionVars false
set_option maxRecDepth 100000
/-- No text of a pool, no row is too long. -/
structure SmT (p : PoolT) : Prop where
  n : p.nm.size ≤ 9000000000000
  h : ∀ h ∈ p.hs, h.size ≤ 9000000000000
  b : ∀ b ∈ p.bk, b.1.size ≤ 9000000000000
  l : p.hs.length ≤ 9000000000
  m : p.bk.length ≤ 9000000000
theorem small_numS {M : List PX} {off : Nat} (h : ∀ j, j < M.length → SmT (M.getD j default).1 ∨ ((M.getD j default).1.nm.size ≤ 9000000000000 ∧ (∀ h ∈ (M.getD j default).1.hs, h.size ≤ 9000000000000) ∧ (∀ b ∈ (M.getD j default).1.bk, b.1.size ≤ 9000000000000) ∧ (M.getD j default).1.hs.length ≤ 9000000000000)) : SmallP (numS M off) := by
  have key : ∀ p ∈ numS M off, p.nm.size ≤ 9000000000000 ∧ (∀ h ∈ p.hs, h.size ≤ 9000000000000) ∧ (∀ b ∈ p.bk, b.1.size ≤ 9000000000000) ∧ p.hs.length ≤ 9000000000000 := fun p hp => by
    obtain ⟨j, hj, rfl⟩ := List.mem_map.1 hp
    rcases h j (List.mem_range.1 hj) with h1 | h1
    · exact ⟨h1.n, h1.h, h1.b, Nat.le_trans h1.l (by decide)⟩
    · exact h1
  exact ⟨fun p hp => (key p hp).1, fun p hp => (key p hp).2.1, fun p hp => (key p hp).2.2.1, fun p hp => (key p hp).2.2.2⟩
theorem hsh1 {R : List PX} {x : Nat} {t : PX} (hx : x < R.length) : ∀ j, j < ((engL R).set x t).length → (∃ i, i < R.length ∧ i ≠ x ∧ ((engL R).set x t).getD j default = engX (R.getD i default) i) ∨ ((engL R).set x t).getD j default = t := fun j hj => by
  rw [List.length_set, engL_len] at hj
  by_cases hjx : j = x
  · subst hjx
    exact .inr (getD_set_eq' (by rw [engL_len]; exact hj))
  · exact .inl ⟨j, hj, hjx, by rw [getD_set_ne' hjx, engL_get hj]⟩
theorem hsh2 {R : List PX} {x : Nat} {t : PX} (hx : x < R.length) : ∀ j, j < ((engL R).set x t ++ [t]).length → (∃ i, i < R.length ∧ i ≠ x ∧ ((engL R).set x t ++ [t]).getD j default = engX (R.getD i default) i) ∨ ((engL R).set x t ++ [t]).getD j default = t := fun j hj => by
  by_cases hjl : j < ((engL R).set x t).length
  · rw [show ((engL R).set x t ++ [t]).getD j default = ((engL R).set x t).getD j default by rw [List.getD_eq_getElem?_getD, List.getElem?_append_left hjl, List.getD_eq_getElem?_getD]]
    exact hsh1 hx j hjl
  · have e : j = ((engL R).set x t).length := by rw [List.length_append, List.length_singleton] at hj; omega
    subst e
    exact .inr getD_snoc
theorem flat_set2 {L : List PX} {x : Nat} {t u : PX} (h : realP t = realP u) : (L.set x t).flatMap realP = (L.set x u).flatMap realP := by
  refine flat_congr (by simp) fun j hj => ?_
  rw [List.length_set] at hj
  by_cases hjx : j = x
  · subst hjx
    rw [getD_set_eq' hj, getD_set_eq' hj, h]
  · rw [getD_set_ne' hjx, getD_set_ne' hjx]
theorem mem_set0 {T : Type} {l : List T} {a b : T} (h : b ∈ l.set 0 a) : b ∈ l ∨ b = a := List.mem_or_eq_of_mem_set h
theorem empty_size : (⟨#[]⟩ : ByteArray).size = 0 := rfl
theorem sp_case0 {n1 : Nat} {w0 : World} {K : CfgS} {Lc : List PX} {oa : Option Addr} {cc : Nat} {R : List PX} {B3 B7 Bd cap : Nat} {w : World} {x Bh ch Bb cb : Nat} {a : Act} {wh wt : Int} (hS : SpSt n1 w0 K Lc oa cc R B3 B7 Bd cap w) (hx : x < R.length) (hhp : 0 < (R.getD x default).1.hs.length) (hbp : 0 < (R.getD x default).1.bk.length) (eh : (R.getD x default).2.1 = .slice (some ⟨Bh, 0, none⟩) (R.getD x default).1.hs.length ch) (eb : (R.getD x default).2.2 = .slice (some ⟨Bb, 0, none⟩) (R.getD x default).1.bk.length cb) (rh : RowAt w Bh 9 ch 1 ((R.getD x default).1.hs.flatMap hF)) (rb : RowAt w Bb 54 cb 2 ((R.getD x default).1.bk.flatMap bkV)) (hsz : a.tmps.size = 171) (hdf : a.defers = []) (t1 : a.tmps.getD 1 undef = .int .i64 wh) (t2 : a.tmps.getD 2 undef = .int .i64 wt) (t3 : a.tmps.getD 3 undef = .pointer (some ⟨B3, 0, none⟩)) (t6 : a.tmps.getD 6 undef = .bool false) (t7 : a.tmps.getD 7 undef = .pointer (some ⟨B7, 0, none⟩))
    (h10 : @CallOK ⟨rawOf (insS Lc oa cc x R)⟩ Try.prog 10 [.int .i64 wh, .int .i64 (R.length : Int)] [] 0 (.int .i64 (x : Int)) []) (hk : @CallOK ⟨rawOf (insS Lc oa cc x R)⟩ Try.prog 10 [.int .i64 wt, .int .i64 14] [] 0 (.int .i64 0) []) (hLs : ∀ t ∈ Lc, SmT t.1) (h9 : Lc.length ≤ 9000000000) (hzc : K.cn.size ≤ 9000000000000) (hc0 : cfgV K (poolsV (numS Lc 0)) = 0) : (Code.seq (Code.seq (regN Try.prog 5 6) (Code.cond (.tmp 34) (Code.seq (regN Try.prog 5 7) Code.ret) Code.skip)) (Code.seq (regN Try.prog 5 8) (Code.seq (regN Try.prog 5 9) (Code.seq (Code.seq (regN Try.prog 5 10) (Code.cond (.tmp 57) (Code.seq (regN Try.prog 5 11) Code.ret) Code.skip)) (Code.seq (Code.seq (regN Try.prog 5 12) (Code.block 0 (((regN Try.prog 5 13)).seq (Code.cond (.tmp 62) ((regN Try.prog 5 14)) (((regN Try.prog 5 15)).seq (Code.cond (.tmp 67) ((regN Try.prog 5 16)) (((regN Try.prog 5 17)).seq (Code.cond (.tmp 84) ((regN Try.prog 5 18)) (((regN Try.prog 5 19)).seq (Code.cond (.tmp 91) ((regN Try.prog 5 20)) (((regN Try.prog 5 21)).seq (Code.cond (.tmp 108) ((regN Try.prog 5 22)) (((regN Try.prog 5 23)).seq (Code.cond (.tmp 117) ((regN Try.prog 5 24)) (((regN Try.prog 5 25)).seq (Code.cond (.tmp 122) ((regN Try.prog 5 26)) (((regN Try.prog 5 27)).seq (Code.cond (.tmp 136) ((regN Try.prog 5 28)) (((regN Try.prog 5 29)).seq (Code.cond (.tmp 146) ((regN Try.prog 5 30)) (((regN Try.prog 5 31)).seq (Code.cond (.tmp 149) ((regN Try.prog 5 32)) (((regN Try.prog 5 33)).seq (Code.cond (.tmp 153) ((regN Try.prog 5 34)) (((regN Try.prog 5 35)).seq (Code.cond (.tmp 156) ((regN Try.prog 5 36)) (((regN Try.prog 5 37)).seq (Code.cond (.tmp 159) ((regN Try.prog 5 38)) ((regN Try.prog 5 39)))))))))))))))))))))))))))))) (Code.seq (regN Try.prog 5 40) Code.ret)))))).wp Try.prog (bodyPost Try.prog Try.f5 (fun e w1 => e = .returned (.bool true) ∧ Below w0.heap.size w0 w1)) a w := by
  letI : Inhabited RawG := ⟨rawOf (insS Lc oa cc x R)⟩
  have hlen := hS.cp.len
  have hsR : ∀ i, i < R.length → SmT (R.getD i default).1 := fun i hi => by rw [hS.cp.data i]; exact hLs _ (getD_mem' (by omega))
  have hsm := hsR x hx
  have hgx : chkP (R.getD x default).1 = 0 := by
    have h1 := (poolsV_iff.1 (cfgV_good hc0).1).2.2 x (by rw [numS_len]; omega)
    have h2 := h1.1
    unfold cvP at h2
    rw [numS_get (by omega)] at h2
    rw [hS.cp.data x]
    exact h2
  have hC := sps_0 (E := ((engL R).set x ((R.getD x default).1, .slice (some ⟨3, 0, none⟩) (R.getD x default).1.hs.length (R.getD x default).1.hs.length, .slice (some ⟨4, 0, none⟩) (R.getD x default).1.bk.length (R.getD x default).1.bk.length))) (p := (R.getD x default).1) (n := R.length) (x := x) (k := 0) (cn := K.cn) (re := K.re) (co := K.co) (rs := K.rs) (dl := K.dl) (rq := K.rq) (cs := K.cs) (br := K.br) (bs := K.bs) (bm := K.bm) (by_ := K.by_) (en := K.en) (li := K.li) (he := K.he) (ct := K.ct) (bo := K.bo) (q := K.q) (wh := wh) (wt := wt) hk (by rw [List.length_set, engL_len]; exact hx) (getD_set_eq' (by rw [engL_len]; exact hx)) (by rw [List.length_set, engL_len]) (by omega) hhp hbp hsm.l hsm.m
  have egr : (((((engL R).set x ((R.getD x default).1, .slice (some ⟨3, 0, none⟩) (R.getD x default).1.hs.length (R.getD x default).1.hs.length, .slice (some ⟨4, 0, none⟩) (R.getD x default).1.bk.length (R.getD x default).1.bk.length))).set x ({ (R.getD x default).1 with nm := ⟨#[]⟩ }, .slice (some ⟨3, 0, none⟩) (R.getD x default).1.hs.length (R.getD x default).1.hs.length, .slice (some ⟨4, 0, none⟩) (R.getD x default).1.bk.length (R.getD x default).1.bk.length)).flatMap realP) = ((engL R).set x ({ (R.getD x default).1 with nm := ⟨#[]⟩ }, .slice (some ⟨3, 0, none⟩) (R.getD x default).1.hs.length (R.getD x default).1.hs.length, .slice (some ⟨4, 0, none⟩) (R.getD x default).1.bk.length (R.getD x default).1.bk.length)).flatMap realP := by
    rw [List.set_set]
    all_goals first | rfl | exact flat_set2 (by simp only [List.length_append, List.length_singleton, List.length_set])
  refine sp_mid hS hx hhp hbp eh eb rh rb hsz hdf t1 t2 t3 t6 t7 h10 (K1 := K) (E := ((engL R).set x ({ (R.getD x default).1 with nm := ⟨#[]⟩ }, .slice (some ⟨3, 0, none⟩) (R.getD x default).1.hs.length (R.getD x default).1.hs.length, .slice (some ⟨4, 0, none⟩) (R.getD x default).1.bk.length (R.getD x default).1.bk.length))) (rid := 2) (hid := 3) (bid := 4) (n2 := R.length) (hs1 := (R.getD x default).1.hs) (bk1 := (R.getD x default).1.bk) hC rfl (by rw [List.length_set, engL_len]) rfl (by rw [← egr]; rfl) rfl rfl (by decide) (fun j hj => ?_) (small_numS fun j hj => .inl (hLs _ (getD_mem' hj))) (small_numS fun j hj => ?_) hzc hzc hc0 (no_cfg (no_pools (j := x) (by rw [List.length_set, engL_len]; exact hx) (by rw [getD_set_eq' (by rw [engL_len]; exact hx)]; exact no_name)))
  · rcases hsh1 hx j hj with h1 | h1
    · exact .inl h1
    · exact .inr ⟨{ (R.getD x default).1 with nm := ⟨#[]⟩ }, h1, rfl, rfl⟩
  · rcases hsh1 hx j hj with ⟨i, hi, _, h1⟩ | h1
    · rw [h1]; exact .inl (hsR i hi)
    · rw [h1]; exact .inr ⟨show (⟨#[]⟩ : ByteArray).size ≤ 9000000000000 from Nat.zero_le _, hsm.h, hsm.b, Nat.le_trans hsm.l (by decide)⟩
theorem sp_case1 {n1 : Nat} {w0 : World} {K : CfgS} {Lc : List PX} {oa : Option Addr} {cc : Nat} {R : List PX} {B3 B7 Bd cap : Nat} {w : World} {x Bh ch Bb cb : Nat} {a : Act} {wh wt : Int} (hS : SpSt n1 w0 K Lc oa cc R B3 B7 Bd cap w) (hx : x < R.length) (hhp : 0 < (R.getD x default).1.hs.length) (hbp : 0 < (R.getD x default).1.bk.length) (eh : (R.getD x default).2.1 = .slice (some ⟨Bh, 0, none⟩) (R.getD x default).1.hs.length ch) (eb : (R.getD x default).2.2 = .slice (some ⟨Bb, 0, none⟩) (R.getD x default).1.bk.length cb) (rh : RowAt w Bh 9 ch 1 ((R.getD x default).1.hs.flatMap hF)) (rb : RowAt w Bb 54 cb 2 ((R.getD x default).1.bk.flatMap bkV)) (hsz : a.tmps.size = 171) (hdf : a.defers = []) (t1 : a.tmps.getD 1 undef = .int .i64 wh) (t2 : a.tmps.getD 2 undef = .int .i64 wt) (t3 : a.tmps.getD 3 undef = .pointer (some ⟨B3, 0, none⟩)) (t6 : a.tmps.getD 6 undef = .bool false) (t7 : a.tmps.getD 7 undef = .pointer (some ⟨B7, 0, none⟩))
    (h10 : @CallOK ⟨rawOf (insS Lc oa cc x R)⟩ Try.prog 10 [.int .i64 wh, .int .i64 (R.length : Int)] [] 0 (.int .i64 (x : Int)) []) (hk : @CallOK ⟨rawOf (insS Lc oa cc x R)⟩ Try.prog 10 [.int .i64 wt, .int .i64 14] [] 0 (.int .i64 1) []) (hLs : ∀ t ∈ Lc, SmT t.1) (h9 : Lc.length ≤ 9000000000) (hzc : K.cn.size ≤ 9000000000000) (hc0 : cfgV K (poolsV (numS Lc 0)) = 0) : (Code.seq (Code.seq (regN Try.prog 5 6) (Code.cond (.tmp 34) (Code.seq (regN Try.prog 5 7) Code.ret) Code.skip)) (Code.seq (regN Try.prog 5 8) (Code.seq (regN Try.prog 5 9) (Code.seq (Code.seq (regN Try.prog 5 10) (Code.cond (.tmp 57) (Code.seq (regN Try.prog 5 11) Code.ret) Code.skip)) (Code.seq (Code.seq (regN Try.prog 5 12) (Code.block 0 (((regN Try.prog 5 13)).seq (Code.cond (.tmp 62) ((regN Try.prog 5 14)) (((regN Try.prog 5 15)).seq (Code.cond (.tmp 67) ((regN Try.prog 5 16)) (((regN Try.prog 5 17)).seq (Code.cond (.tmp 84) ((regN Try.prog 5 18)) (((regN Try.prog 5 19)).seq (Code.cond (.tmp 91) ((regN Try.prog 5 20)) (((regN Try.prog 5 21)).seq (Code.cond (.tmp 108) ((regN Try.prog 5 22)) (((regN Try.prog 5 23)).seq (Code.cond (.tmp 117) ((regN Try.prog 5 24)) (((regN Try.prog 5 25)).seq (Code.cond (.tmp 122) ((regN Try.prog 5 26)) (((regN Try.prog 5 27)).seq (Code.cond (.tmp 136) ((regN Try.prog 5 28)) (((regN Try.prog 5 29)).seq (Code.cond (.tmp 146) ((regN Try.prog 5 30)) (((regN Try.prog 5 31)).seq (Code.cond (.tmp 149) ((regN Try.prog 5 32)) (((regN Try.prog 5 33)).seq (Code.cond (.tmp 153) ((regN Try.prog 5 34)) (((regN Try.prog 5 35)).seq (Code.cond (.tmp 156) ((regN Try.prog 5 36)) (((regN Try.prog 5 37)).seq (Code.cond (.tmp 159) ((regN Try.prog 5 38)) ((regN Try.prog 5 39)))))))))))))))))))))))))))))) (Code.seq (regN Try.prog 5 40) Code.ret)))))).wp Try.prog (bodyPost Try.prog Try.f5 (fun e w1 => e = .returned (.bool true) ∧ Below w0.heap.size w0 w1)) a w := by
  letI : Inhabited RawG := ⟨rawOf (insS Lc oa cc x R)⟩
  have hlen := hS.cp.len
  have hsR : ∀ i, i < R.length → SmT (R.getD i default).1 := fun i hi => by rw [hS.cp.data i]; exact hLs _ (getD_mem' (by omega))
  have hsm := hsR x hx
  have hgx : chkP (R.getD x default).1 = 0 := by
    have h1 := (poolsV_iff.1 (cfgV_good hc0).1).2.2 x (by rw [numS_len]; omega)
    have h2 := h1.1
    unfold cvP at h2
    rw [numS_get (by omega)] at h2
    rw [hS.cp.data x]
    exact h2
  have hC := sps_1 (E := ((engL R).set x ((R.getD x default).1, .slice (some ⟨3, 0, none⟩) (R.getD x default).1.hs.length (R.getD x default).1.hs.length, .slice (some ⟨4, 0, none⟩) (R.getD x default).1.bk.length (R.getD x default).1.bk.length))) (p := (R.getD x default).1) (n := R.length) (x := x) (k := 0) (cn := K.cn) (re := K.re) (co := K.co) (rs := K.rs) (dl := K.dl) (rq := K.rq) (cs := K.cs) (br := K.br) (bs := K.bs) (bm := K.bm) (by_ := K.by_) (en := K.en) (li := K.li) (he := K.he) (ct := K.ct) (bo := K.bo) (q := K.q) (wh := wh) (wt := wt) hk (by rw [List.length_set, engL_len]; exact hx) (getD_set_eq' (by rw [engL_len]; exact hx)) (by rw [List.length_set, engL_len]) (by omega) hhp hbp hsm.l hsm.m
  have egr : (((((engL R).set x ((R.getD x default).1, .slice (some ⟨3, 0, none⟩) (R.getD x default).1.hs.length (R.getD x default).1.hs.length, .slice (some ⟨4, 0, none⟩) (R.getD x default).1.bk.length (R.getD x default).1.bk.length))).set x ({ (R.getD x default).1 with hs := ((R.getD x default).1.hs ++ [(R.getD x default).1.hs.getD 0 default]) }, .slice (some ⟨3589, 0, none⟩) ((R.getD x default).1.hs.length + 1) ((R.getD x default).1.hs.length + 1), .slice (some ⟨4, 0, none⟩) (R.getD x default).1.bk.length (R.getD x default).1.bk.length)).flatMap realP) = ((engL R).set x ({ (R.getD x default).1 with hs := ((R.getD x default).1.hs ++ [(R.getD x default).1.hs.getD 0 default]) }, .slice (some ⟨3589, 0, none⟩) ((R.getD x default).1.hs ++ [(R.getD x default).1.hs.getD 0 default]).length ((R.getD x default).1.hs ++ [(R.getD x default).1.hs.getD 0 default]).length, .slice (some ⟨4, 0, none⟩) (R.getD x default).1.bk.length (R.getD x default).1.bk.length)).flatMap realP := by
    rw [List.set_set]
    all_goals first | rfl | exact flat_set2 (by simp only [List.length_append, List.length_singleton, List.length_set])
  refine sp_mid hS hx hhp hbp eh eb rh rb hsz hdf t1 t2 t3 t6 t7 h10 (K1 := K) (E := ((engL R).set x ({ (R.getD x default).1 with hs := ((R.getD x default).1.hs ++ [(R.getD x default).1.hs.getD 0 default]) }, .slice (some ⟨3589, 0, none⟩) ((R.getD x default).1.hs ++ [(R.getD x default).1.hs.getD 0 default]).length ((R.getD x default).1.hs ++ [(R.getD x default).1.hs.getD 0 default]).length, .slice (some ⟨4, 0, none⟩) (R.getD x default).1.bk.length (R.getD x default).1.bk.length))) (rid := 2) (hid := 3589) (bid := 4) (n2 := R.length) (hs1 := ((R.getD x default).1.hs ++ [(R.getD x default).1.hs.getD 0 default])) (bk1 := (R.getD x default).1.bk) hC rfl (by rw [List.length_set, engL_len]) rfl (by rw [← egr]; rfl) rfl rfl (by decide) (fun j hj => ?_) (small_numS fun j hj => .inl (hLs _ (getD_mem' hj))) (small_numS fun j hj => ?_) hzc hzc hc0 (no_cfg (no_pools (j := x) (by rw [List.length_set, engL_len]; exact hx) (by rw [getD_set_eq' (by rw [engL_len]; exact hx)]; exact (no_host2 hhp))))
  · rcases hsh1 hx j hj with h1 | h1
    · exact .inl h1
    · exact .inr ⟨{ (R.getD x default).1 with hs := ((R.getD x default).1.hs ++ [(R.getD x default).1.hs.getD 0 default]) }, h1, rfl, rfl⟩
  · rcases hsh1 hx j hj with ⟨i, hi, _, h1⟩ | h1
    · rw [h1]; exact .inl (hsR i hi)
    · rw [h1]; exact .inr ⟨hsm.n, fun h hh => (List.mem_append.1 (show h ∈ ((R.getD x default).1.hs ++ [(R.getD x default).1.hs.getD 0 default]) from hh)).elim (fun h1 => hsm.h h h1) (fun h1 => (List.mem_singleton.1 h1) ▸ hsm.h _ (getD0_mem hhp)), hsm.b, show ((R.getD x default).1.hs ++ [(R.getD x default).1.hs.getD 0 default]).length ≤ 9000000000000 from (by rw [List.length_append, List.length_singleton]; have := hsm.l; omega)⟩
theorem sp_case2 {n1 : Nat} {w0 : World} {K : CfgS} {Lc : List PX} {oa : Option Addr} {cc : Nat} {R : List PX} {B3 B7 Bd cap : Nat} {w : World} {x Bh ch Bb cb : Nat} {a : Act} {wh wt : Int} (hS : SpSt n1 w0 K Lc oa cc R B3 B7 Bd cap w) (hx : x < R.length) (hhp : 0 < (R.getD x default).1.hs.length) (hbp : 0 < (R.getD x default).1.bk.length) (eh : (R.getD x default).2.1 = .slice (some ⟨Bh, 0, none⟩) (R.getD x default).1.hs.length ch) (eb : (R.getD x default).2.2 = .slice (some ⟨Bb, 0, none⟩) (R.getD x default).1.bk.length cb) (rh : RowAt w Bh 9 ch 1 ((R.getD x default).1.hs.flatMap hF)) (rb : RowAt w Bb 54 cb 2 ((R.getD x default).1.bk.flatMap bkV)) (hsz : a.tmps.size = 171) (hdf : a.defers = []) (t1 : a.tmps.getD 1 undef = .int .i64 wh) (t2 : a.tmps.getD 2 undef = .int .i64 wt) (t3 : a.tmps.getD 3 undef = .pointer (some ⟨B3, 0, none⟩)) (t6 : a.tmps.getD 6 undef = .bool false) (t7 : a.tmps.getD 7 undef = .pointer (some ⟨B7, 0, none⟩))
    (h10 : @CallOK ⟨rawOf (insS Lc oa cc x R)⟩ Try.prog 10 [.int .i64 wh, .int .i64 (R.length : Int)] [] 0 (.int .i64 (x : Int)) []) (hk : @CallOK ⟨rawOf (insS Lc oa cc x R)⟩ Try.prog 10 [.int .i64 wt, .int .i64 14] [] 0 (.int .i64 2) []) (hLs : ∀ t ∈ Lc, SmT t.1) (h9 : Lc.length ≤ 9000000000) (hzc : K.cn.size ≤ 9000000000000) (hc0 : cfgV K (poolsV (numS Lc 0)) = 0) : (Code.seq (Code.seq (regN Try.prog 5 6) (Code.cond (.tmp 34) (Code.seq (regN Try.prog 5 7) Code.ret) Code.skip)) (Code.seq (regN Try.prog 5 8) (Code.seq (regN Try.prog 5 9) (Code.seq (Code.seq (regN Try.prog 5 10) (Code.cond (.tmp 57) (Code.seq (regN Try.prog 5 11) Code.ret) Code.skip)) (Code.seq (Code.seq (regN Try.prog 5 12) (Code.block 0 (((regN Try.prog 5 13)).seq (Code.cond (.tmp 62) ((regN Try.prog 5 14)) (((regN Try.prog 5 15)).seq (Code.cond (.tmp 67) ((regN Try.prog 5 16)) (((regN Try.prog 5 17)).seq (Code.cond (.tmp 84) ((regN Try.prog 5 18)) (((regN Try.prog 5 19)).seq (Code.cond (.tmp 91) ((regN Try.prog 5 20)) (((regN Try.prog 5 21)).seq (Code.cond (.tmp 108) ((regN Try.prog 5 22)) (((regN Try.prog 5 23)).seq (Code.cond (.tmp 117) ((regN Try.prog 5 24)) (((regN Try.prog 5 25)).seq (Code.cond (.tmp 122) ((regN Try.prog 5 26)) (((regN Try.prog 5 27)).seq (Code.cond (.tmp 136) ((regN Try.prog 5 28)) (((regN Try.prog 5 29)).seq (Code.cond (.tmp 146) ((regN Try.prog 5 30)) (((regN Try.prog 5 31)).seq (Code.cond (.tmp 149) ((regN Try.prog 5 32)) (((regN Try.prog 5 33)).seq (Code.cond (.tmp 153) ((regN Try.prog 5 34)) (((regN Try.prog 5 35)).seq (Code.cond (.tmp 156) ((regN Try.prog 5 36)) (((regN Try.prog 5 37)).seq (Code.cond (.tmp 159) ((regN Try.prog 5 38)) ((regN Try.prog 5 39)))))))))))))))))))))))))))))) (Code.seq (regN Try.prog 5 40) Code.ret)))))).wp Try.prog (bodyPost Try.prog Try.f5 (fun e w1 => e = .returned (.bool true) ∧ Below w0.heap.size w0 w1)) a w := by
  letI : Inhabited RawG := ⟨rawOf (insS Lc oa cc x R)⟩
  have hlen := hS.cp.len
  have hsR : ∀ i, i < R.length → SmT (R.getD i default).1 := fun i hi => by rw [hS.cp.data i]; exact hLs _ (getD_mem' (by omega))
  have hsm := hsR x hx
  have hgx : chkP (R.getD x default).1 = 0 := by
    have h1 := (poolsV_iff.1 (cfgV_good hc0).1).2.2 x (by rw [numS_len]; omega)
    have h2 := h1.1
    unfold cvP at h2
    rw [numS_get (by omega)] at h2
    rw [hS.cp.data x]
    exact h2
  have hC := sps_2 (E := ((engL R).set x ((R.getD x default).1, .slice (some ⟨3, 0, none⟩) (R.getD x default).1.hs.length (R.getD x default).1.hs.length, .slice (some ⟨4, 0, none⟩) (R.getD x default).1.bk.length (R.getD x default).1.bk.length))) (p := (R.getD x default).1) (n := R.length) (x := x) (k := 0) (cn := K.cn) (re := K.re) (co := K.co) (rs := K.rs) (dl := K.dl) (rq := K.rq) (cs := K.cs) (br := K.br) (bs := K.bs) (bm := K.bm) (by_ := K.by_) (en := K.en) (li := K.li) (he := K.he) (ct := K.ct) (bo := K.bo) (q := K.q) (wh := wh) (wt := wt) hk (by rw [List.length_set, engL_len]; exact hx) (getD_set_eq' (by rw [engL_len]; exact hx)) (by rw [List.length_set, engL_len]) (by omega) hhp hbp hsm.l hsm.m
  have egr : (((engL R).set x ((R.getD x default).1, .slice (some ⟨3, 0, none⟩) (R.getD x default).1.hs.length (R.getD x default).1.hs.length, .slice (some ⟨4, 0, none⟩) (R.getD x default).1.bk.length (R.getD x default).1.bk.length))).flatMap realP = ((engL R).set x ({ (R.getD x default).1 with hs := ((R.getD x default).1.hs.set 0 ⟨#[65]⟩) }, .slice (some ⟨3, 0, none⟩) ((R.getD x default).1.hs.set 0 ⟨#[65]⟩).length ((R.getD x default).1.hs.set 0 ⟨#[65]⟩).length, .slice (some ⟨4, 0, none⟩) (R.getD x default).1.bk.length (R.getD x default).1.bk.length)).flatMap realP := flat_set2 (by simp only [List.length_set])
  refine sp_mid hS hx hhp hbp eh eb rh rb hsz hdf t1 t2 t3 t6 t7 h10 (K1 := K) (E := ((engL R).set x ({ (R.getD x default).1 with hs := ((R.getD x default).1.hs.set 0 ⟨#[65]⟩) }, .slice (some ⟨3, 0, none⟩) ((R.getD x default).1.hs.set 0 ⟨#[65]⟩).length ((R.getD x default).1.hs.set 0 ⟨#[65]⟩).length, .slice (some ⟨4, 0, none⟩) (R.getD x default).1.bk.length (R.getD x default).1.bk.length))) (rid := 2) (hid := 3) (bid := 4) (n2 := R.length) (hs1 := ((R.getD x default).1.hs.set 0 ⟨#[65]⟩)) (bk1 := (R.getD x default).1.bk) hC rfl (by rw [List.length_set, engL_len]) rfl (by rw [← egr]; rfl) rfl rfl (by decide) (fun j hj => ?_) (small_numS fun j hj => .inl (hLs _ (getD_mem' hj))) (small_numS fun j hj => ?_) hzc hzc hc0 (no_cfg (no_pools (j := x) (by rw [List.length_set, engL_len]; exact hx) (by rw [getD_set_eq' (by rw [engL_len]; exact hx)]; exact (no_hostA hhp))))
  · rcases hsh1 hx j hj with h1 | h1
    · exact .inl h1
    · exact .inr ⟨{ (R.getD x default).1 with hs := ((R.getD x default).1.hs.set 0 ⟨#[65]⟩) }, h1, rfl, rfl⟩
  · rcases hsh1 hx j hj with ⟨i, hi, _, h1⟩ | h1
    · rw [h1]; exact .inl (hsR i hi)
    · rw [h1]; exact .inr ⟨hsm.n, fun h hh => (mem_set0 (show h ∈ ((R.getD x default).1.hs.set 0 ⟨#[65]⟩) from hh)).elim (fun h1 => hsm.h h h1) (fun h1 => h1 ▸ Nat.le_trans (show (⟨#[65]⟩ : ByteArray).size ≤ 1 from Nat.le_refl 1) (by decide)), hsm.b, show ((R.getD x default).1.hs.set 0 ⟨#[65]⟩).length ≤ 9000000000000 from (by rw [List.length_set]; exact Nat.le_trans hsm.l (by decide))⟩
theorem sp_case3 {n1 : Nat} {w0 : World} {K : CfgS} {Lc : List PX} {oa : Option Addr} {cc : Nat} {R : List PX} {B3 B7 Bd cap : Nat} {w : World} {x Bh ch Bb cb : Nat} {a : Act} {wh wt : Int} (hS : SpSt n1 w0 K Lc oa cc R B3 B7 Bd cap w) (hx : x < R.length) (hhp : 0 < (R.getD x default).1.hs.length) (hbp : 0 < (R.getD x default).1.bk.length) (eh : (R.getD x default).2.1 = .slice (some ⟨Bh, 0, none⟩) (R.getD x default).1.hs.length ch) (eb : (R.getD x default).2.2 = .slice (some ⟨Bb, 0, none⟩) (R.getD x default).1.bk.length cb) (rh : RowAt w Bh 9 ch 1 ((R.getD x default).1.hs.flatMap hF)) (rb : RowAt w Bb 54 cb 2 ((R.getD x default).1.bk.flatMap bkV)) (hsz : a.tmps.size = 171) (hdf : a.defers = []) (t1 : a.tmps.getD 1 undef = .int .i64 wh) (t2 : a.tmps.getD 2 undef = .int .i64 wt) (t3 : a.tmps.getD 3 undef = .pointer (some ⟨B3, 0, none⟩)) (t6 : a.tmps.getD 6 undef = .bool false) (t7 : a.tmps.getD 7 undef = .pointer (some ⟨B7, 0, none⟩))
    (h10 : @CallOK ⟨rawOf (insS Lc oa cc x R)⟩ Try.prog 10 [.int .i64 wh, .int .i64 (R.length : Int)] [] 0 (.int .i64 (x : Int)) []) (hk : @CallOK ⟨rawOf (insS Lc oa cc x R)⟩ Try.prog 10 [.int .i64 wt, .int .i64 14] [] 0 (.int .i64 3) []) (hLs : ∀ t ∈ Lc, SmT t.1) (h9 : Lc.length ≤ 9000000000) (hzc : K.cn.size ≤ 9000000000000) (hc0 : cfgV K (poolsV (numS Lc 0)) = 0) : (Code.seq (Code.seq (regN Try.prog 5 6) (Code.cond (.tmp 34) (Code.seq (regN Try.prog 5 7) Code.ret) Code.skip)) (Code.seq (regN Try.prog 5 8) (Code.seq (regN Try.prog 5 9) (Code.seq (Code.seq (regN Try.prog 5 10) (Code.cond (.tmp 57) (Code.seq (regN Try.prog 5 11) Code.ret) Code.skip)) (Code.seq (Code.seq (regN Try.prog 5 12) (Code.block 0 (((regN Try.prog 5 13)).seq (Code.cond (.tmp 62) ((regN Try.prog 5 14)) (((regN Try.prog 5 15)).seq (Code.cond (.tmp 67) ((regN Try.prog 5 16)) (((regN Try.prog 5 17)).seq (Code.cond (.tmp 84) ((regN Try.prog 5 18)) (((regN Try.prog 5 19)).seq (Code.cond (.tmp 91) ((regN Try.prog 5 20)) (((regN Try.prog 5 21)).seq (Code.cond (.tmp 108) ((regN Try.prog 5 22)) (((regN Try.prog 5 23)).seq (Code.cond (.tmp 117) ((regN Try.prog 5 24)) (((regN Try.prog 5 25)).seq (Code.cond (.tmp 122) ((regN Try.prog 5 26)) (((regN Try.prog 5 27)).seq (Code.cond (.tmp 136) ((regN Try.prog 5 28)) (((regN Try.prog 5 29)).seq (Code.cond (.tmp 146) ((regN Try.prog 5 30)) (((regN Try.prog 5 31)).seq (Code.cond (.tmp 149) ((regN Try.prog 5 32)) (((regN Try.prog 5 33)).seq (Code.cond (.tmp 153) ((regN Try.prog 5 34)) (((regN Try.prog 5 35)).seq (Code.cond (.tmp 156) ((regN Try.prog 5 36)) (((regN Try.prog 5 37)).seq (Code.cond (.tmp 159) ((regN Try.prog 5 38)) ((regN Try.prog 5 39)))))))))))))))))))))))))))))) (Code.seq (regN Try.prog 5 40) Code.ret)))))).wp Try.prog (bodyPost Try.prog Try.f5 (fun e w1 => e = .returned (.bool true) ∧ Below w0.heap.size w0 w1)) a w := by
  letI : Inhabited RawG := ⟨rawOf (insS Lc oa cc x R)⟩
  have hlen := hS.cp.len
  have hsR : ∀ i, i < R.length → SmT (R.getD i default).1 := fun i hi => by rw [hS.cp.data i]; exact hLs _ (getD_mem' (by omega))
  have hsm := hsR x hx
  have hgx : chkP (R.getD x default).1 = 0 := by
    have h1 := (poolsV_iff.1 (cfgV_good hc0).1).2.2 x (by rw [numS_len]; omega)
    have h2 := h1.1
    unfold cvP at h2
    rw [numS_get (by omega)] at h2
    rw [hS.cp.data x]
    exact h2
  have hC := sps_3 (E := ((engL R).set x ((R.getD x default).1, .slice (some ⟨3, 0, none⟩) (R.getD x default).1.hs.length (R.getD x default).1.hs.length, .slice (some ⟨4, 0, none⟩) (R.getD x default).1.bk.length (R.getD x default).1.bk.length))) (p := (R.getD x default).1) (n := R.length) (x := x) (k := 0) (cn := K.cn) (re := K.re) (co := K.co) (rs := K.rs) (dl := K.dl) (rq := K.rq) (cs := K.cs) (br := K.br) (bs := K.bs) (bm := K.bm) (by_ := K.by_) (en := K.en) (li := K.li) (he := K.he) (ct := K.ct) (bo := K.bo) (q := K.q) (wh := wh) (wt := wt) hk (by rw [List.length_set, engL_len]; exact hx) (getD_set_eq' (by rw [engL_len]; exact hx)) (by rw [List.length_set, engL_len]) (by omega) hhp hbp hsm.l hsm.m
  have egr : (((((engL R).set x ((R.getD x default).1, .slice (some ⟨3, 0, none⟩) (R.getD x default).1.hs.length (R.getD x default).1.hs.length, .slice (some ⟨4, 0, none⟩) (R.getD x default).1.bk.length (R.getD x default).1.bk.length))).set x ({ (R.getD x default).1 with bk := ((R.getD x default).1.bk ++ [(R.getD x default).1.bk.getD 0 default]) }, .slice (some ⟨3, 0, none⟩) (R.getD x default).1.hs.length (R.getD x default).1.hs.length, .slice (some ⟨3845, 0, none⟩) ((R.getD x default).1.bk.length + 1) ((R.getD x default).1.bk.length + 1))).flatMap realP) = ((engL R).set x ({ (R.getD x default).1 with bk := ((R.getD x default).1.bk ++ [(R.getD x default).1.bk.getD 0 default]) }, .slice (some ⟨3, 0, none⟩) (R.getD x default).1.hs.length (R.getD x default).1.hs.length, .slice (some ⟨3845, 0, none⟩) ((R.getD x default).1.bk ++ [(R.getD x default).1.bk.getD 0 default]).length ((R.getD x default).1.bk ++ [(R.getD x default).1.bk.getD 0 default]).length)).flatMap realP := by
    rw [List.set_set]
    all_goals first | rfl | exact flat_set2 (by simp only [List.length_append, List.length_singleton, List.length_set])
  refine sp_mid hS hx hhp hbp eh eb rh rb hsz hdf t1 t2 t3 t6 t7 h10 (K1 := K) (E := ((engL R).set x ({ (R.getD x default).1 with bk := ((R.getD x default).1.bk ++ [(R.getD x default).1.bk.getD 0 default]) }, .slice (some ⟨3, 0, none⟩) (R.getD x default).1.hs.length (R.getD x default).1.hs.length, .slice (some ⟨3845, 0, none⟩) ((R.getD x default).1.bk ++ [(R.getD x default).1.bk.getD 0 default]).length ((R.getD x default).1.bk ++ [(R.getD x default).1.bk.getD 0 default]).length))) (rid := 2) (hid := 3) (bid := 3845) (n2 := R.length) (hs1 := (R.getD x default).1.hs) (bk1 := ((R.getD x default).1.bk ++ [(R.getD x default).1.bk.getD 0 default])) hC rfl (by rw [List.length_set, engL_len]) rfl (by rw [← egr]; rfl) rfl rfl (by decide) (fun j hj => ?_) (small_numS fun j hj => .inl (hLs _ (getD_mem' hj))) (small_numS fun j hj => ?_) hzc hzc hc0 (no_cfg (no_pools (j := x) (by rw [List.length_set, engL_len]; exact hx) (by rw [getD_set_eq' (by rw [engL_len]; exact hx)]; exact (no_back2 hbp))))
  · rcases hsh1 hx j hj with h1 | h1
    · exact .inl h1
    · exact .inr ⟨{ (R.getD x default).1 with bk := ((R.getD x default).1.bk ++ [(R.getD x default).1.bk.getD 0 default]) }, h1, rfl, rfl⟩
  · rcases hsh1 hx j hj with ⟨i, hi, _, h1⟩ | h1
    · rw [h1]; exact .inl (hsR i hi)
    · rw [h1]; exact .inr ⟨hsm.n, hsm.h, fun h hh => (List.mem_append.1 (show h ∈ ((R.getD x default).1.bk ++ [(R.getD x default).1.bk.getD 0 default]) from hh)).elim (fun h1 => hsm.b h h1) (fun h1 => (List.mem_singleton.1 h1) ▸ hsm.b _ (getD0_mem hbp)), Nat.le_trans hsm.l (by decide)⟩
theorem sp_case4 {n1 : Nat} {w0 : World} {K : CfgS} {Lc : List PX} {oa : Option Addr} {cc : Nat} {R : List PX} {B3 B7 Bd cap : Nat} {w : World} {x Bh ch Bb cb : Nat} {a : Act} {wh wt : Int} (hS : SpSt n1 w0 K Lc oa cc R B3 B7 Bd cap w) (hx : x < R.length) (hhp : 0 < (R.getD x default).1.hs.length) (hbp : 0 < (R.getD x default).1.bk.length) (eh : (R.getD x default).2.1 = .slice (some ⟨Bh, 0, none⟩) (R.getD x default).1.hs.length ch) (eb : (R.getD x default).2.2 = .slice (some ⟨Bb, 0, none⟩) (R.getD x default).1.bk.length cb) (rh : RowAt w Bh 9 ch 1 ((R.getD x default).1.hs.flatMap hF)) (rb : RowAt w Bb 54 cb 2 ((R.getD x default).1.bk.flatMap bkV)) (hsz : a.tmps.size = 171) (hdf : a.defers = []) (t1 : a.tmps.getD 1 undef = .int .i64 wh) (t2 : a.tmps.getD 2 undef = .int .i64 wt) (t3 : a.tmps.getD 3 undef = .pointer (some ⟨B3, 0, none⟩)) (t6 : a.tmps.getD 6 undef = .bool false) (t7 : a.tmps.getD 7 undef = .pointer (some ⟨B7, 0, none⟩))
    (h10 : @CallOK ⟨rawOf (insS Lc oa cc x R)⟩ Try.prog 10 [.int .i64 wh, .int .i64 (R.length : Int)] [] 0 (.int .i64 (x : Int)) []) (hk : @CallOK ⟨rawOf (insS Lc oa cc x R)⟩ Try.prog 10 [.int .i64 wt, .int .i64 14] [] 0 (.int .i64 4) []) (hLs : ∀ t ∈ Lc, SmT t.1) (h9 : Lc.length ≤ 9000000000) (hzc : K.cn.size ≤ 9000000000000) (hc0 : cfgV K (poolsV (numS Lc 0)) = 0) : (Code.seq (Code.seq (regN Try.prog 5 6) (Code.cond (.tmp 34) (Code.seq (regN Try.prog 5 7) Code.ret) Code.skip)) (Code.seq (regN Try.prog 5 8) (Code.seq (regN Try.prog 5 9) (Code.seq (Code.seq (regN Try.prog 5 10) (Code.cond (.tmp 57) (Code.seq (regN Try.prog 5 11) Code.ret) Code.skip)) (Code.seq (Code.seq (regN Try.prog 5 12) (Code.block 0 (((regN Try.prog 5 13)).seq (Code.cond (.tmp 62) ((regN Try.prog 5 14)) (((regN Try.prog 5 15)).seq (Code.cond (.tmp 67) ((regN Try.prog 5 16)) (((regN Try.prog 5 17)).seq (Code.cond (.tmp 84) ((regN Try.prog 5 18)) (((regN Try.prog 5 19)).seq (Code.cond (.tmp 91) ((regN Try.prog 5 20)) (((regN Try.prog 5 21)).seq (Code.cond (.tmp 108) ((regN Try.prog 5 22)) (((regN Try.prog 5 23)).seq (Code.cond (.tmp 117) ((regN Try.prog 5 24)) (((regN Try.prog 5 25)).seq (Code.cond (.tmp 122) ((regN Try.prog 5 26)) (((regN Try.prog 5 27)).seq (Code.cond (.tmp 136) ((regN Try.prog 5 28)) (((regN Try.prog 5 29)).seq (Code.cond (.tmp 146) ((regN Try.prog 5 30)) (((regN Try.prog 5 31)).seq (Code.cond (.tmp 149) ((regN Try.prog 5 32)) (((regN Try.prog 5 33)).seq (Code.cond (.tmp 153) ((regN Try.prog 5 34)) (((regN Try.prog 5 35)).seq (Code.cond (.tmp 156) ((regN Try.prog 5 36)) (((regN Try.prog 5 37)).seq (Code.cond (.tmp 159) ((regN Try.prog 5 38)) ((regN Try.prog 5 39)))))))))))))))))))))))))))))) (Code.seq (regN Try.prog 5 40) Code.ret)))))).wp Try.prog (bodyPost Try.prog Try.f5 (fun e w1 => e = .returned (.bool true) ∧ Below w0.heap.size w0 w1)) a w := by
  letI : Inhabited RawG := ⟨rawOf (insS Lc oa cc x R)⟩
  have hlen := hS.cp.len
  have hsR : ∀ i, i < R.length → SmT (R.getD i default).1 := fun i hi => by rw [hS.cp.data i]; exact hLs _ (getD_mem' (by omega))
  have hsm := hsR x hx
  have hgx : chkP (R.getD x default).1 = 0 := by
    have h1 := (poolsV_iff.1 (cfgV_good hc0).1).2.2 x (by rw [numS_len]; omega)
    have h2 := h1.1
    unfold cvP at h2
    rw [numS_get (by omega)] at h2
    rw [hS.cp.data x]
    exact h2
  have hC := sps_4 (E := ((engL R).set x ((R.getD x default).1, .slice (some ⟨3, 0, none⟩) (R.getD x default).1.hs.length (R.getD x default).1.hs.length, .slice (some ⟨4, 0, none⟩) (R.getD x default).1.bk.length (R.getD x default).1.bk.length))) (p := (R.getD x default).1) (n := R.length) (x := x) (k := 0) (cn := K.cn) (re := K.re) (co := K.co) (rs := K.rs) (dl := K.dl) (rq := K.rq) (cs := K.cs) (br := K.br) (bs := K.bs) (bm := K.bm) (by_ := K.by_) (en := K.en) (li := K.li) (he := K.he) (ct := K.ct) (bo := K.bo) (q := K.q) (wh := wh) (wt := wt) hk (by rw [List.length_set, engL_len]; exact hx) (getD_set_eq' (by rw [engL_len]; exact hx)) (by rw [List.length_set, engL_len]) (by omega) hhp hbp hsm.l hsm.m
  have egr : (((engL R).set x ((R.getD x default).1, .slice (some ⟨3, 0, none⟩) (R.getD x default).1.hs.length (R.getD x default).1.hs.length, .slice (some ⟨4, 0, none⟩) (R.getD x default).1.bk.length (R.getD x default).1.bk.length))).flatMap realP = ((engL R).set x ({ (R.getD x default).1 with bk := ((R.getD x default).1.bk.set 0 (((R.getD x default).1.bk.getD 0 default).1, 9223372036854775808)) }, .slice (some ⟨3, 0, none⟩) (R.getD x default).1.hs.length (R.getD x default).1.hs.length, .slice (some ⟨4, 0, none⟩) ((R.getD x default).1.bk.set 0 (((R.getD x default).1.bk.getD 0 default).1, 9223372036854775808)).length ((R.getD x default).1.bk.set 0 (((R.getD x default).1.bk.getD 0 default).1, 9223372036854775808)).length)).flatMap realP := flat_set2 (by simp only [List.length_set])
  refine sp_mid hS hx hhp hbp eh eb rh rb hsz hdf t1 t2 t3 t6 t7 h10 (K1 := K) (E := ((engL R).set x ({ (R.getD x default).1 with bk := ((R.getD x default).1.bk.set 0 (((R.getD x default).1.bk.getD 0 default).1, 9223372036854775808)) }, .slice (some ⟨3, 0, none⟩) (R.getD x default).1.hs.length (R.getD x default).1.hs.length, .slice (some ⟨4, 0, none⟩) ((R.getD x default).1.bk.set 0 (((R.getD x default).1.bk.getD 0 default).1, 9223372036854775808)).length ((R.getD x default).1.bk.set 0 (((R.getD x default).1.bk.getD 0 default).1, 9223372036854775808)).length))) (rid := 2) (hid := 3) (bid := 4) (n2 := R.length) (hs1 := (R.getD x default).1.hs) (bk1 := ((R.getD x default).1.bk.set 0 (((R.getD x default).1.bk.getD 0 default).1, 9223372036854775808))) hC rfl (by rw [List.length_set, engL_len]) rfl (by rw [← egr]; rfl) rfl rfl (by decide) (fun j hj => ?_) (small_numS fun j hj => .inl (hLs _ (getD_mem' hj))) (small_numS fun j hj => ?_) hzc hzc hc0 (no_cfg (no_pools (j := x) (by rw [List.length_set, engL_len]; exact hx) (by rw [getD_set_eq' (by rw [engL_len]; exact hx)]; exact (no_weight hbp))))
  · rcases hsh1 hx j hj with h1 | h1
    · exact .inl h1
    · exact .inr ⟨{ (R.getD x default).1 with bk := ((R.getD x default).1.bk.set 0 (((R.getD x default).1.bk.getD 0 default).1, 9223372036854775808)) }, h1, rfl, rfl⟩
  · rcases hsh1 hx j hj with ⟨i, hi, _, h1⟩ | h1
    · rw [h1]; exact .inl (hsR i hi)
    · rw [h1]; exact .inr ⟨hsm.n, hsm.h, fun h hh => (mem_set0 (show h ∈ ((R.getD x default).1.bk.set 0 (((R.getD x default).1.bk.getD 0 default).1, 9223372036854775808)) from hh)).elim (fun h1 => hsm.b h h1) (fun h1 => h1 ▸ hsm.b ((R.getD x default).1.bk.getD 0 default) (getD0_mem hbp)), Nat.le_trans hsm.l (by decide)⟩
theorem sp_case5 {n1 : Nat} {w0 : World} {K : CfgS} {Lc : List PX} {oa : Option Addr} {cc : Nat} {R : List PX} {B3 B7 Bd cap : Nat} {w : World} {x Bh ch Bb cb : Nat} {a : Act} {wh wt : Int} (hS : SpSt n1 w0 K Lc oa cc R B3 B7 Bd cap w) (hx : x < R.length) (hhp : 0 < (R.getD x default).1.hs.length) (hbp : 0 < (R.getD x default).1.bk.length) (eh : (R.getD x default).2.1 = .slice (some ⟨Bh, 0, none⟩) (R.getD x default).1.hs.length ch) (eb : (R.getD x default).2.2 = .slice (some ⟨Bb, 0, none⟩) (R.getD x default).1.bk.length cb) (rh : RowAt w Bh 9 ch 1 ((R.getD x default).1.hs.flatMap hF)) (rb : RowAt w Bb 54 cb 2 ((R.getD x default).1.bk.flatMap bkV)) (hsz : a.tmps.size = 171) (hdf : a.defers = []) (t1 : a.tmps.getD 1 undef = .int .i64 wh) (t2 : a.tmps.getD 2 undef = .int .i64 wt) (t3 : a.tmps.getD 3 undef = .pointer (some ⟨B3, 0, none⟩)) (t6 : a.tmps.getD 6 undef = .bool false) (t7 : a.tmps.getD 7 undef = .pointer (some ⟨B7, 0, none⟩))
    (h10 : @CallOK ⟨rawOf (insS Lc oa cc x R)⟩ Try.prog 10 [.int .i64 wh, .int .i64 (R.length : Int)] [] 0 (.int .i64 (x : Int)) []) (hk : @CallOK ⟨rawOf (insS Lc oa cc x R)⟩ Try.prog 10 [.int .i64 wt, .int .i64 14] [] 0 (.int .i64 5) []) (hLs : ∀ t ∈ Lc, SmT t.1) (h9 : Lc.length ≤ 9000000000) (hzc : K.cn.size ≤ 9000000000000) (hc0 : cfgV K (poolsV (numS Lc 0)) = 0) : (Code.seq (Code.seq (regN Try.prog 5 6) (Code.cond (.tmp 34) (Code.seq (regN Try.prog 5 7) Code.ret) Code.skip)) (Code.seq (regN Try.prog 5 8) (Code.seq (regN Try.prog 5 9) (Code.seq (Code.seq (regN Try.prog 5 10) (Code.cond (.tmp 57) (Code.seq (regN Try.prog 5 11) Code.ret) Code.skip)) (Code.seq (Code.seq (regN Try.prog 5 12) (Code.block 0 (((regN Try.prog 5 13)).seq (Code.cond (.tmp 62) ((regN Try.prog 5 14)) (((regN Try.prog 5 15)).seq (Code.cond (.tmp 67) ((regN Try.prog 5 16)) (((regN Try.prog 5 17)).seq (Code.cond (.tmp 84) ((regN Try.prog 5 18)) (((regN Try.prog 5 19)).seq (Code.cond (.tmp 91) ((regN Try.prog 5 20)) (((regN Try.prog 5 21)).seq (Code.cond (.tmp 108) ((regN Try.prog 5 22)) (((regN Try.prog 5 23)).seq (Code.cond (.tmp 117) ((regN Try.prog 5 24)) (((regN Try.prog 5 25)).seq (Code.cond (.tmp 122) ((regN Try.prog 5 26)) (((regN Try.prog 5 27)).seq (Code.cond (.tmp 136) ((regN Try.prog 5 28)) (((regN Try.prog 5 29)).seq (Code.cond (.tmp 146) ((regN Try.prog 5 30)) (((regN Try.prog 5 31)).seq (Code.cond (.tmp 149) ((regN Try.prog 5 32)) (((regN Try.prog 5 33)).seq (Code.cond (.tmp 153) ((regN Try.prog 5 34)) (((regN Try.prog 5 35)).seq (Code.cond (.tmp 156) ((regN Try.prog 5 36)) (((regN Try.prog 5 37)).seq (Code.cond (.tmp 159) ((regN Try.prog 5 38)) ((regN Try.prog 5 39)))))))))))))))))))))))))))))) (Code.seq (regN Try.prog 5 40) Code.ret)))))).wp Try.prog (bodyPost Try.prog Try.f5 (fun e w1 => e = .returned (.bool true) ∧ Below w0.heap.size w0 w1)) a w := by
  letI : Inhabited RawG := ⟨rawOf (insS Lc oa cc x R)⟩
  have hlen := hS.cp.len
  have hsR : ∀ i, i < R.length → SmT (R.getD i default).1 := fun i hi => by rw [hS.cp.data i]; exact hLs _ (getD_mem' (by omega))
  have hsm := hsR x hx
  have hgx : chkP (R.getD x default).1 = 0 := by
    have h1 := (poolsV_iff.1 (cfgV_good hc0).1).2.2 x (by rw [numS_len]; omega)
    have h2 := h1.1
    unfold cvP at h2
    rw [numS_get (by omega)] at h2
    rw [hS.cp.data x]
    exact h2
  have hC := sps_5 (E := ((engL R).set x ((R.getD x default).1, .slice (some ⟨3, 0, none⟩) (R.getD x default).1.hs.length (R.getD x default).1.hs.length, .slice (some ⟨4, 0, none⟩) (R.getD x default).1.bk.length (R.getD x default).1.bk.length))) (p := (R.getD x default).1) (n := R.length) (x := x) (k := 0) (cn := K.cn) (re := K.re) (co := K.co) (rs := K.rs) (dl := K.dl) (rq := K.rq) (cs := K.cs) (br := K.br) (bs := K.bs) (bm := K.bm) (by_ := K.by_) (en := K.en) (li := K.li) (he := K.he) (ct := K.ct) (bo := K.bo) (q := K.q) (wh := wh) (wt := wt) hk (by rw [List.length_set, engL_len]; exact hx) (getD_set_eq' (by rw [engL_len]; exact hx)) (by rw [List.length_set, engL_len]) (by omega) hhp hbp hsm.l hsm.m
  have egr : (((((engL R).set x ((R.getD x default).1, .slice (some ⟨3, 0, none⟩) (R.getD x default).1.hs.length (R.getD x default).1.hs.length, .slice (some ⟨4, 0, none⟩) (R.getD x default).1.bk.length (R.getD x default).1.bk.length))).set x ({ (R.getD x default).1 with po := 0 }, .slice (some ⟨3, 0, none⟩) (R.getD x default).1.hs.length (R.getD x default).1.hs.length, .slice (some ⟨4, 0, none⟩) (R.getD x default).1.bk.length (R.getD x default).1.bk.length)).flatMap realP) = ((engL R).set x ({ (R.getD x default).1 with po := 0 }, .slice (some ⟨3, 0, none⟩) (R.getD x default).1.hs.length (R.getD x default).1.hs.length, .slice (some ⟨4, 0, none⟩) (R.getD x default).1.bk.length (R.getD x default).1.bk.length)).flatMap realP := by
    rw [List.set_set]
    all_goals first | rfl | exact flat_set2 (by simp only [List.length_append, List.length_singleton, List.length_set])
  refine sp_mid hS hx hhp hbp eh eb rh rb hsz hdf t1 t2 t3 t6 t7 h10 (K1 := K) (E := ((engL R).set x ({ (R.getD x default).1 with po := 0 }, .slice (some ⟨3, 0, none⟩) (R.getD x default).1.hs.length (R.getD x default).1.hs.length, .slice (some ⟨4, 0, none⟩) (R.getD x default).1.bk.length (R.getD x default).1.bk.length))) (rid := 2) (hid := 3) (bid := 4) (n2 := R.length) (hs1 := (R.getD x default).1.hs) (bk1 := (R.getD x default).1.bk) hC rfl (by rw [List.length_set, engL_len]) rfl (by rw [← egr]; rfl) rfl rfl (by decide) (fun j hj => ?_) (small_numS fun j hj => .inl (hLs _ (getD_mem' hj))) (small_numS fun j hj => ?_) hzc hzc hc0 (no_cfg (no_pools (j := x) (by rw [List.length_set, engL_len]; exact hx) (by rw [getD_set_eq' (by rw [engL_len]; exact hx)]; exact no_policy)))
  · rcases hsh1 hx j hj with h1 | h1
    · exact .inl h1
    · exact .inr ⟨{ (R.getD x default).1 with po := 0 }, h1, rfl, rfl⟩
  · rcases hsh1 hx j hj with ⟨i, hi, _, h1⟩ | h1
    · rw [h1]; exact .inl (hsR i hi)
    · rw [h1]; exact .inr ⟨hsm.n, hsm.h, hsm.b, Nat.le_trans hsm.l (by decide)⟩
theorem sp_case6 {n1 : Nat} {w0 : World} {K : CfgS} {Lc : List PX} {oa : Option Addr} {cc : Nat} {R : List PX} {B3 B7 Bd cap : Nat} {w : World} {x Bh ch Bb cb : Nat} {a : Act} {wh wt : Int} (hS : SpSt n1 w0 K Lc oa cc R B3 B7 Bd cap w) (hx : x < R.length) (hhp : 0 < (R.getD x default).1.hs.length) (hbp : 0 < (R.getD x default).1.bk.length) (eh : (R.getD x default).2.1 = .slice (some ⟨Bh, 0, none⟩) (R.getD x default).1.hs.length ch) (eb : (R.getD x default).2.2 = .slice (some ⟨Bb, 0, none⟩) (R.getD x default).1.bk.length cb) (rh : RowAt w Bh 9 ch 1 ((R.getD x default).1.hs.flatMap hF)) (rb : RowAt w Bb 54 cb 2 ((R.getD x default).1.bk.flatMap bkV)) (hsz : a.tmps.size = 171) (hdf : a.defers = []) (t1 : a.tmps.getD 1 undef = .int .i64 wh) (t2 : a.tmps.getD 2 undef = .int .i64 wt) (t3 : a.tmps.getD 3 undef = .pointer (some ⟨B3, 0, none⟩)) (t6 : a.tmps.getD 6 undef = .bool false) (t7 : a.tmps.getD 7 undef = .pointer (some ⟨B7, 0, none⟩))
    (h10 : @CallOK ⟨rawOf (insS Lc oa cc x R)⟩ Try.prog 10 [.int .i64 wh, .int .i64 (R.length : Int)] [] 0 (.int .i64 (x : Int)) []) (hk : @CallOK ⟨rawOf (insS Lc oa cc x R)⟩ Try.prog 10 [.int .i64 wt, .int .i64 14] [] 0 (.int .i64 6) []) (hLs : ∀ t ∈ Lc, SmT t.1) (h9 : Lc.length ≤ 9000000000) (hzc : K.cn.size ≤ 9000000000000) (hc0 : cfgV K (poolsV (numS Lc 0)) = 0) : (Code.seq (Code.seq (regN Try.prog 5 6) (Code.cond (.tmp 34) (Code.seq (regN Try.prog 5 7) Code.ret) Code.skip)) (Code.seq (regN Try.prog 5 8) (Code.seq (regN Try.prog 5 9) (Code.seq (Code.seq (regN Try.prog 5 10) (Code.cond (.tmp 57) (Code.seq (regN Try.prog 5 11) Code.ret) Code.skip)) (Code.seq (Code.seq (regN Try.prog 5 12) (Code.block 0 (((regN Try.prog 5 13)).seq (Code.cond (.tmp 62) ((regN Try.prog 5 14)) (((regN Try.prog 5 15)).seq (Code.cond (.tmp 67) ((regN Try.prog 5 16)) (((regN Try.prog 5 17)).seq (Code.cond (.tmp 84) ((regN Try.prog 5 18)) (((regN Try.prog 5 19)).seq (Code.cond (.tmp 91) ((regN Try.prog 5 20)) (((regN Try.prog 5 21)).seq (Code.cond (.tmp 108) ((regN Try.prog 5 22)) (((regN Try.prog 5 23)).seq (Code.cond (.tmp 117) ((regN Try.prog 5 24)) (((regN Try.prog 5 25)).seq (Code.cond (.tmp 122) ((regN Try.prog 5 26)) (((regN Try.prog 5 27)).seq (Code.cond (.tmp 136) ((regN Try.prog 5 28)) (((regN Try.prog 5 29)).seq (Code.cond (.tmp 146) ((regN Try.prog 5 30)) (((regN Try.prog 5 31)).seq (Code.cond (.tmp 149) ((regN Try.prog 5 32)) (((regN Try.prog 5 33)).seq (Code.cond (.tmp 153) ((regN Try.prog 5 34)) (((regN Try.prog 5 35)).seq (Code.cond (.tmp 156) ((regN Try.prog 5 36)) (((regN Try.prog 5 37)).seq (Code.cond (.tmp 159) ((regN Try.prog 5 38)) ((regN Try.prog 5 39)))))))))))))))))))))))))))))) (Code.seq (regN Try.prog 5 40) Code.ret)))))).wp Try.prog (bodyPost Try.prog Try.f5 (fun e w1 => e = .returned (.bool true) ∧ Below w0.heap.size w0 w1)) a w := by
  letI : Inhabited RawG := ⟨rawOf (insS Lc oa cc x R)⟩
  have hlen := hS.cp.len
  have hsR : ∀ i, i < R.length → SmT (R.getD i default).1 := fun i hi => by rw [hS.cp.data i]; exact hLs _ (getD_mem' (by omega))
  have hsm := hsR x hx
  have hgx : chkP (R.getD x default).1 = 0 := by
    have h1 := (poolsV_iff.1 (cfgV_good hc0).1).2.2 x (by rw [numS_len]; omega)
    have h2 := h1.1
    unfold cvP at h2
    rw [numS_get (by omega)] at h2
    rw [hS.cp.data x]
    exact h2
  have hC := sps_6 (E := ((engL R).set x ((R.getD x default).1, .slice (some ⟨3, 0, none⟩) (R.getD x default).1.hs.length (R.getD x default).1.hs.length, .slice (some ⟨4, 0, none⟩) (R.getD x default).1.bk.length (R.getD x default).1.bk.length))) (p := (R.getD x default).1) (n := R.length) (x := x) (k := 0) (cn := K.cn) (re := K.re) (co := K.co) (rs := K.rs) (dl := K.dl) (rq := K.rq) (cs := K.cs) (br := K.br) (bs := K.bs) (bm := K.bm) (by_ := K.by_) (en := K.en) (li := K.li) (he := K.he) (ct := K.ct) (bo := K.bo) (q := K.q) (wh := wh) (wt := wt) hk (by rw [List.length_set, engL_len]; exact hx) (getD_set_eq' (by rw [engL_len]; exact hx)) (by rw [List.length_set, engL_len]) (by omega) hhp hbp hsm.l hsm.m (by have := trials (chkP_good hgx).hc; omega)
  have egr : (((((engL R).set x ((R.getD x default).1, .slice (some ⟨3, 0, none⟩) (R.getD x default).1.hs.length (R.getD x default).1.hs.length, .slice (some ⟨4, 0, none⟩) (R.getD x default).1.bk.length (R.getD x default).1.bk.length))).set x ({ (R.getD x default).1 with b4 := (R.getD x default).1.b3 + 1 }, .slice (some ⟨3, 0, none⟩) (R.getD x default).1.hs.length (R.getD x default).1.hs.length, .slice (some ⟨4, 0, none⟩) (R.getD x default).1.bk.length (R.getD x default).1.bk.length)).flatMap realP) = ((engL R).set x ({ (R.getD x default).1 with b4 := (R.getD x default).1.b3 + 1 }, .slice (some ⟨3, 0, none⟩) (R.getD x default).1.hs.length (R.getD x default).1.hs.length, .slice (some ⟨4, 0, none⟩) (R.getD x default).1.bk.length (R.getD x default).1.bk.length)).flatMap realP := by
    rw [List.set_set]
    all_goals first | rfl | exact flat_set2 (by simp only [List.length_append, List.length_singleton, List.length_set])
  refine sp_mid hS hx hhp hbp eh eb rh rb hsz hdf t1 t2 t3 t6 t7 h10 (K1 := K) (E := ((engL R).set x ({ (R.getD x default).1 with b4 := (R.getD x default).1.b3 + 1 }, .slice (some ⟨3, 0, none⟩) (R.getD x default).1.hs.length (R.getD x default).1.hs.length, .slice (some ⟨4, 0, none⟩) (R.getD x default).1.bk.length (R.getD x default).1.bk.length))) (rid := 2) (hid := 3) (bid := 4) (n2 := R.length) (hs1 := (R.getD x default).1.hs) (bk1 := (R.getD x default).1.bk) hC rfl (by rw [List.length_set, engL_len]) rfl (by rw [← egr]; rfl) rfl rfl (by decide) (fun j hj => ?_) (small_numS fun j hj => .inl (hLs _ (getD_mem' hj))) (small_numS fun j hj => ?_) hzc hzc hc0 (no_cfg (no_pools (j := x) (by rw [List.length_set, engL_len]; exact hx) (by rw [getD_set_eq' (by rw [engL_len]; exact hx)]; exact no_good)))
  · rcases hsh1 hx j hj with h1 | h1
    · exact .inl h1
    · exact .inr ⟨{ (R.getD x default).1 with b4 := (R.getD x default).1.b3 + 1 }, h1, rfl, rfl⟩
  · rcases hsh1 hx j hj with ⟨i, hi, _, h1⟩ | h1
    · rw [h1]; exact .inl (hsR i hi)
    · rw [h1]; exact .inr ⟨hsm.n, hsm.h, hsm.b, Nat.le_trans hsm.l (by decide)⟩
theorem sp_case7 {n1 : Nat} {w0 : World} {K : CfgS} {Lc : List PX} {oa : Option Addr} {cc : Nat} {R : List PX} {B3 B7 Bd cap : Nat} {w : World} {x Bh ch Bb cb : Nat} {a : Act} {wh wt : Int} (hS : SpSt n1 w0 K Lc oa cc R B3 B7 Bd cap w) (hx : x < R.length) (hhp : 0 < (R.getD x default).1.hs.length) (hbp : 0 < (R.getD x default).1.bk.length) (eh : (R.getD x default).2.1 = .slice (some ⟨Bh, 0, none⟩) (R.getD x default).1.hs.length ch) (eb : (R.getD x default).2.2 = .slice (some ⟨Bb, 0, none⟩) (R.getD x default).1.bk.length cb) (rh : RowAt w Bh 9 ch 1 ((R.getD x default).1.hs.flatMap hF)) (rb : RowAt w Bb 54 cb 2 ((R.getD x default).1.bk.flatMap bkV)) (hsz : a.tmps.size = 171) (hdf : a.defers = []) (t1 : a.tmps.getD 1 undef = .int .i64 wh) (t2 : a.tmps.getD 2 undef = .int .i64 wt) (t3 : a.tmps.getD 3 undef = .pointer (some ⟨B3, 0, none⟩)) (t6 : a.tmps.getD 6 undef = .bool false) (t7 : a.tmps.getD 7 undef = .pointer (some ⟨B7, 0, none⟩))
    (h10 : @CallOK ⟨rawOf (insS Lc oa cc x R)⟩ Try.prog 10 [.int .i64 wh, .int .i64 (R.length : Int)] [] 0 (.int .i64 (x : Int)) []) (hk : @CallOK ⟨rawOf (insS Lc oa cc x R)⟩ Try.prog 10 [.int .i64 wt, .int .i64 14] [] 0 (.int .i64 7) []) (hLs : ∀ t ∈ Lc, SmT t.1) (h9 : Lc.length ≤ 9000000000) (hzc : K.cn.size ≤ 9000000000000) (hc0 : cfgV K (poolsV (numS Lc 0)) = 0) : (Code.seq (Code.seq (regN Try.prog 5 6) (Code.cond (.tmp 34) (Code.seq (regN Try.prog 5 7) Code.ret) Code.skip)) (Code.seq (regN Try.prog 5 8) (Code.seq (regN Try.prog 5 9) (Code.seq (Code.seq (regN Try.prog 5 10) (Code.cond (.tmp 57) (Code.seq (regN Try.prog 5 11) Code.ret) Code.skip)) (Code.seq (Code.seq (regN Try.prog 5 12) (Code.block 0 (((regN Try.prog 5 13)).seq (Code.cond (.tmp 62) ((regN Try.prog 5 14)) (((regN Try.prog 5 15)).seq (Code.cond (.tmp 67) ((regN Try.prog 5 16)) (((regN Try.prog 5 17)).seq (Code.cond (.tmp 84) ((regN Try.prog 5 18)) (((regN Try.prog 5 19)).seq (Code.cond (.tmp 91) ((regN Try.prog 5 20)) (((regN Try.prog 5 21)).seq (Code.cond (.tmp 108) ((regN Try.prog 5 22)) (((regN Try.prog 5 23)).seq (Code.cond (.tmp 117) ((regN Try.prog 5 24)) (((regN Try.prog 5 25)).seq (Code.cond (.tmp 122) ((regN Try.prog 5 26)) (((regN Try.prog 5 27)).seq (Code.cond (.tmp 136) ((regN Try.prog 5 28)) (((regN Try.prog 5 29)).seq (Code.cond (.tmp 146) ((regN Try.prog 5 30)) (((regN Try.prog 5 31)).seq (Code.cond (.tmp 149) ((regN Try.prog 5 32)) (((regN Try.prog 5 33)).seq (Code.cond (.tmp 153) ((regN Try.prog 5 34)) (((regN Try.prog 5 35)).seq (Code.cond (.tmp 156) ((regN Try.prog 5 36)) (((regN Try.prog 5 37)).seq (Code.cond (.tmp 159) ((regN Try.prog 5 38)) ((regN Try.prog 5 39)))))))))))))))))))))))))))))) (Code.seq (regN Try.prog 5 40) Code.ret)))))).wp Try.prog (bodyPost Try.prog Try.f5 (fun e w1 => e = .returned (.bool true) ∧ Below w0.heap.size w0 w1)) a w := by
  letI : Inhabited RawG := ⟨rawOf (insS Lc oa cc x R)⟩
  have hlen := hS.cp.len
  have hsR : ∀ i, i < R.length → SmT (R.getD i default).1 := fun i hi => by rw [hS.cp.data i]; exact hLs _ (getD_mem' (by omega))
  have hsm := hsR x hx
  have hgx : chkP (R.getD x default).1 = 0 := by
    have h1 := (poolsV_iff.1 (cfgV_good hc0).1).2.2 x (by rw [numS_len]; omega)
    have h2 := h1.1
    unfold cvP at h2
    rw [numS_get (by omega)] at h2
    rw [hS.cp.data x]
    exact h2
  have hC := sps_7 (E := ((engL R).set x ((R.getD x default).1, .slice (some ⟨3, 0, none⟩) (R.getD x default).1.hs.length (R.getD x default).1.hs.length, .slice (some ⟨4, 0, none⟩) (R.getD x default).1.bk.length (R.getD x default).1.bk.length))) (p := (R.getD x default).1) (n := R.length) (x := x) (k := 0) (cn := K.cn) (re := K.re) (co := K.co) (rs := K.rs) (dl := K.dl) (rq := K.rq) (cs := K.cs) (br := K.br) (bs := K.bs) (bm := K.bm) (by_ := K.by_) (en := K.en) (li := K.li) (he := K.he) (ct := K.ct) (bo := K.bo) (q := K.q) (wh := wh) (wt := wt) hk (by rw [List.length_set, engL_len]; exact hx) (getD_set_eq' (by rw [engL_len]; exact hx)) (by rw [List.length_set, engL_len]) (by omega) hhp hbp hsm.l hsm.m
  refine sp_mid hS hx hhp hbp eh eb rh rb hsz hdf t1 t2 t3 t6 t7 h10 (K1 := K) (E := ((engL R).set x ((R.getD x default).1, .slice (some ⟨3, 0, none⟩) (R.getD x default).1.hs.length (R.getD x default).1.hs.length, .slice (some ⟨4, 0, none⟩) (R.getD x default).1.bk.length (R.getD x default).1.bk.length) ++ [((R.getD x default).1, .slice (some ⟨3, 0, none⟩) (R.getD x default).1.hs.length (R.getD x default).1.hs.length, .slice (some ⟨4, 0, none⟩) (R.getD x default).1.bk.length (R.getD x default).1.bk.length)])) (rid := 3973) (hid := 3) (bid := 4) (n2 := R.length + 1) (hs1 := (R.getD x default).1.hs) (bk1 := (R.getD x default).1.bk) hC rfl (by rw [List.length_append, List.length_set, engL_len, List.length_singleton]) rfl rfl rfl rfl (by decide) (fun j hj => ?_) (small_numS fun j hj => .inl (hLs _ (getD_mem' hj))) (small_numS fun j hj => ?_) hzc hzc hc0 (no_cfg (no_twice (x := x) (by rw [List.length_set, engL_len]; exact hx) (by rw [getD_set_eq' (by rw [engL_len]; exact hx)])))
  · rcases hsh2 hx j hj with h1 | h1
    · exact .inl h1
    · exact .inr ⟨(R.getD x default).1, h1, rfl, rfl⟩
  · rcases hsh2 hx j hj with ⟨i, hi, _, h1⟩ | h1
    · rw [h1]; exact .inl (hsR i hi)
    · rw [h1]; exact .inr ⟨hsm.n, hsm.h, hsm.b, Nat.le_trans hsm.l (by decide)⟩
theorem sp_case8 {n1 : Nat} {w0 : World} {K : CfgS} {Lc : List PX} {oa : Option Addr} {cc : Nat} {R : List PX} {B3 B7 Bd cap : Nat} {w : World} {x Bh ch Bb cb : Nat} {a : Act} {wh wt : Int} (hS : SpSt n1 w0 K Lc oa cc R B3 B7 Bd cap w) (hx : x < R.length) (hhp : 0 < (R.getD x default).1.hs.length) (hbp : 0 < (R.getD x default).1.bk.length) (eh : (R.getD x default).2.1 = .slice (some ⟨Bh, 0, none⟩) (R.getD x default).1.hs.length ch) (eb : (R.getD x default).2.2 = .slice (some ⟨Bb, 0, none⟩) (R.getD x default).1.bk.length cb) (rh : RowAt w Bh 9 ch 1 ((R.getD x default).1.hs.flatMap hF)) (rb : RowAt w Bb 54 cb 2 ((R.getD x default).1.bk.flatMap bkV)) (hsz : a.tmps.size = 171) (hdf : a.defers = []) (t1 : a.tmps.getD 1 undef = .int .i64 wh) (t2 : a.tmps.getD 2 undef = .int .i64 wt) (t3 : a.tmps.getD 3 undef = .pointer (some ⟨B3, 0, none⟩)) (t6 : a.tmps.getD 6 undef = .bool false) (t7 : a.tmps.getD 7 undef = .pointer (some ⟨B7, 0, none⟩))
    (h10 : @CallOK ⟨rawOf (insS Lc oa cc x R)⟩ Try.prog 10 [.int .i64 wh, .int .i64 (R.length : Int)] [] 0 (.int .i64 (x : Int)) []) (hk : @CallOK ⟨rawOf (insS Lc oa cc x R)⟩ Try.prog 10 [.int .i64 wt, .int .i64 14] [] 0 (.int .i64 8) []) (hLs : ∀ t ∈ Lc, SmT t.1) (h9 : Lc.length ≤ 9000000000) (hzc : K.cn.size ≤ 9000000000000) (hc0 : cfgV K (poolsV (numS Lc 0)) = 0) : (Code.seq (Code.seq (regN Try.prog 5 6) (Code.cond (.tmp 34) (Code.seq (regN Try.prog 5 7) Code.ret) Code.skip)) (Code.seq (regN Try.prog 5 8) (Code.seq (regN Try.prog 5 9) (Code.seq (Code.seq (regN Try.prog 5 10) (Code.cond (.tmp 57) (Code.seq (regN Try.prog 5 11) Code.ret) Code.skip)) (Code.seq (Code.seq (regN Try.prog 5 12) (Code.block 0 (((regN Try.prog 5 13)).seq (Code.cond (.tmp 62) ((regN Try.prog 5 14)) (((regN Try.prog 5 15)).seq (Code.cond (.tmp 67) ((regN Try.prog 5 16)) (((regN Try.prog 5 17)).seq (Code.cond (.tmp 84) ((regN Try.prog 5 18)) (((regN Try.prog 5 19)).seq (Code.cond (.tmp 91) ((regN Try.prog 5 20)) (((regN Try.prog 5 21)).seq (Code.cond (.tmp 108) ((regN Try.prog 5 22)) (((regN Try.prog 5 23)).seq (Code.cond (.tmp 117) ((regN Try.prog 5 24)) (((regN Try.prog 5 25)).seq (Code.cond (.tmp 122) ((regN Try.prog 5 26)) (((regN Try.prog 5 27)).seq (Code.cond (.tmp 136) ((regN Try.prog 5 28)) (((regN Try.prog 5 29)).seq (Code.cond (.tmp 146) ((regN Try.prog 5 30)) (((regN Try.prog 5 31)).seq (Code.cond (.tmp 149) ((regN Try.prog 5 32)) (((regN Try.prog 5 33)).seq (Code.cond (.tmp 153) ((regN Try.prog 5 34)) (((regN Try.prog 5 35)).seq (Code.cond (.tmp 156) ((regN Try.prog 5 36)) (((regN Try.prog 5 37)).seq (Code.cond (.tmp 159) ((regN Try.prog 5 38)) ((regN Try.prog 5 39)))))))))))))))))))))))))))))) (Code.seq (regN Try.prog 5 40) Code.ret)))))).wp Try.prog (bodyPost Try.prog Try.f5 (fun e w1 => e = .returned (.bool true) ∧ Below w0.heap.size w0 w1)) a w := by
  letI : Inhabited RawG := ⟨rawOf (insS Lc oa cc x R)⟩
  have hlen := hS.cp.len
  have hsR : ∀ i, i < R.length → SmT (R.getD i default).1 := fun i hi => by rw [hS.cp.data i]; exact hLs _ (getD_mem' (by omega))
  have hsm := hsR x hx
  have hgx : chkP (R.getD x default).1 = 0 := by
    have h1 := (poolsV_iff.1 (cfgV_good hc0).1).2.2 x (by rw [numS_len]; omega)
    have h2 := h1.1
    unfold cvP at h2
    rw [numS_get (by omega)] at h2
    rw [hS.cp.data x]
    exact h2
  have hC := sps_8 (E := ((engL R).set x ((R.getD x default).1, .slice (some ⟨3, 0, none⟩) (R.getD x default).1.hs.length (R.getD x default).1.hs.length, .slice (some ⟨4, 0, none⟩) (R.getD x default).1.bk.length (R.getD x default).1.bk.length))) (p := (R.getD x default).1) (n := R.length) (x := x) (k := 0) (cn := K.cn) (re := K.re) (co := K.co) (rs := K.rs) (dl := K.dl) (rq := K.rq) (cs := K.cs) (br := K.br) (bs := K.bs) (bm := K.bm) (by_ := K.by_) (en := K.en) (li := K.li) (he := K.he) (ct := K.ct) (bo := K.bo) (q := K.q) (wh := wh) (wt := wt) hk (by rw [List.length_set, engL_len]; exact hx) (getD_set_eq' (by rw [engL_len]; exact hx)) (by rw [List.length_set, engL_len]) (by omega) hhp hbp hsm.l hsm.m
  refine sp_mid hS hx hhp hbp eh eb rh rb hsz hdf t1 t2 t3 t6 t7 h10 (K1 := { K with cn := ⟨#[97, 32, 98]⟩ }) (E := ((engL R).set x ((R.getD x default).1, .slice (some ⟨3, 0, none⟩) (R.getD x default).1.hs.length (R.getD x default).1.hs.length, .slice (some ⟨4, 0, none⟩) (R.getD x default).1.bk.length (R.getD x default).1.bk.length))) (rid := 2) (hid := 3) (bid := 4) (n2 := R.length) (hs1 := (R.getD x default).1.hs) (bk1 := (R.getD x default).1.bk) hC rfl (by rw [List.length_set, engL_len]) rfl rfl rfl rfl (by decide) (fun j hj => ?_) (small_numS fun j hj => .inl (hLs _ (getD_mem' hj))) (small_numS fun j hj => ?_) hzc (by show (⟨#[97, 32, 98]⟩ : ByteArray).size ≤ _; exact Nat.le_trans (show (⟨#[97, 32, 98]⟩ : ByteArray).size ≤ 3 from Nat.le_refl 3) (by decide)) hc0 (no_cfgK no_cn)
  · rcases hsh1 hx j hj with h1 | h1
    · exact .inl h1
    · exact .inr ⟨(R.getD x default).1, h1, rfl, rfl⟩
  · rcases hsh1 hx j hj with ⟨i, hi, _, h1⟩ | h1
    · rw [h1]; exact .inl (hsR i hi)
    · rw [h1]; exact .inr ⟨hsm.n, hsm.h, hsm.b, Nat.le_trans hsm.l (by decide)⟩
theorem sp_case9 {n1 : Nat} {w0 : World} {K : CfgS} {Lc : List PX} {oa : Option Addr} {cc : Nat} {R : List PX} {B3 B7 Bd cap : Nat} {w : World} {x Bh ch Bb cb : Nat} {a : Act} {wh wt : Int} (hS : SpSt n1 w0 K Lc oa cc R B3 B7 Bd cap w) (hx : x < R.length) (hhp : 0 < (R.getD x default).1.hs.length) (hbp : 0 < (R.getD x default).1.bk.length) (eh : (R.getD x default).2.1 = .slice (some ⟨Bh, 0, none⟩) (R.getD x default).1.hs.length ch) (eb : (R.getD x default).2.2 = .slice (some ⟨Bb, 0, none⟩) (R.getD x default).1.bk.length cb) (rh : RowAt w Bh 9 ch 1 ((R.getD x default).1.hs.flatMap hF)) (rb : RowAt w Bb 54 cb 2 ((R.getD x default).1.bk.flatMap bkV)) (hsz : a.tmps.size = 171) (hdf : a.defers = []) (t1 : a.tmps.getD 1 undef = .int .i64 wh) (t2 : a.tmps.getD 2 undef = .int .i64 wt) (t3 : a.tmps.getD 3 undef = .pointer (some ⟨B3, 0, none⟩)) (t6 : a.tmps.getD 6 undef = .bool false) (t7 : a.tmps.getD 7 undef = .pointer (some ⟨B7, 0, none⟩))
    (h10 : @CallOK ⟨rawOf (insS Lc oa cc x R)⟩ Try.prog 10 [.int .i64 wh, .int .i64 (R.length : Int)] [] 0 (.int .i64 (x : Int)) []) (hk : @CallOK ⟨rawOf (insS Lc oa cc x R)⟩ Try.prog 10 [.int .i64 wt, .int .i64 14] [] 0 (.int .i64 9) []) (hLs : ∀ t ∈ Lc, SmT t.1) (h9 : Lc.length ≤ 9000000000) (hzc : K.cn.size ≤ 9000000000000) (hc0 : cfgV K (poolsV (numS Lc 0)) = 0) : (Code.seq (Code.seq (regN Try.prog 5 6) (Code.cond (.tmp 34) (Code.seq (regN Try.prog 5 7) Code.ret) Code.skip)) (Code.seq (regN Try.prog 5 8) (Code.seq (regN Try.prog 5 9) (Code.seq (Code.seq (regN Try.prog 5 10) (Code.cond (.tmp 57) (Code.seq (regN Try.prog 5 11) Code.ret) Code.skip)) (Code.seq (Code.seq (regN Try.prog 5 12) (Code.block 0 (((regN Try.prog 5 13)).seq (Code.cond (.tmp 62) ((regN Try.prog 5 14)) (((regN Try.prog 5 15)).seq (Code.cond (.tmp 67) ((regN Try.prog 5 16)) (((regN Try.prog 5 17)).seq (Code.cond (.tmp 84) ((regN Try.prog 5 18)) (((regN Try.prog 5 19)).seq (Code.cond (.tmp 91) ((regN Try.prog 5 20)) (((regN Try.prog 5 21)).seq (Code.cond (.tmp 108) ((regN Try.prog 5 22)) (((regN Try.prog 5 23)).seq (Code.cond (.tmp 117) ((regN Try.prog 5 24)) (((regN Try.prog 5 25)).seq (Code.cond (.tmp 122) ((regN Try.prog 5 26)) (((regN Try.prog 5 27)).seq (Code.cond (.tmp 136) ((regN Try.prog 5 28)) (((regN Try.prog 5 29)).seq (Code.cond (.tmp 146) ((regN Try.prog 5 30)) (((regN Try.prog 5 31)).seq (Code.cond (.tmp 149) ((regN Try.prog 5 32)) (((regN Try.prog 5 33)).seq (Code.cond (.tmp 153) ((regN Try.prog 5 34)) (((regN Try.prog 5 35)).seq (Code.cond (.tmp 156) ((regN Try.prog 5 36)) (((regN Try.prog 5 37)).seq (Code.cond (.tmp 159) ((regN Try.prog 5 38)) ((regN Try.prog 5 39)))))))))))))))))))))))))))))) (Code.seq (regN Try.prog 5 40) Code.ret)))))).wp Try.prog (bodyPost Try.prog Try.f5 (fun e w1 => e = .returned (.bool true) ∧ Below w0.heap.size w0 w1)) a w := by
  letI : Inhabited RawG := ⟨rawOf (insS Lc oa cc x R)⟩
  have hlen := hS.cp.len
  have hsR : ∀ i, i < R.length → SmT (R.getD i default).1 := fun i hi => by rw [hS.cp.data i]; exact hLs _ (getD_mem' (by omega))
  have hsm := hsR x hx
  have hgx : chkP (R.getD x default).1 = 0 := by
    have h1 := (poolsV_iff.1 (cfgV_good hc0).1).2.2 x (by rw [numS_len]; omega)
    have h2 := h1.1
    unfold cvP at h2
    rw [numS_get (by omega)] at h2
    rw [hS.cp.data x]
    exact h2
  have hC := sps_9 (E := ((engL R).set x ((R.getD x default).1, .slice (some ⟨3, 0, none⟩) (R.getD x default).1.hs.length (R.getD x default).1.hs.length, .slice (some ⟨4, 0, none⟩) (R.getD x default).1.bk.length (R.getD x default).1.bk.length))) (p := (R.getD x default).1) (n := R.length) (x := x) (k := 0) (cn := K.cn) (re := K.re) (co := K.co) (rs := K.rs) (dl := K.dl) (rq := K.rq) (cs := K.cs) (br := K.br) (bs := K.bs) (bm := K.bm) (by_ := K.by_) (en := K.en) (li := K.li) (he := K.he) (ct := K.ct) (bo := K.bo) (q := K.q) (wh := wh) (wt := wt) hk (by rw [List.length_set, engL_len]; exact hx) (getD_set_eq' (by rw [engL_len]; exact hx)) (by rw [List.length_set, engL_len]) (by omega) hhp hbp hsm.l hsm.m
  refine sp_mid hS hx hhp hbp eh eb rh rb hsz hdf t1 t2 t3 t6 t7 h10 (K1 := { K with q := 9223372036854775808 }) (E := ((engL R).set x ((R.getD x default).1, .slice (some ⟨3, 0, none⟩) (R.getD x default).1.hs.length (R.getD x default).1.hs.length, .slice (some ⟨4, 0, none⟩) (R.getD x default).1.bk.length (R.getD x default).1.bk.length))) (rid := 2) (hid := 3) (bid := 4) (n2 := R.length) (hs1 := (R.getD x default).1.hs) (bk1 := (R.getD x default).1.bk) hC rfl (by rw [List.length_set, engL_len]) rfl rfl rfl rfl (by decide) (fun j hj => ?_) (small_numS fun j hj => .inl (hLs _ (getD_mem' hj))) (small_numS fun j hj => ?_) hzc hzc hc0 (no_cfgK no_part)
  · rcases hsh1 hx j hj with h1 | h1
    · exact .inl h1
    · exact .inr ⟨(R.getD x default).1, h1, rfl, rfl⟩
  · rcases hsh1 hx j hj with ⟨i, hi, _, h1⟩ | h1
    · rw [h1]; exact .inl (hsR i hi)
    · rw [h1]; exact .inr ⟨hsm.n, hsm.h, hsm.b, Nat.le_trans hsm.l (by decide)⟩
theorem sp_case10 {n1 : Nat} {w0 : World} {K : CfgS} {Lc : List PX} {oa : Option Addr} {cc : Nat} {R : List PX} {B3 B7 Bd cap : Nat} {w : World} {x Bh ch Bb cb : Nat} {a : Act} {wh wt : Int} (hS : SpSt n1 w0 K Lc oa cc R B3 B7 Bd cap w) (hx : x < R.length) (hhp : 0 < (R.getD x default).1.hs.length) (hbp : 0 < (R.getD x default).1.bk.length) (eh : (R.getD x default).2.1 = .slice (some ⟨Bh, 0, none⟩) (R.getD x default).1.hs.length ch) (eb : (R.getD x default).2.2 = .slice (some ⟨Bb, 0, none⟩) (R.getD x default).1.bk.length cb) (rh : RowAt w Bh 9 ch 1 ((R.getD x default).1.hs.flatMap hF)) (rb : RowAt w Bb 54 cb 2 ((R.getD x default).1.bk.flatMap bkV)) (hsz : a.tmps.size = 171) (hdf : a.defers = []) (t1 : a.tmps.getD 1 undef = .int .i64 wh) (t2 : a.tmps.getD 2 undef = .int .i64 wt) (t3 : a.tmps.getD 3 undef = .pointer (some ⟨B3, 0, none⟩)) (t6 : a.tmps.getD 6 undef = .bool false) (t7 : a.tmps.getD 7 undef = .pointer (some ⟨B7, 0, none⟩))
    (h10 : @CallOK ⟨rawOf (insS Lc oa cc x R)⟩ Try.prog 10 [.int .i64 wh, .int .i64 (R.length : Int)] [] 0 (.int .i64 (x : Int)) []) (hk : @CallOK ⟨rawOf (insS Lc oa cc x R)⟩ Try.prog 10 [.int .i64 wt, .int .i64 14] [] 0 (.int .i64 10) []) (hLs : ∀ t ∈ Lc, SmT t.1) (h9 : Lc.length ≤ 9000000000) (hzc : K.cn.size ≤ 9000000000000) (hc0 : cfgV K (poolsV (numS Lc 0)) = 0) : (Code.seq (Code.seq (regN Try.prog 5 6) (Code.cond (.tmp 34) (Code.seq (regN Try.prog 5 7) Code.ret) Code.skip)) (Code.seq (regN Try.prog 5 8) (Code.seq (regN Try.prog 5 9) (Code.seq (Code.seq (regN Try.prog 5 10) (Code.cond (.tmp 57) (Code.seq (regN Try.prog 5 11) Code.ret) Code.skip)) (Code.seq (Code.seq (regN Try.prog 5 12) (Code.block 0 (((regN Try.prog 5 13)).seq (Code.cond (.tmp 62) ((regN Try.prog 5 14)) (((regN Try.prog 5 15)).seq (Code.cond (.tmp 67) ((regN Try.prog 5 16)) (((regN Try.prog 5 17)).seq (Code.cond (.tmp 84) ((regN Try.prog 5 18)) (((regN Try.prog 5 19)).seq (Code.cond (.tmp 91) ((regN Try.prog 5 20)) (((regN Try.prog 5 21)).seq (Code.cond (.tmp 108) ((regN Try.prog 5 22)) (((regN Try.prog 5 23)).seq (Code.cond (.tmp 117) ((regN Try.prog 5 24)) (((regN Try.prog 5 25)).seq (Code.cond (.tmp 122) ((regN Try.prog 5 26)) (((regN Try.prog 5 27)).seq (Code.cond (.tmp 136) ((regN Try.prog 5 28)) (((regN Try.prog 5 29)).seq (Code.cond (.tmp 146) ((regN Try.prog 5 30)) (((regN Try.prog 5 31)).seq (Code.cond (.tmp 149) ((regN Try.prog 5 32)) (((regN Try.prog 5 33)).seq (Code.cond (.tmp 153) ((regN Try.prog 5 34)) (((regN Try.prog 5 35)).seq (Code.cond (.tmp 156) ((regN Try.prog 5 36)) (((regN Try.prog 5 37)).seq (Code.cond (.tmp 159) ((regN Try.prog 5 38)) ((regN Try.prog 5 39)))))))))))))))))))))))))))))) (Code.seq (regN Try.prog 5 40) Code.ret)))))).wp Try.prog (bodyPost Try.prog Try.f5 (fun e w1 => e = .returned (.bool true) ∧ Below w0.heap.size w0 w1)) a w := by
  letI : Inhabited RawG := ⟨rawOf (insS Lc oa cc x R)⟩
  have hlen := hS.cp.len
  have hsR : ∀ i, i < R.length → SmT (R.getD i default).1 := fun i hi => by rw [hS.cp.data i]; exact hLs _ (getD_mem' (by omega))
  have hsm := hsR x hx
  have hgx : chkP (R.getD x default).1 = 0 := by
    have h1 := (poolsV_iff.1 (cfgV_good hc0).1).2.2 x (by rw [numS_len]; omega)
    have h2 := h1.1
    unfold cvP at h2
    rw [numS_get (by omega)] at h2
    rw [hS.cp.data x]
    exact h2
  have hC := sps_10 (E := ((engL R).set x ((R.getD x default).1, .slice (some ⟨3, 0, none⟩) (R.getD x default).1.hs.length (R.getD x default).1.hs.length, .slice (some ⟨4, 0, none⟩) (R.getD x default).1.bk.length (R.getD x default).1.bk.length))) (p := (R.getD x default).1) (n := R.length) (x := x) (k := 0) (cn := K.cn) (re := K.re) (co := K.co) (rs := K.rs) (dl := K.dl) (rq := K.rq) (cs := K.cs) (br := K.br) (bs := K.bs) (bm := K.bm) (by_ := K.by_) (en := K.en) (li := K.li) (he := K.he) (ct := K.ct) (bo := K.bo) (q := K.q) (wh := wh) (wt := wt) hk (by rw [List.length_set, engL_len]; exact hx) (getD_set_eq' (by rw [engL_len]; exact hx)) (by rw [List.length_set, engL_len]) (by omega) hhp hbp hsm.l hsm.m
  refine sp_mid hS hx hhp hbp eh eb rh rb hsz hdf t1 t2 t3 t6 t7 h10 (K1 := { K with re := -1 }) (E := ((engL R).set x ((R.getD x default).1, .slice (some ⟨3, 0, none⟩) (R.getD x default).1.hs.length (R.getD x default).1.hs.length, .slice (some ⟨4, 0, none⟩) (R.getD x default).1.bk.length (R.getD x default).1.bk.length))) (rid := 2) (hid := 3) (bid := 4) (n2 := R.length) (hs1 := (R.getD x default).1.hs) (bk1 := (R.getD x default).1.bk) hC rfl (by rw [List.length_set, engL_len]) rfl rfl rfl rfl (by decide) (fun j hj => ?_) (small_numS fun j hj => .inl (hLs _ (getD_mem' hj))) (small_numS fun j hj => ?_) hzc hzc hc0 (no_cfgK no_re)
  · rcases hsh1 hx j hj with h1 | h1
    · exact .inl h1
    · exact .inr ⟨(R.getD x default).1, h1, rfl, rfl⟩
  · rcases hsh1 hx j hj with ⟨i, hi, _, h1⟩ | h1
    · rw [h1]; exact .inl (hsR i hi)
    · rw [h1]; exact .inr ⟨hsm.n, hsm.h, hsm.b, Nat.le_trans hsm.l (by decide)⟩
theorem sp_case11 {n1 : Nat} {w0 : World} {K : CfgS} {Lc : List PX} {oa : Option Addr} {cc : Nat} {R : List PX} {B3 B7 Bd cap : Nat} {w : World} {x Bh ch Bb cb : Nat} {a : Act} {wh wt : Int} (hS : SpSt n1 w0 K Lc oa cc R B3 B7 Bd cap w) (hx : x < R.length) (hhp : 0 < (R.getD x default).1.hs.length) (hbp : 0 < (R.getD x default).1.bk.length) (eh : (R.getD x default).2.1 = .slice (some ⟨Bh, 0, none⟩) (R.getD x default).1.hs.length ch) (eb : (R.getD x default).2.2 = .slice (some ⟨Bb, 0, none⟩) (R.getD x default).1.bk.length cb) (rh : RowAt w Bh 9 ch 1 ((R.getD x default).1.hs.flatMap hF)) (rb : RowAt w Bb 54 cb 2 ((R.getD x default).1.bk.flatMap bkV)) (hsz : a.tmps.size = 171) (hdf : a.defers = []) (t1 : a.tmps.getD 1 undef = .int .i64 wh) (t2 : a.tmps.getD 2 undef = .int .i64 wt) (t3 : a.tmps.getD 3 undef = .pointer (some ⟨B3, 0, none⟩)) (t6 : a.tmps.getD 6 undef = .bool false) (t7 : a.tmps.getD 7 undef = .pointer (some ⟨B7, 0, none⟩))
    (h10 : @CallOK ⟨rawOf (insS Lc oa cc x R)⟩ Try.prog 10 [.int .i64 wh, .int .i64 (R.length : Int)] [] 0 (.int .i64 (x : Int)) []) (hk : @CallOK ⟨rawOf (insS Lc oa cc x R)⟩ Try.prog 10 [.int .i64 wt, .int .i64 14] [] 0 (.int .i64 11) []) (hLs : ∀ t ∈ Lc, SmT t.1) (h9 : Lc.length ≤ 9000000000) (hzc : K.cn.size ≤ 9000000000000) (hc0 : cfgV K (poolsV (numS Lc 0)) = 0) : (Code.seq (Code.seq (regN Try.prog 5 6) (Code.cond (.tmp 34) (Code.seq (regN Try.prog 5 7) Code.ret) Code.skip)) (Code.seq (regN Try.prog 5 8) (Code.seq (regN Try.prog 5 9) (Code.seq (Code.seq (regN Try.prog 5 10) (Code.cond (.tmp 57) (Code.seq (regN Try.prog 5 11) Code.ret) Code.skip)) (Code.seq (Code.seq (regN Try.prog 5 12) (Code.block 0 (((regN Try.prog 5 13)).seq (Code.cond (.tmp 62) ((regN Try.prog 5 14)) (((regN Try.prog 5 15)).seq (Code.cond (.tmp 67) ((regN Try.prog 5 16)) (((regN Try.prog 5 17)).seq (Code.cond (.tmp 84) ((regN Try.prog 5 18)) (((regN Try.prog 5 19)).seq (Code.cond (.tmp 91) ((regN Try.prog 5 20)) (((regN Try.prog 5 21)).seq (Code.cond (.tmp 108) ((regN Try.prog 5 22)) (((regN Try.prog 5 23)).seq (Code.cond (.tmp 117) ((regN Try.prog 5 24)) (((regN Try.prog 5 25)).seq (Code.cond (.tmp 122) ((regN Try.prog 5 26)) (((regN Try.prog 5 27)).seq (Code.cond (.tmp 136) ((regN Try.prog 5 28)) (((regN Try.prog 5 29)).seq (Code.cond (.tmp 146) ((regN Try.prog 5 30)) (((regN Try.prog 5 31)).seq (Code.cond (.tmp 149) ((regN Try.prog 5 32)) (((regN Try.prog 5 33)).seq (Code.cond (.tmp 153) ((regN Try.prog 5 34)) (((regN Try.prog 5 35)).seq (Code.cond (.tmp 156) ((regN Try.prog 5 36)) (((regN Try.prog 5 37)).seq (Code.cond (.tmp 159) ((regN Try.prog 5 38)) ((regN Try.prog 5 39)))))))))))))))))))))))))))))) (Code.seq (regN Try.prog 5 40) Code.ret)))))).wp Try.prog (bodyPost Try.prog Try.f5 (fun e w1 => e = .returned (.bool true) ∧ Below w0.heap.size w0 w1)) a w := by
  letI : Inhabited RawG := ⟨rawOf (insS Lc oa cc x R)⟩
  have hlen := hS.cp.len
  have hsR : ∀ i, i < R.length → SmT (R.getD i default).1 := fun i hi => by rw [hS.cp.data i]; exact hLs _ (getD_mem' (by omega))
  have hsm := hsR x hx
  have hgx : chkP (R.getD x default).1 = 0 := by
    have h1 := (poolsV_iff.1 (cfgV_good hc0).1).2.2 x (by rw [numS_len]; omega)
    have h2 := h1.1
    unfold cvP at h2
    rw [numS_get (by omega)] at h2
    rw [hS.cp.data x]
    exact h2
  have hC := sps_11 (E := ((engL R).set x ((R.getD x default).1, .slice (some ⟨3, 0, none⟩) (R.getD x default).1.hs.length (R.getD x default).1.hs.length, .slice (some ⟨4, 0, none⟩) (R.getD x default).1.bk.length (R.getD x default).1.bk.length))) (p := (R.getD x default).1) (n := R.length) (x := x) (k := 0) (cn := K.cn) (re := K.re) (co := K.co) (rs := K.rs) (dl := K.dl) (rq := K.rq) (cs := K.cs) (br := K.br) (bs := K.bs) (bm := K.bm) (by_ := K.by_) (en := K.en) (li := K.li) (he := K.he) (ct := K.ct) (bo := K.bo) (q := K.q) (wh := wh) (wt := wt) hk (by rw [List.length_set, engL_len]; exact hx) (getD_set_eq' (by rw [engL_len]; exact hx)) (by rw [List.length_set, engL_len]) (by omega) hhp hbp hsm.l hsm.m
  refine sp_mid hS hx hhp hbp eh eb rh rb hsz hdf t1 t2 t3 t6 t7 h10 (K1 := { K with dl := 0 }) (E := ((engL R).set x ((R.getD x default).1, .slice (some ⟨3, 0, none⟩) (R.getD x default).1.hs.length (R.getD x default).1.hs.length, .slice (some ⟨4, 0, none⟩) (R.getD x default).1.bk.length (R.getD x default).1.bk.length))) (rid := 2) (hid := 3) (bid := 4) (n2 := R.length) (hs1 := (R.getD x default).1.hs) (bk1 := (R.getD x default).1.bk) hC rfl (by rw [List.length_set, engL_len]) rfl rfl rfl rfl (by decide) (fun j hj => ?_) (small_numS fun j hj => .inl (hLs _ (getD_mem' hj))) (small_numS fun j hj => ?_) hzc hzc hc0 (no_cfgK no_dl)
  · rcases hsh1 hx j hj with h1 | h1
    · exact .inl h1
    · exact .inr ⟨(R.getD x default).1, h1, rfl, rfl⟩
  · rcases hsh1 hx j hj with ⟨i, hi, _, h1⟩ | h1
    · rw [h1]; exact .inl (hsR i hi)
    · rw [h1]; exact .inr ⟨hsm.n, hsm.h, hsm.b, Nat.le_trans hsm.l (by decide)⟩
theorem sp_case12 {n1 : Nat} {w0 : World} {K : CfgS} {Lc : List PX} {oa : Option Addr} {cc : Nat} {R : List PX} {B3 B7 Bd cap : Nat} {w : World} {x Bh ch Bb cb : Nat} {a : Act} {wh wt : Int} (hS : SpSt n1 w0 K Lc oa cc R B3 B7 Bd cap w) (hx : x < R.length) (hhp : 0 < (R.getD x default).1.hs.length) (hbp : 0 < (R.getD x default).1.bk.length) (eh : (R.getD x default).2.1 = .slice (some ⟨Bh, 0, none⟩) (R.getD x default).1.hs.length ch) (eb : (R.getD x default).2.2 = .slice (some ⟨Bb, 0, none⟩) (R.getD x default).1.bk.length cb) (rh : RowAt w Bh 9 ch 1 ((R.getD x default).1.hs.flatMap hF)) (rb : RowAt w Bb 54 cb 2 ((R.getD x default).1.bk.flatMap bkV)) (hsz : a.tmps.size = 171) (hdf : a.defers = []) (t1 : a.tmps.getD 1 undef = .int .i64 wh) (t2 : a.tmps.getD 2 undef = .int .i64 wt) (t3 : a.tmps.getD 3 undef = .pointer (some ⟨B3, 0, none⟩)) (t6 : a.tmps.getD 6 undef = .bool false) (t7 : a.tmps.getD 7 undef = .pointer (some ⟨B7, 0, none⟩))
    (h10 : @CallOK ⟨rawOf (insS Lc oa cc x R)⟩ Try.prog 10 [.int .i64 wh, .int .i64 (R.length : Int)] [] 0 (.int .i64 (x : Int)) []) (hk : @CallOK ⟨rawOf (insS Lc oa cc x R)⟩ Try.prog 10 [.int .i64 wt, .int .i64 14] [] 0 (.int .i64 12) []) (hLs : ∀ t ∈ Lc, SmT t.1) (h9 : Lc.length ≤ 9000000000) (hzc : K.cn.size ≤ 9000000000000) (hc0 : cfgV K (poolsV (numS Lc 0)) = 0) : (Code.seq (Code.seq (regN Try.prog 5 6) (Code.cond (.tmp 34) (Code.seq (regN Try.prog 5 7) Code.ret) Code.skip)) (Code.seq (regN Try.prog 5 8) (Code.seq (regN Try.prog 5 9) (Code.seq (Code.seq (regN Try.prog 5 10) (Code.cond (.tmp 57) (Code.seq (regN Try.prog 5 11) Code.ret) Code.skip)) (Code.seq (Code.seq (regN Try.prog 5 12) (Code.block 0 (((regN Try.prog 5 13)).seq (Code.cond (.tmp 62) ((regN Try.prog 5 14)) (((regN Try.prog 5 15)).seq (Code.cond (.tmp 67) ((regN Try.prog 5 16)) (((regN Try.prog 5 17)).seq (Code.cond (.tmp 84) ((regN Try.prog 5 18)) (((regN Try.prog 5 19)).seq (Code.cond (.tmp 91) ((regN Try.prog 5 20)) (((regN Try.prog 5 21)).seq (Code.cond (.tmp 108) ((regN Try.prog 5 22)) (((regN Try.prog 5 23)).seq (Code.cond (.tmp 117) ((regN Try.prog 5 24)) (((regN Try.prog 5 25)).seq (Code.cond (.tmp 122) ((regN Try.prog 5 26)) (((regN Try.prog 5 27)).seq (Code.cond (.tmp 136) ((regN Try.prog 5 28)) (((regN Try.prog 5 29)).seq (Code.cond (.tmp 146) ((regN Try.prog 5 30)) (((regN Try.prog 5 31)).seq (Code.cond (.tmp 149) ((regN Try.prog 5 32)) (((regN Try.prog 5 33)).seq (Code.cond (.tmp 153) ((regN Try.prog 5 34)) (((regN Try.prog 5 35)).seq (Code.cond (.tmp 156) ((regN Try.prog 5 36)) (((regN Try.prog 5 37)).seq (Code.cond (.tmp 159) ((regN Try.prog 5 38)) ((regN Try.prog 5 39)))))))))))))))))))))))))))))) (Code.seq (regN Try.prog 5 40) Code.ret)))))).wp Try.prog (bodyPost Try.prog Try.f5 (fun e w1 => e = .returned (.bool true) ∧ Below w0.heap.size w0 w1)) a w := by
  letI : Inhabited RawG := ⟨rawOf (insS Lc oa cc x R)⟩
  have hlen := hS.cp.len
  have hsR : ∀ i, i < R.length → SmT (R.getD i default).1 := fun i hi => by rw [hS.cp.data i]; exact hLs _ (getD_mem' (by omega))
  have hsm := hsR x hx
  have hgx : chkP (R.getD x default).1 = 0 := by
    have h1 := (poolsV_iff.1 (cfgV_good hc0).1).2.2 x (by rw [numS_len]; omega)
    have h2 := h1.1
    unfold cvP at h2
    rw [numS_get (by omega)] at h2
    rw [hS.cp.data x]
    exact h2
  have hC := sps_12 (E := ((engL R).set x ((R.getD x default).1, .slice (some ⟨3, 0, none⟩) (R.getD x default).1.hs.length (R.getD x default).1.hs.length, .slice (some ⟨4, 0, none⟩) (R.getD x default).1.bk.length (R.getD x default).1.bk.length))) (p := (R.getD x default).1) (n := R.length) (x := x) (k := 0) (cn := K.cn) (re := K.re) (co := K.co) (rs := K.rs) (dl := K.dl) (rq := K.rq) (cs := K.cs) (br := K.br) (bs := K.bs) (bm := K.bm) (by_ := K.by_) (en := K.en) (li := K.li) (he := K.he) (ct := K.ct) (bo := K.bo) (q := K.q) (wh := wh) (wt := wt) hk (by rw [List.length_set, engL_len]; exact hx) (getD_set_eq' (by rw [engL_len]; exact hx)) (by rw [List.length_set, engL_len]) (by omega) hhp hbp hsm.l hsm.m
  refine sp_mid hS hx hhp hbp eh eb rh rb hsz hdf t1 t2 t3 t6 t7 h10 (K1 := { K with li := 0 }) (E := ((engL R).set x ((R.getD x default).1, .slice (some ⟨3, 0, none⟩) (R.getD x default).1.hs.length (R.getD x default).1.hs.length, .slice (some ⟨4, 0, none⟩) (R.getD x default).1.bk.length (R.getD x default).1.bk.length))) (rid := 2) (hid := 3) (bid := 4) (n2 := R.length) (hs1 := (R.getD x default).1.hs) (bk1 := (R.getD x default).1.bk) hC rfl (by rw [List.length_set, engL_len]) rfl rfl rfl rfl (by decide) (fun j hj => ?_) (small_numS fun j hj => .inl (hLs _ (getD_mem' hj))) (small_numS fun j hj => ?_) hzc hzc hc0 (no_cfgK no_li)
  · rcases hsh1 hx j hj with h1 | h1
    · exact .inl h1
    · exact .inr ⟨(R.getD x default).1, h1, rfl, rfl⟩
  · rcases hsh1 hx j hj with ⟨i, hi, _, h1⟩ | h1
    · rw [h1]; exact .inl (hsR i hi)
    · rw [h1]; exact .inr ⟨hsm.n, hsm.h, hsm.b, Nat.le_trans hsm.l (by decide)⟩
theorem sp_case13 {n1 : Nat} {w0 : World} {K : CfgS} {Lc : List PX} {oa : Option Addr} {cc : Nat} {R : List PX} {B3 B7 Bd cap : Nat} {w : World} {x Bh ch Bb cb : Nat} {a : Act} {wh wt : Int} (hS : SpSt n1 w0 K Lc oa cc R B3 B7 Bd cap w) (hx : x < R.length) (hhp : 0 < (R.getD x default).1.hs.length) (hbp : 0 < (R.getD x default).1.bk.length) (eh : (R.getD x default).2.1 = .slice (some ⟨Bh, 0, none⟩) (R.getD x default).1.hs.length ch) (eb : (R.getD x default).2.2 = .slice (some ⟨Bb, 0, none⟩) (R.getD x default).1.bk.length cb) (rh : RowAt w Bh 9 ch 1 ((R.getD x default).1.hs.flatMap hF)) (rb : RowAt w Bb 54 cb 2 ((R.getD x default).1.bk.flatMap bkV)) (hsz : a.tmps.size = 171) (hdf : a.defers = []) (t1 : a.tmps.getD 1 undef = .int .i64 wh) (t2 : a.tmps.getD 2 undef = .int .i64 wt) (t3 : a.tmps.getD 3 undef = .pointer (some ⟨B3, 0, none⟩)) (t6 : a.tmps.getD 6 undef = .bool false) (t7 : a.tmps.getD 7 undef = .pointer (some ⟨B7, 0, none⟩))
    (h10 : @CallOK ⟨rawOf (insS Lc oa cc x R)⟩ Try.prog 10 [.int .i64 wh, .int .i64 (R.length : Int)] [] 0 (.int .i64 (x : Int)) []) (hk : @CallOK ⟨rawOf (insS Lc oa cc x R)⟩ Try.prog 10 [.int .i64 wt, .int .i64 14] [] 0 (.int .i64 13) []) (hLs : ∀ t ∈ Lc, SmT t.1) (h9 : Lc.length ≤ 9000000000) (hzc : K.cn.size ≤ 9000000000000) (hc0 : cfgV K (poolsV (numS Lc 0)) = 0) : (Code.seq (Code.seq (regN Try.prog 5 6) (Code.cond (.tmp 34) (Code.seq (regN Try.prog 5 7) Code.ret) Code.skip)) (Code.seq (regN Try.prog 5 8) (Code.seq (regN Try.prog 5 9) (Code.seq (Code.seq (regN Try.prog 5 10) (Code.cond (.tmp 57) (Code.seq (regN Try.prog 5 11) Code.ret) Code.skip)) (Code.seq (Code.seq (regN Try.prog 5 12) (Code.block 0 (((regN Try.prog 5 13)).seq (Code.cond (.tmp 62) ((regN Try.prog 5 14)) (((regN Try.prog 5 15)).seq (Code.cond (.tmp 67) ((regN Try.prog 5 16)) (((regN Try.prog 5 17)).seq (Code.cond (.tmp 84) ((regN Try.prog 5 18)) (((regN Try.prog 5 19)).seq (Code.cond (.tmp 91) ((regN Try.prog 5 20)) (((regN Try.prog 5 21)).seq (Code.cond (.tmp 108) ((regN Try.prog 5 22)) (((regN Try.prog 5 23)).seq (Code.cond (.tmp 117) ((regN Try.prog 5 24)) (((regN Try.prog 5 25)).seq (Code.cond (.tmp 122) ((regN Try.prog 5 26)) (((regN Try.prog 5 27)).seq (Code.cond (.tmp 136) ((regN Try.prog 5 28)) (((regN Try.prog 5 29)).seq (Code.cond (.tmp 146) ((regN Try.prog 5 30)) (((regN Try.prog 5 31)).seq (Code.cond (.tmp 149) ((regN Try.prog 5 32)) (((regN Try.prog 5 33)).seq (Code.cond (.tmp 153) ((regN Try.prog 5 34)) (((regN Try.prog 5 35)).seq (Code.cond (.tmp 156) ((regN Try.prog 5 36)) (((regN Try.prog 5 37)).seq (Code.cond (.tmp 159) ((regN Try.prog 5 38)) ((regN Try.prog 5 39)))))))))))))))))))))))))))))) (Code.seq (regN Try.prog 5 40) Code.ret)))))).wp Try.prog (bodyPost Try.prog Try.f5 (fun e w1 => e = .returned (.bool true) ∧ Below w0.heap.size w0 w1)) a w := by
  letI : Inhabited RawG := ⟨rawOf (insS Lc oa cc x R)⟩
  have hlen := hS.cp.len
  have hsR : ∀ i, i < R.length → SmT (R.getD i default).1 := fun i hi => by rw [hS.cp.data i]; exact hLs _ (getD_mem' (by omega))
  have hsm := hsR x hx
  have hgx : chkP (R.getD x default).1 = 0 := by
    have h1 := (poolsV_iff.1 (cfgV_good hc0).1).2.2 x (by rw [numS_len]; omega)
    have h2 := h1.1
    unfold cvP at h2
    rw [numS_get (by omega)] at h2
    rw [hS.cp.data x]
    exact h2
  have hC := sps_13 (E := ((engL R).set x ((R.getD x default).1, .slice (some ⟨3, 0, none⟩) (R.getD x default).1.hs.length (R.getD x default).1.hs.length, .slice (some ⟨4, 0, none⟩) (R.getD x default).1.bk.length (R.getD x default).1.bk.length))) (p := (R.getD x default).1) (n := R.length) (x := x) (k := 0) (cn := K.cn) (re := K.re) (co := K.co) (rs := K.rs) (dl := K.dl) (rq := K.rq) (cs := K.cs) (br := K.br) (bs := K.bs) (bm := K.bm) (by_ := K.by_) (en := K.en) (li := K.li) (he := K.he) (ct := K.ct) (bo := K.bo) (q := K.q) (wh := wh) (wt := wt) hk (by rw [List.length_set, engL_len]; exact hx) (getD_set_eq' (by rw [engL_len]; exact hx)) (by rw [List.length_set, engL_len]) (by omega) hhp hbp hsm.l hsm.m
  refine sp_mid hS hx hhp hbp eh eb rh rb hsz hdf t1 t2 t3 t6 t7 h10 (K1 := { K with bm := -1 }) (E := ((engL R).set x ((R.getD x default).1, .slice (some ⟨3, 0, none⟩) (R.getD x default).1.hs.length (R.getD x default).1.hs.length, .slice (some ⟨4, 0, none⟩) (R.getD x default).1.bk.length (R.getD x default).1.bk.length))) (rid := 2) (hid := 3) (bid := 4) (n2 := R.length) (hs1 := (R.getD x default).1.hs) (bk1 := (R.getD x default).1.bk) hC rfl (by rw [List.length_set, engL_len]) rfl rfl rfl rfl (by decide) (fun j hj => ?_) (small_numS fun j hj => .inl (hLs _ (getD_mem' hj))) (small_numS fun j hj => ?_) hzc hzc hc0 (no_cfgK no_bm)
  · rcases hsh1 hx j hj with h1 | h1
    · exact .inl h1
    · exact .inr ⟨(R.getD x default).1, h1, rfl, rfl⟩
  · rcases hsh1 hx j hj with ⟨i, hi, _, h1⟩ | h1
    · rw [h1]; exact .inl (hsR i hi)
    · rw [h1]; exact .inr ⟨hsm.n, hsm.h, hsm.b, Nat.le_trans hsm.l (by decide)⟩
end
section
open Go.RowKit
set_option linter.unusedSimpArgs false
set_option linter.unusedVariables false
set_option linter.unusedSectionVars false
set_option maxRecDepth 100000
/-- The number that Pick picks. -/
def pickV (n : Int) (k : Nat) : Nat := if n.tmod (k : Int) < 0 then (n.tmod (k : Int) + (k : Int)).toNat else (n.tmod (k : Int)).toNat
theorem pick_fn [Inhabited RawG] {n : Int} {k : Nat} (hk : 1 ≤ k) (h9 : k ≤ 9000000000000) : pickV n k < k ∧ CallOK Try.prog 10 [.int .i64 n, .int .i64 (k : Int)] [] 0 (.int .i64 (pickV n k : Int)) [] := by
  have hb : (n.tmod (k : Int)).natAbs < k := by
    have h1 := Int.natAbs_tmod n (k : Int)
    have h2 : n.natAbs % (k : Int).natAbs < (k : Int).natAbs := Nat.mod_lt _ (by omega)
    omega
  unfold pickV
  by_cases h : n.tmod (k : Int) < 0
  · rw [if_pos h]
    refine ⟨by omega, ?_⟩
    have h1 := pick_b (n := n) (m := (k : Int)) (by omega) h
    have e : (((n.tmod (k : Int) + (k : Int)).toNat : Nat) : Int) = n.tmod (k : Int) + (k : Int) := by omega
    rw [e]
    rw [w64 (by omega)] at h1
    exact h1
  · rw [if_neg h]
    refine ⟨by omega, ?_⟩
    have h1 := pick_a (n := n) (m := (k : Int)) (by omega) h
    have e : (((n.tmod (k : Int)).toNat : Nat) : Int) = n.tmod (k : Int) := by omega
    rw [e]
    exact h1
theorem nt5 : Try.f5.ntmps = 171 := by kernel_rfl
theorem act_three {fn : Func} {n : Nat} {y0 y1 y2 : Value} {a : Act} (hn : fn.ntmps = n) (ha : a = { tmps := #[y0, y1, y2] ++ Array.replicate (fn.ntmps - #[y0, y1, y2].size) undef, defers := [] }) (h1 : 3 ≤ n) : a.tmps.size = n ∧ a.defers = [] ∧ a.tmps.getD 0 undef = y0 ∧ a.tmps.getD 1 undef = y1 ∧ a.tmps.getD 2 undef = y2 := by
  subst ha
  refine ⟨?_, rfl, ?_, ?_, ?_⟩
  · simp [hn]; omega
  all_goals (rw [Array.getD_eq_getD_getElem?, Array.getElem?_append_left (by simp)]; rfl)
/-- The law's end, where it is true at once. -/
theorem fin_true5 [Inhabited RawG] {ds : List Deferred} {D : Nat → Prop} {ρ : Nat → Pl} {a : Act} {w w0 : World} (hd : ds = []) (hf : FR ds D ρ (mkF [(6, .bool true)] 171 0) a) (hw : WR (szP Try.prog) D ρ (hget []) w) (bel : Below w0.heap.size w0 w) : (bodyPost Try.prog Try.f5 (fun e w1 => e = .returned (.bool true) ∧ Below w0.heap.size w0 w1)) .ret a w := by
  obtain ⟨u, hu, hrun⟩ := ret_one (fn := Try.f5) (v := .bool true) hf hw (by kernel_rfl)
  exact ⟨by rw [← hd]; exact hf.defers, u, hrun, by rw [hu.bool_inv], bel⟩
theorem smT_of {p : PoolT} (h : LightP p) : SmT p := by
  have h1 := h.h
  have h2 := h.b
  have h3 := h.n
  refine ⟨by omega, fun x hx => ?_, fun x hx => ?_, by omega, by omega⟩
  · obtain ⟨i, hi, rfl⟩ := List.mem_iff_getElem.1 hx
    have := h.hz i hi
    rw [List.getD_eq_getElem?_getD, List.getElem?_eq_getElem hi] at this
    have h4 : (p.hs[i]).size ≤ 300 := this
    omega
  · obtain ⟨i, hi, rfl⟩ := List.mem_iff_getElem.1 hx
    have := h.bz i hi
    rw [List.getD_eq_getElem?_getD, List.getElem?_eq_getElem hi] at this
    have h4 : (p.bk[i]).1.size ≤ 300 := this
    omega
theorem spoils_ok {w0 : World} {K : CfgS} {Lc : List PX} {oa : Option Addr} {cc : Nat} {wh wt : Int} (hok : ∀ t ∈ Lc, okW w0 t) (ho : Opn w0 realP Lc oa cc) (hle : Lc.length ≤ 9223372036854775807) :
    Calls Try.prog 5 #[.agg (cfgC K (.slice oa Lc.length cc)).toArray, .int .i64 wh, .int .i64 wt] w0 (fun e w1 => e = .returned (.bool true) ∧ Below w0.heap.size w0 w1) := by
  letI : Inhabited RawG := ⟨rawOf (entQ (oa, Lc.length, cc, (numS Lc 0).flatMap poolF) entD Lc)⟩
  have hps : (numS Lc 0).length = Lc.length := numS_len _ _
  have r0 : RawAt w0 0 := rawAt_pools (M := Lc) (off := 0) rfl (fun j _ => by rw [Nat.zero_add]) ho hok
  have hraw : ∀ i, RawAt w0 i := rawL r0 (rawAt_none _ rfl) hok
  have hw0 : WR (szP Try.prog) (fun _ => False) (fun _ => default) (hget []) w0 := wr_mk (fun b k hg => (hget_nil _ _ hg).elim) (fun b c k l hb => (hget_nil _ _ hb).elim) hraw (fun i a hc ha b k hg => (hget_nil _ _ hg).elim)
  have hv0 : VR (fun _ => False) (fun _ => default) (.agg (cfgC K (.slice (some ⟨0, 0, some 2⟩) (numS Lc 0).length 0)).toArray) (.agg (cfgC K (.slice oa Lc.length cc)).toArray) :=
    vr_aggL rfl (cfg_rel (fun v h => .scal v h) (by rw [hps]; exact vr_opq _ entQ0))
  have hR0 : RowsP (numS Lc 0) := rowsP_numS (fun j _ => by rw [Nat.zero_add]) hok
  refine calls_of_wp Try.func5 body5 ?_
  obtain ⟨y0, hy0⟩ : ∃ y0, y0 = Value.agg (cfgC K (.slice oa Lc.length cc)).toArray := ⟨_, rfl⟩
  rw [← hy0] at hv0 ⊢
  obtain ⟨a0, ha0⟩ : ∃ a0 : Act, a0 = { tmps := #[y0, .int .i64 wh, .int .i64 wt] ++ Array.replicate (Try.f5.ntmps - #[y0, .int .i64 wh, .int .i64 wt].size) undef, defers := [] } := ⟨_, rfl⟩
  rw [← ha0]
  obtain ⟨az, ad, a00, a01, a02⟩ := act_three nt5 ha0 (by decide)
  have hf0 : FR [] (fun _ => False) (fun _ => default) (mkF [(0, .agg #[.string K.cn, .slice (some ⟨0, 0, some 2⟩) (numS Lc 0).length 0, .int .i64 K.re, .int .i64 K.co, .int .i64 K.rs, .int .i64 K.dl, .int .i64 K.rq, .int .i64 K.cs, .int .i64 K.br, .int .i64 K.bs, .int .i64 K.bm, .int .i64 K.by_, .int .i64 K.en, .float .f64 K.q, .int .i64 K.li, .int .i64 K.he, .int .i64 K.ct, .int .i64 K.bo]), (1, .int .i64 wh), (2, .int .i64 wt)] 171 0) a0 := by
    refine fr_mk az ad fun t v h => ?_
    simp only [List.mem_cons, Prod.mk.injEq, List.not_mem_nil, or_false] at h
    rcases h with ⟨rfl, rfl⟩ | ⟨rfl, rfl⟩ | ⟨rfl, rfl⟩
    · rw [a00]; exact hv0
    · rw [a01]; exact .scal _ rfl
    · rw [a02]; exact .scal _ rfl
  refine wp_seq (wp_mono (sp0 (ps := (numS Lc 0)) (cn := K.cn) (re := K.re) (co := K.co) (rs := K.rs) (dl := K.dl) (rq := K.rq) (cs := K.cs) (br := K.br) (bs := K.bs) (bm := K.bm) (by_ := K.by_) (en := K.en) (li := K.li) (he := K.he) (ct := K.ct) (bo := K.bo) (q := K.q) (wh := wh) (wt := wt) _ _ _ _ (fun b h => h.elim) hf0 hw0) ?_)
  rintro e a1 w1 ⟨rfl, l1, D1, ρ1, t1, f1, b1, c1⟩
  refine wp_seq (wp_mono (sp1 (ps := (numS Lc 0)) (cn := K.cn) (re := K.re) (co := K.co) (rs := K.rs) (dl := K.dl) (rq := K.rq) (cs := K.cs) (br := K.br) (bs := K.bs) (bm := K.bm) (by_ := K.by_) (en := K.en) (li := K.li) (he := K.he) (ct := K.ct) (bo := K.bo) (q := K.q) (wh := wh) (wt := wt) _ _ _ _ b1 f1 t1.wr) ?_)
  rintro e a2 w2 ⟨rfl, l2, D2, ρ2, t2, f2, b2, c2⟩
  obtain ⟨bb, h8, hb⟩ := light_ex hR0 (by rw [hps]; exact hle) (cn := K.cn) (re := K.re) (co := K.co) (rs := K.rs) (dl := K.dl) (rq := K.rq) (cs := K.cs) (br := K.br) (bs := K.bs) (bm := K.bm) (by_ := K.by_) (en := K.en) (li := K.li) (he := K.he) (ct := K.ct) (bo := K.bo) (q := K.q)
  have belT : ∀ {D' : Nat → Prop} {ρ' : Nat → Pl} {h' : HF} {w' : World}, T (szP Try.prog) (fun _ => False) (fun _ => default) (hget []) w0 D' ρ' h' w' → Below w0.heap.size w0 w' := fun t => ⟨t.os, t.tape, t.output, t.size, fun k hk => t_keep t hk fun b k hb => (hget_nil _ _ hb).elim⟩
  cases bb with
  | false =>
    refine wp_seq (wp_mono (sp3a (ps := (numS Lc 0)) (cn := K.cn) (re := K.re) (co := K.co) (rs := K.rs) (dl := K.dl) (rq := K.rq) (cs := K.cs) (br := K.br) (bs := K.bs) (bm := K.bm) (by_ := K.by_) (en := K.en) (li := K.li) (he := K.he) (ct := K.ct) (bo := K.bo) (q := K.q) (wh := wh) (wt := wt) (b := false) (w := 0) h8 rfl _ _ _ _ b2 f2 t2.wr) ?_)
    rintro e a3 w3 ⟨rfl, l3, D3, ρ3, t3, f3, b3, c3⟩
    exact fin_true5 rfl f3 t3.wr (belT ((t1.trans t2).trans t3))
  | true =>
    obtain ⟨hn20, hc300, hLp⟩ := hb rfl
    rw [hps] at hn20
    have hLs : ∀ t ∈ Lc, SmT t.1 := fun t ht => by
      obtain ⟨j, hj, rfl⟩ := List.mem_iff_getElem.1 ht
      have h1 := smT_of (hLp _ (pool_mem (show j < (numS Lc 0).length by rw [hps]; exact hj)))
      rw [numS_get hj] at h1
      have e : Lc.getD j default = Lc[j] := by rw [List.getD_eq_getElem?_getD, List.getElem?_eq_getElem hj]; rfl
      rw [e] at h1
      exact ⟨h1.n, h1.h, h1.b, h1.l, h1.m⟩
    have hSm : SmallP (numS Lc 0) := small_numS fun j hj => .inl (hLs _ (getD_mem' hj))
    have h9 := cfg_fn hR0 hSm (K := K) (by omega)
    by_cases hw : cfgV K (poolsV (numS Lc 0)) = 0
    · rw [hw] at h9
      refine wp_seq (wp_mono (sp3c (ps := (numS Lc 0)) (cn := K.cn) (re := K.re) (co := K.co) (rs := K.rs) (dl := K.dl) (rq := K.rq) (cs := K.cs) (br := K.br) (bs := K.bs) (bm := K.bm) (by_ := K.by_) (en := K.en) (li := K.li) (he := K.he) (ct := K.ct) (bo := K.bo) (q := K.q) (wh := wh) (wt := wt) (b := true) (w := 0) h8 h9 rfl rfl _ _ _ _ b2 f2 t2.wr) ?_)
      rintro e a3 w3 ⟨rfl, l3, D3, ρ3, t3, f3, b3, c3⟩
      have hT := (t1.trans t2).trans t3
      have bel := belT hT
      have hw3 := hT.wr
      obtain ⟨oB, cB, fzB, hB, gB⟩ := box_cells (hw3.here 0 _ rfl) rfl rfl
      have g3 : w0.heap.size ≤ (ρ3 0).blk := t_new hw0 hT (b := 0) rfl (show (0 : Nat) ≠ 2 by decide) fun c l hc => (hget_nil _ _ hc).elim
      have hbox : (ABlk.cells ⟨29, cfgC K (.slice (some ⟨0, 0, some 2⟩) (numS Lc 0).length 0), 0⟩).map (imgV ρ3) = cfgC K (.slice oa Lc.length cc) := by
        show cfgC K (.slice oa (numS Lc 0).length cc) = _
        rw [hps]
      have hB' : w3.heap[(ρ3 0).blk]? = some (.cells (cfgC K (.slice oa Lc.length cc)).toArray 29 fzB) := by rw [← hbox]; exact hB
      have hB3 : (ρ3 0).blk < w3.heap.size := (Array.getElem?_eq_some_iff.1 hB').1
      obtain ⟨n1, n16, hall⟩ := poolsV_iff.1 (cfgV_good hw).1
      rw [hps] at n1
      have q1 := (fr_get f3 (t := 1) (v := .int .i64 wh) rfl rfl).int_inv
      have q2 := (fr_get f3 (t := 2) (v := .int .i64 wt) rfl rfl).int_inv
      have q6 := (fr_get f3 (t := 6) (v := .bool false) rfl rfl).bool_inv
      have q3 : a3.tmps.getD 3 undef = .pointer (some ⟨(ρ3 0).blk, 0, none⟩) := by
        have h1 := (fr_get f3 (t := 3) (v := .pointer (some ⟨0, 0, none⟩)) rfl rfl).img rfl
        rw [h1]
        show Value.pointer (some ⟨(ρ3 0).blk, (ρ3 0).off + 0, none⟩) = _
        rw [oB]
      have hs3 : a3.tmps.size = 171 := by rw [f3.size, mkF_len]
      have hok3 : ∀ t ∈ Lc, okW w3 t := fun t ht => okW_below (hok t ht) bel
      have ho3 := opn_below ho bel
      refine wp_seq (dcopy_wp reg5 q3 hB' hok3 ho3 (by omega) (by omega) (fun t ht => ⟨(hLs t ht).l, (hLs t ht).m⟩) (by omega) (by omega) (by omega) (by decide) (by decide) (by decide) ?_)
      intro a5 w5 R Bd cap B7 hd5 hz5 hg5 h75 hge5 hbox5 hcp5 hsep5 bel5
      have cblt : ∀ t ∈ Lc, ∀ b ∈ blks t, b < w0.heap.size := fun t ht b hb => okW_lt (hok t ht) hb
      have hS : SpSt w3.heap.size w0 K Lc oa cc R (ρ3 0).blk B7 Bd cap w5 := by
        refine ⟨⟨fzB, (bel5.block _ hB3).trans hB', gB⟩, hbox5, hcp5, fun t ht => okW_below (hok3 t ht) bel5, opn_below ho3 bel5, ⟨g3, hB3, hge5⟩, fun t ht b hb => ?_, fun a ea hp => ?_, hsep5, bel.trans (bel5.mono bel.size)⟩
        · have := cblt t ht b hb
          have := bel.size
          omega
        · obtain ⟨a', e1, _, cs, el, fz, hh, _⟩ := ho.row hp
          rw [ea] at e1
          cases e1
          have := (Array.getElem?_eq_some_iff.1 hh).1
          have := bel.size
          omega
      have hRl : R.length = Lc.length := hcp5.len
      obtain ⟨x, hx0⟩ : ∃ x, x = pickV wh R.length := ⟨_, rfl⟩
      have hx : x < R.length := by rw [hx0]; exact (pick_fn (n := wh) (by omega) (by omega)).1
      have hgx : GoodC (R.getD x default).1 := by
        have h1 := (hall x (by rw [hps]; omega)).1
        unfold cvP at h1
        rw [numS_get (by omega)] at h1
        rw [hcp5.data x]
        exact chkP_good h1
      have hhp : 0 < (R.getD x default).1.hs.length := by have := (hosts_pos hgx.hs).1; omega
      have hbp : 0 < (R.getD x default).1.bk.length := by have := hgx.lo; omega
      have hmx := getD_mem' hx
      obtain ⟨Bh, ch, eh, _, rh⟩ := (hcp5.own _ hmx).h hhp
      obtain ⟨Bb, cb, eb, _, rb⟩ := (hcp5.own _ hmx).b hbp
      have h10 : @CallOK ⟨rawOf (insS Lc oa cc x R)⟩ Try.prog 10 [.int .i64 wh, .int .i64 (R.length : Int)] [] 0 (.int .i64 (x : Int)) [] := by
        rw [hx0]
        exact (@pick_fn ⟨rawOf (insS Lc oa cc (pickV wh R.length) R)⟩ wh R.length (by omega) (by omega)).2
      obtain ⟨k, hk0⟩ : ∃ k, k = pickV wt 14 := ⟨_, rfl⟩
      obtain ⟨hk14, hk⟩ := @pick_fn ⟨rawOf (insS Lc oa cc x R)⟩ wt 14 (by decide) (by decide)
      rw [← hk0] at hk14 hk
      have s1 : a5.tmps.getD 1 undef = .int .i64 wh := (hg5 1 (by decide) (by decide) (by decide)).trans q1
      have s2 : a5.tmps.getD 2 undef = .int .i64 wt := (hg5 2 (by decide) (by decide) (by decide)).trans q2
      have s3 := (hg5 3 (by decide) (by decide) (by decide)).trans q3
      have s6 : a5.tmps.getD 6 undef = .bool false := (hg5 6 (by decide) (by decide) (by decide)).trans q6
      have s0 := hz5.trans hs3
      have sd : a5.defers = [] := hd5.trans f3.defers
      have hz9 : K.cn.size ≤ 9000000000000 := by omega
      have hl9 : Lc.length ≤ 9000000000 := by omega
      match k, hk14, hk with
      | 0, _, hk => exact sp_case0 hS hx hhp hbp eh eb rh rb s0 sd s1 s2 s3 s6 h75 h10 hk hLs hl9 hz9 hw
      | 1, _, hk => exact sp_case1 hS hx hhp hbp eh eb rh rb s0 sd s1 s2 s3 s6 h75 h10 hk hLs hl9 hz9 hw
      | 2, _, hk => exact sp_case2 hS hx hhp hbp eh eb rh rb s0 sd s1 s2 s3 s6 h75 h10 hk hLs hl9 hz9 hw
      | 3, _, hk => exact sp_case3 hS hx hhp hbp eh eb rh rb s0 sd s1 s2 s3 s6 h75 h10 hk hLs hl9 hz9 hw
      | 4, _, hk => exact sp_case4 hS hx hhp hbp eh eb rh rb s0 sd s1 s2 s3 s6 h75 h10 hk hLs hl9 hz9 hw
      | 5, _, hk => exact sp_case5 hS hx hhp hbp eh eb rh rb s0 sd s1 s2 s3 s6 h75 h10 hk hLs hl9 hz9 hw
      | 6, _, hk => exact sp_case6 hS hx hhp hbp eh eb rh rb s0 sd s1 s2 s3 s6 h75 h10 hk hLs hl9 hz9 hw
      | 7, _, hk => exact sp_case7 hS hx hhp hbp eh eb rh rb s0 sd s1 s2 s3 s6 h75 h10 hk hLs hl9 hz9 hw
      | 8, _, hk => exact sp_case8 hS hx hhp hbp eh eb rh rb s0 sd s1 s2 s3 s6 h75 h10 hk hLs hl9 hz9 hw
      | 9, _, hk => exact sp_case9 hS hx hhp hbp eh eb rh rb s0 sd s1 s2 s3 s6 h75 h10 hk hLs hl9 hz9 hw
      | 10, _, hk => exact sp_case10 hS hx hhp hbp eh eb rh rb s0 sd s1 s2 s3 s6 h75 h10 hk hLs hl9 hz9 hw
      | 11, _, hk => exact sp_case11 hS hx hhp hbp eh eb rh rb s0 sd s1 s2 s3 s6 h75 h10 hk hLs hl9 hz9 hw
      | 12, _, hk => exact sp_case12 hS hx hhp hbp eh eb rh rb s0 sd s1 s2 s3 s6 h75 h10 hk hLs hl9 hz9 hw
      | 13, _, hk => exact sp_case13 hS hx hhp hbp eh eb rh rb s0 sd s1 s2 s3 s6 h75 h10 hk hLs hl9 hz9 hw
      | k + 14, h, _ => omega
    · refine wp_seq (wp_mono (sp3b (ps := (numS Lc 0)) (cn := K.cn) (re := K.re) (co := K.co) (rs := K.rs) (dl := K.dl) (rq := K.rq) (cs := K.cs) (br := K.br) (bs := K.bs) (bm := K.bm) (by_ := K.by_) (en := K.en) (li := K.li) (he := K.he) (ct := K.ct) (bo := K.bo) (q := K.q) (wh := wh) (wt := wt) (b := true) (w := cfgV K (poolsV (numS Lc 0))) h8 h9 rfl (bne_iff_ne.2 hw) _ _ _ _ b2 f2 t2.wr) ?_)
      rintro e a3 w3 ⟨rfl, l3, D3, ρ3, t3, f3, b3, c3⟩
      exact fin_true5 rfl f3 t3.wr (belT ((t1.trans t2).trans t3))
end
end Go.Proofs.Ytkdalfdfepipiaa
