/- The bodies of Copy and of two laws. Copy: its other regions. Copy: its contract. A law's copy, by hand. -/
import Derived.Test.YtkdalfdfepipiaaB1
import Derived.KernelRfl
import Derived.Test.YtkdalfdfepipiaaBA
namespace Go.Proofs.Ytkdalfdfepipiaa
section
open Go.RowKit
set_option linter.unusedSimpArgs false
set_option linter.unusedVariables false
set_option linter.unusedSectionVars false
set_option maxRecDepth 100000
/-- The regions of a code, in the order of the text. -/
def regsIn : Code → List Code
  | .region i o d => [.region i o d]
  | .seq a b => regsIn a ++ regsIn b
  | .cond _ a b => regsIn a ++ regsIn b
  | .block _ a => regsIn a
  | .scope a => regsIn a
  | .loop a => regsIn a
  | _ => []
def regN (P : Program) (f n : Nat) : Code :=
  match P.funcs[f]? with
  | some fn => match fn.body with
    | some c => ((regsIn c)[n]?).getD .skip
    | none => .skip
  | none => .skip
theorem body13 : Try.f13.body = some (((regN Try.prog 13 0)).seq (((regN Try.prog 13 1)).seq ((((regN Try.prog 13 2)).seq (Code.block 0 (Code.loop (loopN Try.prog 13 0)))).seq (((regN Try.prog 13 7)).seq Code.ret)))) := by kernel_rfl
theorem body4 : Try.f4.body = some (((regN Try.prog 4 0)).seq ((((regN Try.prog 4 1)).seq (Code.cond (.tmp 12) (((regN Try.prog 4 2)).seq Code.ret) Code.skip)).seq ((((regN Try.prog 4 3)).seq (Code.cond (.tmp 15) (((regN Try.prog 4 4)).seq Code.ret) Code.skip)).seq (((regN Try.prog 4 5)).seq ((((regN Try.prog 4 6)).seq (Code.cond (.tmp 28) (((regN Try.prog 4 7)).seq Code.ret) Code.skip)).seq (((regN Try.prog 4 8)).seq ((((regN Try.prog 4 9)).seq (Code.block 0 ((((regN Try.prog 4 10)).seq (Code.cond (.tmp 35) Code.skip (Code.exit 0))).seq ((Code.block 1 ((((regN Try.prog 4 11)).seq (Code.block 2 ((((regN Try.prog 4 12)).seq (Code.cond (.tmp 46) Code.skip (Code.exit 2))).seq ((Code.block 3 ((regN Try.prog 4 13))).seq ((regN Try.prog 4 14)))).loop)).seq ((((regN Try.prog 4 15)).seq (Code.block 4 ((((regN Try.prog 4 16)).seq (Code.cond (.tmp 65) Code.skip (Code.exit 4))).seq ((Code.block 5 ((regN Try.prog 4 17))).seq ((regN Try.prog 4 18)))).loop)).seq ((regN Try.prog 4 19))))).seq ((regN Try.prog 4 20)))).loop)).seq ((((regN Try.prog 4 21)).seq (Code.cond (.tmp 85) (((regN Try.prog 4 22)).seq Code.ret) Code.skip)).seq ((((regN Try.prog 4 23)).seq (Code.cond (.tmp 94) (((regN Try.prog 4 24)).seq Code.ret) Code.skip)).seq (((regN Try.prog 4 25)).seq (((regN Try.prog 4 26)).seq (((regN Try.prog 4 27)).seq Code.ret)))))))))))) := by kernel_rfl
theorem body5 : Try.f5.body = some (((regN Try.prog 5 0)).seq ((((regN Try.prog 5 1)).seq (Code.cond (.tmp 11) (((regN Try.prog 5 2)).seq Code.ret) Code.skip)).seq ((((regN Try.prog 5 3)).seq (Code.cond (.tmp 19) (((regN Try.prog 5 4)).seq Code.ret) Code.skip)).seq (((regN Try.prog 5 5)).seq ((((regN Try.prog 5 6)).seq (Code.cond (.tmp 34) (((regN Try.prog 5 7)).seq Code.ret) Code.skip)).seq (((regN Try.prog 5 8)).seq (((regN Try.prog 5 9)).seq ((((regN Try.prog 5 10)).seq (Code.cond (.tmp 57) (((regN Try.prog 5 11)).seq Code.ret) Code.skip)).seq ((((regN Try.prog 5 12)).seq (Code.block 0 (((regN Try.prog 5 13)).seq (Code.cond (.tmp 62) ((regN Try.prog 5 14)) (((regN Try.prog 5 15)).seq (Code.cond (.tmp 67) ((regN Try.prog 5 16)) (((regN Try.prog 5 17)).seq (Code.cond (.tmp 84) ((regN Try.prog 5 18)) (((regN Try.prog 5 19)).seq (Code.cond (.tmp 91) ((regN Try.prog 5 20)) (((regN Try.prog 5 21)).seq (Code.cond (.tmp 108) ((regN Try.prog 5 22)) (((regN Try.prog 5 23)).seq (Code.cond (.tmp 117) ((regN Try.prog 5 24)) (((regN Try.prog 5 25)).seq (Code.cond (.tmp 122) ((regN Try.prog 5 26)) (((regN Try.prog 5 27)).seq (Code.cond (.tmp 136) ((regN Try.prog 5 28)) (((regN Try.prog 5 29)).seq (Code.cond (.tmp 146) ((regN Try.prog 5 30)) (((regN Try.prog 5 31)).seq (Code.cond (.tmp 149) ((regN Try.prog 5 32)) (((regN Try.prog 5 33)).seq (Code.cond (.tmp 153) ((regN Try.prog 5 34)) (((regN Try.prog 5 35)).seq (Code.cond (.tmp 156) ((regN Try.prog 5 36)) (((regN Try.prog 5 37)).seq (Code.cond (.tmp 159) ((regN Try.prog 5 38)) ((regN Try.prog 5 39)))))))))))))))))))))))))))))).seq (((regN Try.prog 5 40)).seq Code.ret)))))))))) := by kernel_rfl
end
section
open Go.RowKit
set_option linter.unusedSimpArgs false
set_option linter.unusedVariables false
set_option linter.unusedSectionVars false
set_option maxRecDepth 100000
variable [Inhabited RawG]
theorem cr0 {ps : List PoolT} {cn : ByteArray} {re co rs dl rq cs br bs bm by_ en li he ct bo : Int} {q : Nat}  : CodeOK Try.prog (regN Try.prog 13 0) (mkF [(0, .agg #[.string cn, .slice (some ⟨0, 0, some 2⟩) ps.length 0, .int .i64 re, .int .i64 co, .int .i64 rs, .int .i64 dl, .int .i64 rq, .int .i64 cs, .int .i64 br, .int .i64 bs, .int .i64 bm, .int .i64 by_, .int .i64 en, .float .f64 q, .int .i64 li, .int .i64 he, .int .i64 ct, .int .i64 bo])] 35 0) [] 0 ⟨.normal, mkF [(1, .pointer (some ⟨0, 0, none⟩)), (2, .pointer (some ⟨64, 0, none⟩))] 35 0, [(0, ⟨29, [.string cn, .slice (some ⟨0, 0, some 2⟩) ps.length 0, .int .i64 re, .int .i64 co, .int .i64 rs, .int .i64 dl, .int .i64 rq, .int .i64 cs, .int .i64 br, .int .i64 bs, .int .i64 bm, .int .i64 by_, .int .i64 en, .float .f64 q, .int .i64 li, .int .i64 he, .int .i64 ct, .int .i64 bo], 0⟩), (64, ⟨29, zero18, 0⟩)], 128, []⟩ :=
  codeOK_of callC_spec mixed (ω := []) (LF := 10) (n := 100) (keys := [1, 2]) (ids := [0, 64]) (ps := []) (by kernel_rfl) ob_nil
theorem cr1 {ps : List PoolT} {cn : ByteArray} {re co rs dl rq cs br bs bm by_ en li he ct bo : Int} {q : Nat} (hc : rg.cells 0 = ps.flatMap poolF) (hp : 0 < ps.length) (h9 : ps.length ≤ 9000000000) : CodeOK Try.prog (regN Try.prog 13 1) (mkF [(1, .pointer (some ⟨0, 0, none⟩)), (2, .pointer (some ⟨64, 0, none⟩))] 35 0) [(0, ⟨29, [.string cn, .slice (some ⟨0, 0, some 2⟩) ps.length 0, .int .i64 re, .int .i64 co, .int .i64 rs, .int .i64 dl, .int .i64 rq, .int .i64 cs, .int .i64 br, .int .i64 bs, .int .i64 bm, .int .i64 by_, .int .i64 en, .float .f64 q, .int .i64 li, .int .i64 he, .int .i64 ct, .int .i64 bo], 0⟩), (64, ⟨29, zero18, 0⟩)] 128 ⟨.normal, mkF [(1, .pointer (some ⟨0, 0, none⟩)), (2, .pointer (some ⟨64, 0, none⟩))] 35 0, [(0, ⟨29, [.string cn, .slice (some ⟨256, 0, none⟩) ps.length ps.length, .int .i64 re, .int .i64 co, .int .i64 rs, .int .i64 dl, .int .i64 rq, .int .i64 cs, .int .i64 br, .int .i64 bs, .int .i64 bm, .int .i64 by_, .int .i64 en, .float .f64 q, .int .i64 li, .int .i64 he, .int .i64 ct, .int .i64 bo], 0⟩), (64, ⟨29, zero18, 0⟩), (256, ⟨46, ps.flatMap poolF, 3⟩)], 448, []⟩ :=
  codeOK_of callC_spec mixed (ω := [(256, OV.call (Value.slice (some ⟨320, 0, none⟩) ps.length ps.length) [(320, ⟨46, List.flatMap poolF ps, 3⟩)])]) (LF := 10) (n := 100) (keys := [1, 2]) (ids := [0, 64, 256]) (ps := [CallOK Try.prog 32 [Value.slice (some { block := 0, off := 0, spot := some 2 }) ps.length 0] [] 0 (Value.slice (some ⟨320, 0, none⟩) ps.length ps.length) [(320, ⟨46, List.flatMap poolF ps, 3⟩)]]) (by kernel_rfl) (ob_cons (clone_p hc hp h9) ob_nil)
theorem cr2 {ps : List PoolT} {cn : ByteArray} {re co rs dl rq cs br bs bm by_ en li he ct bo : Int} {q : Nat}  : CodeOK Try.prog (regN Try.prog 13 2) (mkF [(1, .pointer (some ⟨0, 0, none⟩)), (2, .pointer (some ⟨64, 0, none⟩))] 35 0) [(0, ⟨29, [.string cn, .slice (some ⟨256, 0, none⟩) ps.length ps.length, .int .i64 re, .int .i64 co, .int .i64 rs, .int .i64 dl, .int .i64 rq, .int .i64 cs, .int .i64 br, .int .i64 bs, .int .i64 bm, .int .i64 by_, .int .i64 en, .float .f64 q, .int .i64 li, .int .i64 he, .int .i64 ct, .int .i64 bo], 0⟩), (64, ⟨29, zero18, 0⟩), (256, ⟨46, ps.flatMap poolF, 3⟩)] 448 ⟨.normal, mkF [(1, .pointer (some ⟨0, 0, none⟩)), (2, .pointer (some ⟨64, 0, none⟩)), (10, .slice (some ⟨256, 0, none⟩) ps.length ps.length), (11, .int .i64 (ps.length : Int)), (12, .int .i64 ((0 : Nat) : Int))] 35 0, [(0, ⟨29, [.string cn, .slice (some ⟨256, 0, none⟩) ps.length ps.length, .int .i64 re, .int .i64 co, .int .i64 rs, .int .i64 dl, .int .i64 rq, .int .i64 cs, .int .i64 br, .int .i64 bs, .int .i64 bm, .int .i64 by_, .int .i64 en, .float .f64 q, .int .i64 li, .int .i64 he, .int .i64 ct, .int .i64 bo], 0⟩), (64, ⟨29, zero18, 0⟩), (256, ⟨46, ps.flatMap poolF, 3⟩)], 704, []⟩ :=
  codeOK_of callC_spec mixed (ω := []) (LF := 10) (n := 100) (keys := [1, 2, 10, 11, 12]) (ids := [0, 64, 256]) (ps := []) (by kernel_rfl) ob_nil
theorem cr7 {n : Nat} {cn : ByteArray} {re co rs dl rq cs br bs bm by_ en li he ct bo : Int} {q : Nat}  : CodeOK Try.prog (regN Try.prog 13 7) (mkF [(1, .pointer (some ⟨0, 0, none⟩)), (2, .pointer (some ⟨1, 0, none⟩))] 35 0) [(0, ⟨29, [.string cn, .slice (some ⟨2, 0, none⟩) n n, .int .i64 re, .int .i64 co, .int .i64 rs, .int .i64 dl, .int .i64 rq, .int .i64 cs, .int .i64 br, .int .i64 bs, .int .i64 bm, .int .i64 by_, .int .i64 en, .float .f64 q, .int .i64 li, .int .i64 he, .int .i64 ct, .int .i64 bo], 0⟩), (1, ⟨29, zero18, 0⟩)] 3 ⟨.normal, mkF [(2, .pointer (some ⟨1, 0, none⟩))] 35 0, [(1, ⟨29, [.string cn, .slice (some ⟨2, 0, none⟩) n n, .int .i64 re, .int .i64 co, .int .i64 rs, .int .i64 dl, .int .i64 rq, .int .i64 cs, .int .i64 br, .int .i64 bs, .int .i64 bm, .int .i64 by_, .int .i64 en, .float .f64 q, .int .i64 li, .int .i64 he, .int .i64 ct, .int .i64 bo], 0⟩)], 131, []⟩ :=
  codeOK_of callC_spec mixed (ω := []) (LF := 10) (n := 100) (keys := [2]) (ids := [1]) (ps := []) (by kernel_rfl) ob_nil
end
section
open Go.RowKit
set_option linter.unusedSimpArgs false
set_option linter.unusedVariables false
set_option linter.unusedSectionVars false
set_option maxRecDepth 100000
theorem vr_aggL [Inhabited RawG] {D : Nat → Prop} {ρ : Nat → Pl} {xs ys : List Value} (hl : xs.length = ys.length) (h : ∀ (i : Nat) (v : Value), xs[i]? = some v → ∃ u, ys[i]? = some u ∧ VR D ρ v u) : VR D ρ (.agg xs.toArray) (.agg ys.toArray) := by
  refine .agg _ _ (by simpa using hl) fun i => ?_
  by_cases hi : i < xs.length
  · obtain ⟨u, hu, hr⟩ := h i _ (List.getElem?_eq_getElem hi)
    obtain ⟨hi2, rfl⟩ := List.getElem?_eq_some_iff.1 hu
    simpa [Array.getD, hi, hi2] using hr
  · have hi2 : ¬ i < ys.length := by omega
    simpa [Array.getD, hi, hi2] using VR.und
theorem img_agg [Inhabited RawG] {D : Nat → Prop} {ρ : Nat → Pl} {xs : List Value} {u : Value} (h : VR D ρ (.agg xs.toArray) u) (hg : xs.all goodV = true) : u = .agg (xs.map (imgV ρ)).toArray := by
  obtain ⟨ys, rfl, hs, hv⟩ := h.agg_inv
  congr 1
  apply Array.ext (by simpa using hs.symm)
  intro i h1 h2
  have h3 := hv i
  have hi : i < xs.length := by simpa using h2
  simp only [Array.getD, List.size_toArray, hi, h1, dite_true, Array.getInternal_eq_getElem, List.getElem_toArray] at h3
  rw [h3.img (List.all_eq_true.1 hg _ (List.getElem_mem hi))]
  simp
theorem numS_get {M : List PX} {off j : Nat} (h : j < M.length) : (numS M off).getD j default = numX (M.getD j default) (off + j) := by
  unfold numS
  rw [List.getD_eq_getElem?_getD, List.getElem?_map, List.getElem?_range h]; rfl
theorem poolF_hd (l : List PoolT) : l.flatMap poolF = (l.map hdP).flatMap realP := by
  rw [List.flatMap_map]; rfl
theorem hdS_get {M : List PX} {off j : Nat} (h : j < M.length) : ((numS M off).map hdP).getD j default = hdP (numX (M.getD j default) (off + j)) := by
  unfold numS
  rw [List.getD_eq_getElem?_getD, List.getElem?_map, List.getElem?_map, List.getElem?_range h]; rfl
/-- A row of pools that came in. -/
theorem rawAt_pools {E0 E1 : Ent} {L M : List PX} {w : World} {oa : Option Addr} {c off i : Nat} (h : entQ E0 E1 L i = (oa, M.length, c, (numS M off).flatMap poolF)) (hM : ∀ j, j < M.length → L.getD (off + j) default = M.getD j default) (ho : Opn w realP M oa c) (hL : ∀ t ∈ L, okW w t) : @RawAt ⟨rawOf (entQ E0 E1 L)⟩ w i := by
  refine rawAt_of _ h ho.le (fun hp he => ?_) (fun hne => ?_)
  · have h1 := congrArg List.length he
    rw [flatMap_len pool16, numS_len] at h1
    simp only [List.length_nil] at h1
    omega
  · have hp : 0 < M.length := by
      rcases Nat.eq_zero_or_pos M.length with h0 | h0
      · obtain rfl := List.eq_nil_of_length_eq_zero h0
        exact absurd rfl hne
      · exact h0
    obtain ⟨a, e1, e2, cs, el, fz, e3, e4⟩ := ho.row hp
    refine ⟨a, e1, e2, cs, el, fz, e3, fun j v hv => ?_⟩
    rw [poolF_hd] at hv
    obtain ⟨u, hu, hr⟩ := rel_rows (R := fun v u => @VR ⟨rawOf (entQ E0 E1 L)⟩ (fun _ => False) (fun _ => default) v u) (fun v h => @VR.scal ⟨rawOf (entQ E0 E1 L)⟩ _ _ v h) (A := (numS M off).map hdP) (B := M) (by simp [numS]) (fun j hj => by
      have hj' : j < M.length := by simpa [numS] using hj
      rw [hdS_get hj', ← hM j hj']
      exact ⟨rfl, vr_h hL (off + j), vr_b hL (off + j)⟩) j v hv
    exact ⟨u, e4 j u hu, hr⟩
theorem rounds_mono {P : Program} {c : Code} {Q Q' : Exit → Act → World → Prop} (hq : ∀ e a w, Q e a w → Q' e a w) : ∀ (m : Nat) (a : Act) (w : World), Code.rounds P c Q m a w → Code.rounds P c Q' m a w
  | 0, a, w, h => h
  | m + 1, a, w, h => by
    refine wp_mono h ?_
    intro e a2 w2 h2
    cases e <;> first | exact rounds_mono hq m _ _ h2 | exact hq _ _ _ h2
/-- What a function answers whose result is one value. -/
theorem ret_one [Inhabited RawG] {ds : List Deferred} {P : Program} {D : Nat → Prop} {ρ : Nat → Pl} {fr : List Value} {H : Heap} {a : Act} {w : World} {fn : Func} {v : Value} (hf : FR ds D ρ fr a) (hw : WR (szP P) D ρ (hget H) w) (hr : resL P fr H fn.results.toList = some [v]) : ∃ u, VR D ρ v u ∧ (results fn a.tmps).run P w = .ok u w := by
  obtain ⟨us, u1, u2, u3⟩ := results_spec hf hw fn.results.toList [v] hr
  match us, u1 with
  | [u], _ =>
    refine ⟨u, u2 0, ?_⟩
    have he : results fn a.tmps = (do let vs ← fn.results.mapM (resRun a.tmps); pure (if h : vs.size = 1 then vs[0] else .tuple vs)) := by
      unfold results
      congr 2
    rw [he, Array.mapM_eq_mapM_toList]
    simp only [Sem.run_bind, Sem.run_map, u3, Result.andThen_ok, Sem.run_pure]
    rfl
/-- A copy: its pools have the same contents, in rows of their own. -/
structure CopyOf (n0 : Nat) (Lc R : List PX) (Bd cap : Nat) (w : World) : Prop where
  len : R.length = Lc.length
  data : ∀ j, (R.getD j default).1 = (Lc.getD j default).1
  ok : ∀ t ∈ R, okW w t
  own : ∀ t ∈ R, OwnX n0 w t
  row : RowAt w Bd 46 cap 16 (R.flatMap realP)
  ge : n0 ≤ Bd
  nd : (Bd :: R.flatMap blks).Nodup
theorem nt13 : Try.f13.ntmps = 35 := by kernel_rfl
theorem act_one {fn : Func} {n : Nat} {y : Value} {a : Act} (hn : fn.ntmps = n + 0) (ha : a = { tmps := #[y] ++ Array.replicate (fn.ntmps - #[y].size) undef, defers := [] }) (h1 : 0 < n := by decide) : a.tmps.size = n ∧ a.defers = [] ∧ a.tmps.getD 0 undef = y := by
  subst ha
  refine ⟨?_, rfl, ?_⟩
  · simp [hn]; omega
  · rw [Array.getD_eq_getD_getElem?, Array.getElem?_append_left (by simp)]; rfl
theorem copy_ok {w0 : World} {K : CfgS} {Lc : List PX} {oa : Option Addr} {cc : Nat} (hok : ∀ t ∈ Lc, okW w0 t) (ho : Opn w0 realP Lc oa cc) (hp : 0 < Lc.length) (h9 : Lc.length ≤ 9000000000) (hl : ∀ t ∈ Lc, t.1.hs.length ≤ 9000000000 ∧ t.1.bk.length ≤ 9000000000) :
    Calls Try.prog 13 #[.agg (cfgC K (.slice oa Lc.length cc)).toArray] w0 (fun e w1 => ∃ (R : List PX) (Bd cap : Nat), e = .returned (.agg (cfgC K (.slice (some ⟨Bd, 0, none⟩) Lc.length cap)).toArray) ∧ CopyOf w0.heap.size Lc R Bd cap w1 ∧ Below w0.heap.size w0 w1) := by
  letI : Inhabited RawG := ⟨rawOf (entQ (oa, Lc.length, cc, (numS Lc 0).flatMap poolF) entD Lc)⟩
  have hps : (numS Lc 0).length = Lc.length := numS_len _ _
  have r0 : RawAt w0 0 := rawAt_pools (M := Lc) (off := 0) rfl (fun j _ => by rw [Nat.zero_add]) ho hok
  have hraw : ∀ i, RawAt w0 i := rawL r0 (rawAt_none _ rfl) hok
  have hw0 : WR (szP Try.prog) (fun _ => False) (fun _ => default) (hget []) w0 := wr_mk (fun b k hg => (hget_nil _ _ hg).elim) (fun b c k l hb => (hget_nil _ _ hb).elim) hraw (fun i a hc ha b k hg => (hget_nil _ _ hg).elim)
  have hv0 : VR (fun _ => False) (fun _ => default) (.agg (cfgC K (.slice (some ⟨0, 0, some 2⟩) (numS Lc 0).length 0)).toArray) (.agg (cfgC K (.slice oa Lc.length cc)).toArray) :=
    vr_aggL rfl (cfg_rel (fun v h => .scal v h) (by rw [hps]; exact vr_opq _ entQ0))
  refine calls_of_wp Try.func13 body13 ?_
  obtain ⟨y0, hy0⟩ : ∃ y0, y0 = Value.agg (cfgC K (.slice oa Lc.length cc)).toArray := ⟨_, rfl⟩
  rw [← hy0] at hv0 ⊢
  obtain ⟨a0, ha0⟩ : ∃ a0 : Act, a0 = { tmps := #[y0] ++ Array.replicate (Try.f13.ntmps - #[y0].size) undef, defers := [] } := ⟨_, rfl⟩
  rw [← ha0]
  obtain ⟨az, ad, a00⟩ := act_one (n := 35) nt13 ha0
  refine wp_seq ?_
  have hf0 : FR [] (fun _ => False) (fun _ => default) (mkF [(0, .agg #[.string K.cn, .slice (some ⟨0, 0, some 2⟩) (numS Lc 0).length 0, .int .i64 K.re, .int .i64 K.co, .int .i64 K.rs, .int .i64 K.dl, .int .i64 K.rq, .int .i64 K.cs, .int .i64 K.br, .int .i64 K.bs, .int .i64 K.bm, .int .i64 K.by_, .int .i64 K.en, .float .f64 K.q, .int .i64 K.li, .int .i64 K.he, .int .i64 K.ct, .int .i64 K.bo])] 35 0) a0 := by
    refine fr_mk az ad fun t v h => ?_
    simp only [List.mem_cons, Prod.mk.injEq, List.not_mem_nil, or_false] at h
    obtain ⟨rfl, rfl⟩ := h
    rw [a00]
    exact hv0
  refine wp_mono (cr0 (ps := (numS Lc 0)) (cn := K.cn) (re := K.re) (co := K.co) (rs := K.rs) (dl := K.dl) (rq := K.rq) (cs := K.cs) (br := K.br) (bs := K.bs) (bm := K.bm) (by_ := K.by_) (en := K.en) (li := K.li) (he := K.he) (ct := K.ct) (bo := K.bo) (q := K.q) _ _ _ _ (fun b h => h.elim) hf0 hw0) ?_
  rintro e a1 w1 ⟨rfl, l1, D1, ρ1, t1, fr1, b1, c1⟩
  refine wp_seq (wp_mono (cr1 (ps := (numS Lc 0)) (cn := K.cn) (re := K.re) (co := K.co) (rs := K.rs) (dl := K.dl) (rq := K.rq) (cs := K.cs) (br := K.br) (bs := K.bs) (bm := K.bm) (by_ := K.by_) (en := K.en) (li := K.li) (he := K.he) (ct := K.ct) (bo := K.bo) (q := K.q) rfl (by omega) (by omega) _ _ _ _ b1 fr1 t1.wr) ?_)
  rintro e a2 w2 ⟨rfl, l2, D2, ρ2, t2, fr2, b2, c2⟩
  refine wp_seq (wp_seq (wp_mono (cr2 (ps := (numS Lc 0)) (cn := K.cn) (re := K.re) (co := K.co) (rs := K.rs) (dl := K.dl) (rq := K.rq) (cs := K.cs) (br := K.br) (bs := K.bs) (bm := K.bm) (by_ := K.by_) (en := K.en) (li := K.li) (he := K.he) (ct := K.ct) (bo := K.bo) (q := K.q) _ _ _ _ b2 fr2 t2.wr) ?_))
  rintro e a3 w3 ⟨rfl, l3, D3, ρ3, t3, fr3, b3, c3⟩
  have hT := (t1.trans t2).trans t3
  have hw3 := hT.wr
  have bel : Below w0.heap.size w0 w3 := ⟨hT.os, hT.tape, hT.output, hT.size, fun k hk => t_keep hT hk fun b k hb => (hget_nil _ _ hb).elim⟩
  have fresh : ∀ id k, hget [(0, ⟨29, [.string K.cn, .slice (some ⟨256, 0, none⟩) (numS Lc 0).length (numS Lc 0).length, .int .i64 K.re, .int .i64 K.co, .int .i64 K.rs, .int .i64 K.dl, .int .i64 K.rq, .int .i64 K.cs, .int .i64 K.br, .int .i64 K.bs, .int .i64 K.bm, .int .i64 K.by_, .int .i64 K.en, .float .f64 K.q, .int .i64 K.li, .int .i64 K.he, .int .i64 K.ct, .int .i64 K.bo], 0⟩), (64, ⟨29, zero18, 0⟩), (256, ⟨46, (numS Lc 0).flatMap poolF, 3⟩)] id = some k → k.mode ≠ 2 → w0.heap.size ≤ (ρ3 id).blk := fun id k hk hm => t_new hw0 hT hk hm fun c l hc => (hget_nil _ _ hc).elim
  have n1 := fresh 0 _ rfl (show (0 : Nat) ≠ 2 by decide)
  have n2 := fresh 64 _ rfl (show (0 : Nat) ≠ 2 by decide)
  have n3 := fresh 256 _ rfl (show (3 : Nat) ≠ 2 by decide)
  have s12 := hw3.sep 0 64 _ _ rfl rfl (by decide) (.inl (show (0 : Nat) ≠ 2 by decide))
  have s13 := hw3.sep 0 256 _ _ rfl rfl (by decide) (.inl (show (0 : Nat) ≠ 2 by decide))
  have s23 := hw3.sep 64 256 _ _ rfl rfl (by decide) (.inl (show (0 : Nat) ≠ 2 by decide))
  obtain ⟨oB, cB, fzB, hB, gB⟩ := box_cells (hw3.here 0 _ rfl) rfl rfl
  obtain ⟨oR, cR, fzR, hR, gR⟩ := box_cells (hw3.here 64 _ rfl) rfl rfl
  have hgood : ∀ v ∈ (numS Lc 0).flatMap poolF, goodV v = true := fun v hv => by
    obtain ⟨t, _, hv⟩ := List.mem_flatMap.1 hv
    exact realP_good (t := hdP t) rfl rfl v hv
  obtain ⟨oD, cap, cD, hD⟩ := row_cells (hw3.here 256 _ rfl) (el := 46) (sz := 16) (show 3 % 2 = 1 by decide) rfl (by kernel_rfl) hgood
  have hrow : ((numS Lc 0).flatMap poolF).map (imgV ρ3) = Lc.flatMap realP := by
    rw [poolF_hd]
    refine row_img (by simp [numS]) fun j hj => ?_
    rw [hdS_get hj]
    have v1 := (vr_h (E0 := (oa, Lc.length, cc, (numS Lc 0).flatMap poolF)) (E1 := entD) (D := D3) (ρ := ρ3) hok (0 + j)).img rfl
    have v2 := (vr_b (E0 := (oa, Lc.length, cc, (numS Lc 0).flatMap poolF)) (E1 := entD) (D := D3) (ρ := ρ3) hok (0 + j)).img rfl
    rw [Nat.zero_add] at v1 v2 ⊢
    show realP ((numX (Lc.getD j default) j), imgV ρ3 (.slice (some ⟨2 + 2 * j, 0, some 2⟩) (Lc.getD j default).1.hs.length 0), imgV ρ3 (.slice (some ⟨3 + 2 * j, 0, some 2⟩) (Lc.getD j default).1.bk.length 0)) = _
    rw [← v1, ← v2]
    rfl
  have eD : imgV ρ3 (.slice (some ⟨256, 0, none⟩) (numS Lc 0).length (numS Lc 0).length) = .slice (some ⟨(ρ3 256).blk, 0, none⟩) Lc.length cap := by
    show Value.slice (some ⟨(ρ3 256).blk, (ρ3 256).off, none⟩) (numS Lc 0).length ((ρ3 256).cap.getD (numS Lc 0).length) = _
    rw [oD, cD, hps]; rfl
  have hlt : ∀ t ∈ Lc, ∀ b ∈ blks t, b < w0.heap.size := fun t ht b hb => okW_lt (hok t ht) hb
  have hI : CpInv w0.heap.size w0 K Lc 0 (ρ3 0).blk (ρ3 64).blk (ρ3 256).blk cap Lc a3 w3 := by
    constructor
    · rw [fr3.size, mkF_len]
    · exact fr3.defers
    · have h1 := (fr_get fr3 (t := 1) rfl rfl).img rfl
      rw [h1]
      show Value.pointer (some ⟨(ρ3 0).blk, (ρ3 0).off + 0, none⟩) = _
      rw [oB]
    · have h1 := (fr_get fr3 (t := 2) rfl rfl).img rfl
      rw [h1]
      show Value.pointer (some ⟨(ρ3 64).blk, (ρ3 64).off + 0, none⟩) = _
      rw [oR]
    · have h1 := (fr_get fr3 (t := 10) (v := .slice (some ⟨256, 0, none⟩) (numS Lc 0).length (numS Lc 0).length) rfl rfl).img rfl
      rw [h1, eD]
    · have h1 := (fr_get fr3 (t := 11) rfl rfl).int_inv
      rw [h1, hps]
    · exact (fr_get fr3 (t := 12) rfl rfl).int_inv
    · refine ⟨fzB, ?_, gB⟩
      have e9 : (ABlk.cells ⟨29, cfgC K (.slice (some ⟨256, 0, none⟩) (numS Lc 0).length (numS Lc 0).length), 0⟩).map (imgV ρ3) = cfgC K (.slice (some ⟨(ρ3 256).blk, 0, none⟩) Lc.length cap) := by
        show cfgC K (imgV ρ3 (.slice (some ⟨256, 0, none⟩) (numS Lc 0).length (numS Lc 0).length)) = _
        rw [eD]
      rw [← e9]
      exact hB
    · exact ⟨fzR, hR, gR⟩
    · rw [← hrow]; exact hD
    · rfl
    · exact fun j => rfl
    · exact fun j _ => rfl
    · exact fun t ht => okW_below (hok t ht) bel
    · exact fun j hj => absurd hj (Nat.not_lt_zero j)
    · exact List.nodup_nil
    · intro t ht b hb
      have := hlt t ht b hb
      omega
    · exact ⟨n1, n2, n3, s12, s13, s23⟩
    · exact bel
  refine wp_block (wp_loop_rounds (Lc.length + 1) (rounds_mono ?_ _ _ _ (cp_rounds h9 hl Lc.length 0 Lc a3 w3 (by omega) hI)))
  rintro e a4 w4 ⟨rfl, R, hE⟩
  show (Code.seq (regN Try.prog 13 7) Code.ret).wp Try.prog _ a4 w4
  have hx := hE.ge
  have hn : R.length = Lc.length := hE.len
  letI : Inhabited RawG := ⟨⟨fun _ => none, fun _ => 0, fun _ => 0, fun _ => []⟩⟩
  have hsl : VR (fun b => b < 3) (rhoC (ρ3 0).blk (ρ3 64).blk (ρ3 256).blk cap) (.slice (some ⟨2, 0, none⟩) R.length R.length) (.slice (some ⟨(ρ3 256).blk, 0, none⟩) R.length cap) :=
    VR.slice (D := fun b => b < 3) (ρ := rhoC (ρ3 0).blk (ρ3 64).blk (ρ3 256).blk cap) 2 0 R.length R.length cap (by decide) hE.capn (fun h => by cases h) (fun c h _ => by cases h; rfl)
  have hf4 : FR [] (fun b => b < 3) (rhoC (ρ3 0).blk (ρ3 64).blk (ρ3 256).blk cap) (mkF [(1, .pointer (some ⟨0, 0, none⟩)), (2, .pointer (some ⟨1, 0, none⟩))] 35 0) a4 := by
    refine fr_mk hE.size hE.defers fun t v h => ?_
    simp only [List.mem_cons, Prod.mk.injEq, List.not_mem_nil, or_false] at h
    rcases h with ⟨rfl, rfl⟩ | ⟨rfl, rfl⟩
    · rw [hE.t1]; exact VR.ptr (ρ := rhoC (ρ3 0).blk (ρ3 64).blk (ρ3 256).blk cap) 0 0 (by decide)
    · rw [hE.t2]; exact VR.ptr (ρ := rhoC (ρ3 0).blk (ρ3 64).blk (ρ3 256).blk cap) 1 0 (by decide)
  have inH : ∀ c l, hget [(0, ⟨29, cfgC K (.slice (some ⟨2, 0, none⟩) R.length R.length), 0⟩), (1, ⟨29, zero18, 0⟩)] c = some l → c = 0 ∨ c = 1 := fun c l hc => by
    rcases hget_cons hc with ⟨rfl, _⟩ | hc
    · exact .inl rfl
    · rcases hget_cons hc with ⟨rfl, _⟩ | hc
      · exact .inr rfl
      · exact (hget_nil _ _ hc).elim
  have hw4 : WR (szP Try.prog) (fun b => b < 3) (rhoC (ρ3 0).blk (ρ3 64).blk (ρ3 256).blk cap) (hget [(0, ⟨29, cfgC K (.slice (some ⟨2, 0, none⟩) R.length R.length), 0⟩), (1, ⟨29, zero18, 0⟩)]) w4 := by
    refine wr_mk (fun b k hg => ?_) (fun b c k l hb hc hne => ?_) (fun i => ⟨Nat.le_refl _, fun h => absurd h (Nat.lt_irrefl 0), fun h => absurd rfl h⟩) (fun i a hc => absurd rfl hc)
    · rcases hget_cons hg with ⟨rfl, rfl⟩ | hg
      · obtain ⟨fz, h1, h2⟩ := hE.box
        exact ⟨by decide, br_box (p := ⟨(ρ3 0).blk, 0, none⟩) rfl rfl h1 h2 rfl (cfg_rel (fun v h => .scal v h) hsl)⟩
      · rcases hget_cons hg with ⟨rfl, rfl⟩ | hg
        · obtain ⟨fz, h1, h2⟩ := hE.res
          exact ⟨by decide, br_box (p := ⟨(ρ3 64).blk, 0, none⟩) rfl rfl h1 h2 rfl (fun i v hv => ⟨v, hv, .scal v (by
            have : ∀ v ∈ zero18, flat0 v = true := by decide
            exact this v (List.mem_of_getElem? hv))⟩)⟩
        · exact (hget_nil _ _ hg).elim
    · rcases inH b k hb with rfl | rfl <;> rcases inH c l hc with rfl | rfl
      · exact absurd rfl hne
      · exact hx.2.2.2.1
      · exact Ne.symm hx.2.2.2.1
      · exact absurd rfl hne
  refine wp_seq (wp_mono (cr7 (n := R.length) (cn := K.cn) (re := K.re) (co := K.co) (rs := K.rs) (dl := K.dl) (rq := K.rq) (cs := K.cs) (br := K.br) (bs := K.bs) (bm := K.bm) (by_ := K.by_) (en := K.en) (li := K.li) (he := K.he) (ct := K.ct) (bo := K.bo) (q := K.q) _ _ _ _ (fun b h => h) hf4 hw4) ?_)
  rintro e a5 w5 ⟨rfl, l5, D5, ρ5, t5, fr5, b5, c5⟩
  refine wp_ret ⟨fr5.defers, ?_⟩
  obtain ⟨u, hu, hrun⟩ := ret_one (fn := Try.f13) (v := .agg (cfgC K (.slice (some ⟨2, 0, none⟩) R.length R.length)).toArray) fr5 t5.wr (by kernel_rfl)
  refine ⟨u, hrun, ?_⟩
  have e5 : ρ5 2 = ⟨(ρ3 256).blk, 0, some cap⟩ := t5.same 2 (show (2 : Nat) < 3 by decide)
  have eU : imgV ρ5 (.slice (some ⟨2, 0, none⟩) R.length R.length) = .slice (some ⟨(ρ3 256).blk, 0, none⟩) Lc.length cap := by
    show Value.slice (some ⟨(ρ5 2).blk, (ρ5 2).off, none⟩) R.length ((ρ5 2).cap.getD R.length) = _
    rw [e5, hn]; rfl
  have hu2 := img_agg hu rfl
  have keep : ∀ b, b < w4.heap.size → b ≠ (ρ3 0).blk → b ≠ (ρ3 64).blk → w5.heap[b]? = w4.heap[b]? := fun b h1 h2 h3 =>
    t_keep t5 h1 fun c k hc => by
      rcases inH c k hc with rfl | rfl
      · exact Ne.symm h2
      · exact Ne.symm h3
  have keepX : ∀ t ∈ R, ∀ b ∈ blks t, w5.heap[b]? = w4.heap[b]? := fun t ht b hb => by
    obtain ⟨f1, f2, f3⟩ := hE.far t ht b hb
    exact keep b (okW_lt (hE.ok t ht) hb) f1 f2
  have memJ : ∀ t ∈ R, ∃ j, j < Lc.length ∧ R.getD j default = t := fun t ht => by
    obtain ⟨j, hj, rfl⟩ := List.mem_iff_getElem.1 ht
    exact ⟨j, by omega, by rw [List.getD_eq_getElem?_getD, List.getElem?_eq_getElem hj]; rfl⟩
  refine ⟨R, (ρ3 256).blk, cap, ?_, ⟨hn, hE.data, fun t ht => okW_keep (hE.ok t ht) (keepX t ht), fun t ht => ?_, ?_, hx.2.2.1, ?_⟩, ?_⟩
  · rw [hu2]
    show Ending.returned (.agg (cfgC K (imgV ρ5 (.slice (some ⟨2, 0, none⟩) R.length R.length))).toArray) = _
    rw [eU]
  · obtain ⟨j, hj, rfl⟩ := memJ t ht
    exact ownX_keep (hE.own j hj) (keepX _ ht)
  · exact rowAt_keep hE.row (keep _ (rowAt_lt hE.row) (by omega) (by omega))
  · refine List.nodup_cons.2 ⟨fun hm => ?_, ?_⟩
    · obtain ⟨t, ht, hb⟩ := List.mem_flatMap.1 hm
      exact (hE.far t ht _ hb).2.2 rfl
    · have := hE.nd
      rwa [← hn, List.take_length] at this
  · refine hE.bel.trans ⟨t5.os, t5.tape, t5.output, t5.size, fun k hk => ?_⟩
    have := hE.bel.size
    exact keep k (by omega) (by omega) (by omega)
end
section
open Go.RowKit
set_option linter.unusedSimpArgs false
set_option linter.unusedVariables false
set_option linter.unusedSectionVars false
set_option maxRecDepth 100000
open Go.Deep Go.RowKit
def opK (c : Code) (k : Nat) : Oper :=
  match c with
  | .region _ ops _ => ops.getD k default
  | _ => default
/-- The region of a copy: load, call, alloc, store. -/
structure CopyReg (c : Code) (x t u p : Nat) : Prop where
  is : ∃ (id : Nat) (o1 o2 o3 o4 : Oper), c = .region id [o1, o2, o3, o4].toArray false ∧ (o1.op = .load 29 (.tmp x) ∧ o1.dst = some t ∧ o1.guard = none) ∧ (o2.op = .call { callee := .value (.func 13), args := #[.tmp t], argTypes := #[29] } ∧ o2.dst = some u ∧ o2.guard = none) ∧
    (o3.op = .alloc 29 ∧ o3.dst = some p ∧ o3.guard = none) ∧ (o4.op = .store 29 (.tmp p) (.tmp u) ∧ o4.dst = none ∧ o4.guard = none)
theorem reg5 : CopyReg (regN Try.prog 5 5) 3 20 21 7 := ⟨5, opK (regN Try.prog 5 5) 0, opK (regN Try.prog 5 5) 1, opK (regN Try.prog 5 5) 2, opK (regN Try.prog 5 5) 3, by kernel_rfl, ⟨by kernel_rfl, by kernel_rfl, by kernel_rfl⟩, ⟨by kernel_rfl, by kernel_rfl, by kernel_rfl⟩, ⟨by kernel_rfl, by kernel_rfl, by kernel_rfl⟩, ⟨by kernel_rfl, by kernel_rfl, by kernel_rfl⟩⟩
theorem reg4a : CopyReg (regN Try.prog 4 5) 2 16 17 5 := ⟨5, opK (regN Try.prog 4 5) 0, opK (regN Try.prog 4 5) 1, opK (regN Try.prog 4 5) 2, opK (regN Try.prog 4 5) 3, by kernel_rfl, ⟨by kernel_rfl, by kernel_rfl, by kernel_rfl⟩, ⟨by kernel_rfl, by kernel_rfl, by kernel_rfl⟩, ⟨by kernel_rfl, by kernel_rfl, by kernel_rfl⟩, ⟨by kernel_rfl, by kernel_rfl, by kernel_rfl⟩⟩
theorem reg4b : CopyReg (regN Try.prog 4 8) 2 29 30 6 := ⟨8, opK (regN Try.prog 4 8) 0, opK (regN Try.prog 4 8) 1, opK (regN Try.prog 4 8) 2, opK (regN Try.prog 4 8) 3, by kernel_rfl, ⟨by kernel_rfl, by kernel_rfl, by kernel_rfl⟩, ⟨by kernel_rfl, by kernel_rfl, by kernel_rfl⟩, ⟨by kernel_rfl, by kernel_rfl, by kernel_rfl⟩, ⟨by kernel_rfl, by kernel_rfl, by kernel_rfl⟩⟩
section
variable {o : Oper} {a : Act} {w : World} {x t u p B : Nat} {cs : List Value} {fz : Nat × Nat}
theorem pv29 : peval Try.prog (sizeOf 29) = some 18 := by kernel_rfl
theorem pa29 : peval Try.prog (isAgg 29) = some true := by kernel_rfl
theorem pz29 : peval Try.prog (zeroValue 29) = some (.agg zero18.toArray) := by kernel_rfl
theorem op_load18 (ho : o.op = .load 29 (.tmp x)) (hx : a.tmps.getD x undef = .pointer (some ⟨B, 0, none⟩)) (hb : w.heap[B]? = some (.cells cs.toArray 29 fz)) (hl : cs.length = 18) : (execOp a.eval o).run Try.prog w = .ok (.value (.agg cs.toArray)) w := by
  have hlc := run_loadCells_list (P := Try.prog) w ⟨B, 0, none⟩ cs (fun j v hv => by
    rw [show (⟨B, 0, none⟩ : Addr).add j = ⟨B, j, none⟩ by unfold Addr.add; split <;> simp_all]
    simp only [World.cell?, hb]
    simpa using hv)
  rw [hl] at hlc
  have h2 : a.eval (.tmp x) = .pointer (some ⟨B, 0, none⟩) := hx
  simp [execOp, ho, h2, Instr.loadAt, Instr.sureAddr, loadVar, Sem.run_bind, run_of_peval pa29 w, run_of_peval pv29 w, hlc]
theorem op_alloc29 (ho : o.op = .alloc 29) : (execOp a.eval o).run Try.prog w = .ok (.value (.pointer (some ⟨w.heap.size, 0, none⟩))) (w.alloc (.cells zero18.toArray 29)) := by
  simp [execOp, ho, Instr.alloc, Sem.run_bind, run_of_peval pz29 w, newVar, newRow, newObj, Sem.run, Value.cells]
theorem op_call13 {t : Nat} (ho : o.op = .call { callee := .value (.func 13), args := #[.tmp t], argTypes := #[29] }) : (execOp a.eval o).run Try.prog w = .ok (.enter 13 #[a.tmps.getD t undef]) w := by
  have h1 : a.eval (.func 13) = .func (.func 13) #[] #[] := rfl
  have h2 : a.eval (.tmp t) = a.tmps.getD t undef := rfl
  simp only [execOp, ho, resolve, h1, Deferred.ofValue, Sem.run_bind, Sem.run_pure, Result.andThen_ok, invoke]
  have hent : enters Try.prog 13 = true := by kernel_rfl
  have hX : (#[] ++ #[Operand.tmp t].map a.eval ++ #[] : Array Value) = #[a.tmps.getD t undef] := by simp [h2]
  rw [hX]
  exact run_enters hent _ w
theorem op_store29 {v : List Value} (ho : o.op = .store 29 (.tmp p) (.tmp u)) (hx : a.tmps.getD p undef = .pointer (some ⟨B, 0, none⟩)) (hu : a.tmps.getD u undef = .agg v.toArray) (hv : v.length = 18) (h1 : ∀ y ∈ v, y.oneCell' = true) (hb : w.heap[B]? = some (.cells cs.toArray 29 fz)) (hl : cs.length = 18) (hf : fzOK fz 18) :
    (execOp a.eval o).run Try.prog w = .ok .skip (w.setCells B 0 v) := by
  have h2 : a.eval (.tmp p) = .pointer (some ⟨B, 0, none⟩) := hx
  have h3 : a.eval (.tmp u) = .agg v.toArray := hu
  have hst := run_storeCells_cells (P := Try.prog) B 0 v 0 w (fun j hj => by
      rw [Nat.add_zero, Nat.zero_add]
      simp only [World.cell?, hb]
      have : j < cs.length := by omega
      simp [this]) (fun j hj => by
      rw [Nat.add_zero, Nat.zero_add]
      simp only [World.frozen?, hb]
      rcases hf with hf | hf
      · simp [show ¬ fz.1 ≤ j by omega]
      · simp [hf]) h1
  simp [execOp, ho, h2, h3, Instr.storeAt, Instr.sureAddr, storeVar, Sem.run_bind, run_of_peval pv29 w, Value.cells, hv] at hst ⊢
  simp [hst]
theorem dcopy_wp {c : Code} (hc : CopyReg c x t u p) {Q : Exit → Act → World → Prop} {K : CfgS} {Lc : List PX} {oa : Option Addr} {cc : Nat} (hx : a.tmps.getD x undef = .pointer (some ⟨B, 0, none⟩)) (hb : w.heap[B]? = some (.cells (cfgC K (.slice oa Lc.length cc)).toArray 29 fz))
    (hok : ∀ t ∈ Lc, okW w t) (ho : Opn w realP Lc oa cc) (hp : 0 < Lc.length) (h9 : Lc.length ≤ 9000000000) (hl : ∀ t ∈ Lc, t.1.hs.length ≤ 9000000000 ∧ t.1.bk.length ≤ 9000000000) (ht : t < a.tmps.size) (hu : u < a.tmps.size) (hpp : p < a.tmps.size) (htu : t ≠ u) (hup : u ≠ p) (htp : t ≠ p)
    (hQ : ∀ (a' : Act) (w' : World) (R : List PX) (Bd cap Bx : Nat), a'.defers = a.defers → a'.tmps.size = a.tmps.size → (∀ i, i ≠ t → i ≠ u → i ≠ p → a'.tmps.getD i undef = a.tmps.getD i undef) → a'.tmps.getD p undef = .pointer (some ⟨Bx, 0, none⟩) → w.heap.size ≤ Bx → (∃ fz, w'.heap[Bx]? = some (.cells (cfgC K (.slice (some ⟨Bd, 0, none⟩) Lc.length cap)).toArray 29 fz) ∧ fzOK fz 18) →
      CopyOf w.heap.size Lc R Bd cap w' → (Bx ≠ Bd ∧ ∀ t ∈ R, Bx ∉ blks t) → Below w.heap.size w w' → Q .normal a' w') : c.wp Try.prog Q a w := by
  obtain ⟨id, o1, o2, o3, o4, rfl, ⟨a1, a2, a3⟩, ⟨b1, b2, b3⟩, ⟨c1, c2, c3⟩, ⟨d1, d2, d3⟩⟩ := hc.is
  have gd : ∀ (a : Act) (i d : Nat) (v : Value), d < a.tmps.size → (a.put (some d) v).tmps.getD i undef = if i = d then v else a.tmps.getD i undef := fun a i d v hd => by
    simp only [Act.put, Array.getD_eq_getD_getElem?]
    by_cases h : i = d
    · subst h; simp [hd]
    · rw [Array.getElem?_setIfInBounds_ne (Ne.symm h), if_neg h]
  have sz : ∀ (a : Act) (d : Nat) (v : Value), (a.put (some d) v).tmps.size = a.tmps.size := fun a d v => by simp [Act.put]
  refine wp_region_lit (wpList_plain a3 fun K1 hK1 => ?_)
  refine wp_of_gives (G := fun v w' => v = .agg (cfgC K (.slice oa Lc.length cc)).toArray ∧ w' = w) (by unfold Gives; rw [op_load18 a1 hx hb rfl]; exact ⟨rfl, rfl⟩) ?_
  rintro v w' ⟨rfl, rfl⟩
  rw [a2]
  refine hK1 _ _ (wpList_plain b3 fun K2 hK2 => ?_)
  refine wp_of_gives (G := fun v w1 => ∃ (R : List PX) (Bd cap : Nat), v = .agg (cfgC K (.slice (some ⟨Bd, 0, none⟩) Lc.length cap)).toArray ∧ CopyOf w'.heap.size Lc R Bd cap w1 ∧ Below w'.heap.size w' w1) (by
    unfold Gives
    rw [op_call13 b1, gd _ _ _ _ ht, if_pos rfl]
    refine (copy_ok hok ho hp h9 hl).mono ?_
    rintro e w1 ⟨R, Bd, cap, rfl, h1, h2⟩
    exact ⟨_, rfl, R, Bd, cap, rfl, h1, h2⟩) ?_
  rintro v w1 ⟨R, Bd, cap, rfl, hC, hB⟩
  rw [b2]
  refine hK2 _ _ (wpList_plain c3 fun K3 hK3 => ?_)
  refine wp_of_gives (G := fun v w2 => v = .pointer (some ⟨w1.heap.size, 0, none⟩) ∧ w2 = w1.alloc (.cells zero18.toArray 29)) (by unfold Gives; rw [op_alloc29 c1]; exact ⟨rfl, rfl⟩) ?_
  rintro v w2 ⟨rfl, hw2⟩
  rw [c2]
  refine hK3 _ _ (wpList_plain d3 fun K4 hK4 => ?_)
  have hnew : w2.heap[w1.heap.size]? = some (.cells zero18.toArray 29) := by rw [hw2]; exact heap_alloc_new w1 _
  refine wp_of_gives (G := fun v w3 => w3 = w2.setCells w1.heap.size 0 (cfgC K (.slice (some ⟨Bd, 0, none⟩) Lc.length cap))) (by
    unfold Gives
    rw [op_store29 (v := cfgC K (.slice (some ⟨Bd, 0, none⟩) Lc.length cap)) d1 (by rw [gd _ _ _ _ (by rw [sz, sz]; exact hpp), if_pos rfl]) (by rw [gd _ _ _ _ (by rw [sz, sz]; exact hpp), if_neg hup, gd _ _ _ _ (by rw [sz]; exact hu), if_pos rfl]) rfl (by simp [Value.oneCell']) hnew rfl (.inr rfl)]
    rfl) ?_
  rintro v w3 hw3
  rw [d2]
  have hsz2 : w2.heap.size = w1.heap.size + 1 := by rw [hw2]; simp
  obtain ⟨cs', g1, g2, g3⟩ := heap_setCells_at w1.heap.size (cfgC K (.slice (some ⟨Bd, 0, none⟩) Lc.length cap)) 0 w2 zero18.toArray 29 (0, 0) hnew (by show 0 + 18 ≤ 18; omega)
  obtain ⟨r1, r2, r3, r4⟩ := setCells_rest w1.heap.size (cfgC K (.slice (some ⟨Bd, 0, none⟩) Lc.length cap)) 0 w2
  have keep1 : ∀ k, k < w1.heap.size → w3.heap[k]? = w1.heap[k]? := fun k hk => by
    rw [hw3, heap_setCells_far _ _ _ _ _ (by omega), hw2]
    exact Below.heap_alloc _ _ _ hk
  have hcs : cs' = (cfgC K (.slice (some ⟨Bd, 0, none⟩) Lc.length cap)).toArray := by
    apply Array.ext (by rw [g2]; rfl)
    intro i h1 h2
    have h3 := g3 i
    have hi : i < 18 := h2
    rw [if_pos ⟨Nat.zero_le _, by show i < 0 + 18; omega⟩, Array.getElem?_eq_getElem h1] at h3
    rw [Nat.sub_zero, List.getElem?_eq_getElem hi] at h3
    simpa using Option.some.inj h3
  have keepB : ∀ t ∈ R, ∀ b ∈ blks t, w3.heap[b]? = w1.heap[b]? := fun t ht b hb => keep1 b (okW_lt (hC.ok t ht) hb)
  refine hK4 _ _ (hQ _ w3 R Bd cap w1.heap.size ?_ ?_ ?_ ?_ hB.size ⟨(0, 0), ?_, .inr rfl⟩ ⟨hC.len, hC.data, fun t ht => okW_keep (hC.ok t ht) (keepB t ht), fun t ht => ownX_keep (hC.own t ht) (keepB t ht), rowAt_keep hC.row (keep1 _ (rowAt_lt hC.row)), hC.ge, hC.nd⟩ ⟨?_, fun t ht hm => ?_⟩ ?_)
  · rfl
  · show (((a.put (some t) _).put (some u) _).put (some p) _).tmps.size = _
    rw [sz, sz, sz]
  · intro i n1 n2 n3
    show (((a.put (some t) _).put (some u) _).put (some p) _).tmps.getD i undef = _
    rw [gd _ _ _ _ (by rw [sz, sz]; exact hpp), if_neg n3, gd _ _ _ _ (by rw [sz]; exact hu), if_neg n2, gd _ _ _ _ ht, if_neg n1]
  · show (((a.put (some t) _).put (some u) _).put (some p) _).tmps.getD p undef = _
    rw [gd _ _ _ _ (by rw [sz, sz]; exact hpp), if_pos rfl]
  · rw [← hcs, hw3]; exact g1
  · have := rowAt_lt hC.row; omega
  · have := okW_lt (hC.ok t ht) hm; omega
  · refine hB.trans ⟨?_, ?_, ?_, ?_, fun k hk => keep1 k (by have := hB.size; omega)⟩
    · rw [hw3, r1, hw2]; rfl
    · rw [hw3, r2, hw2]; rfl
    · rw [hw3, r3, hw2]; rfl
    · rw [hw3, r4, hsz2]; omega
end
end
end Go.Proofs.Ytkdalfdfepipiaa
