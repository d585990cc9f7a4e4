/- Rows of pools, texts that are not too long, the number that Pick picks. PoolCopies: the state of its loops, their pieces in the world. PoolCopies: the writing loops. PoolCopies: two configurations in the world; the plain law. PoolCopies behind the comparison. PoolCopies behind the comparison: all its pieces. PoolCopies: the writing of no pools; what is kept. PoolCopies behind both copies. PoolCopies: the law. -/
import Derived.Test.YtkdalfdfepipiaaNA
import Derived.Test.YtkdalfdfepipiaaBB
import Derived.Test.YtkdalfdfepipiaaCF
import Derived.KernelRfl
namespace Go.Proofs.Ytkdalfdfepipiaa
section
open Go.RowKit
set_option linter.unusedSimpArgs false
set_option linter.unusedVariables false
set_option linter.unusedSectionVars false
set_option maxRecDepth 100000
theorem nd_apart {L : List PX} (h : (L.flatMap blks).Nodup) {i j : Nat} (hi : i < L.length) (hj : j < L.length) (hij : i ≠ j) {b : Nat} (hb : b ∈ blks (L.getD i default)) : b ∉ blks (L.getD j default) := fun hb2 => by
  obtain ⟨_, h2⟩ := List.pairwise_flatMap.1 h
  have e1 : L.getD i default = L[i] := by rw [List.getD_eq_getElem?_getD, List.getElem?_eq_getElem hi]; rfl
  have e2 : L.getD j default = L[j] := by rw [List.getD_eq_getElem?_getD, List.getElem?_eq_getElem hj]; rfl
  rw [e1] at hb
  rw [e2] at hb2
  have h3 := List.pairwise_iff_getElem.1 h2
  rcases Nat.lt_or_gt_of_ne hij with hlt | hlt
  · exact h3 i j hi hj hlt b hb b hb2 rfl
  · exact h3 j i hj hi hlt b hb2 b hb rfl
theorem nd_self {L : List PX} (h : (L.flatMap blks).Nodup) {i : Nat} (hi : i < L.length) : (blks (L.getD i default)).Nodup :=
  (List.pairwise_flatMap.1 h).1 _ (getD_mem' hi)
theorem far_rows {E0 E1 : Ent} {L : List PX} {w : World} (hL : ∀ t ∈ L, okW w t) {i : Nat} {a : Addr} (h2 : 2 ≤ i) (hc : (entQ E0 E1 L i).2.2.2 ≠ []) (ha : (entQ E0 E1 L i).1 = some a) : ∃ j, j < L.length ∧ a.block ∈ blks (L.getD j default) := by
  obtain ⟨j, rfl | rfl⟩ : ∃ j, i = 2 + 2 * j ∨ i = 3 + 2 * j := ⟨(i - 2) / 2, by omega⟩
  · rw [entQh] at hc ha
    have hj : j < L.length := by
      refine Nat.lt_of_not_le fun h => hc ?_
      rw [List.getD_eq_getElem?_getD, List.getElem?_eq_none h]; rfl
    obtain ⟨oa, c, e, ho⟩ := (hL _ (getD_mem' hj)).h
    rw [e] at hc ha
    change ((L.getD j default).1.hs.flatMap hF) ≠ [] at hc
    change oa = some a at ha
    exact ⟨j, hj, List.mem_append.2 (.inl (rowV_blk (hL _ (getD_mem' hj)).h e ha (by
      cases hl : (L.getD j default).1.hs with
      | nil => rw [hl] at hc; exact absurd rfl hc
      | cons _ _ => exact Nat.succ_pos _)))⟩
  · rw [entQb] at hc ha
    have hj : j < L.length := by
      refine Nat.lt_of_not_le fun h => hc ?_
      rw [List.getD_eq_getElem?_getD, List.getElem?_eq_none h]; rfl
    obtain ⟨oa, c, e, ho⟩ := (hL _ (getD_mem' hj)).b
    rw [e] at hc ha
    change ((L.getD j default).1.bk.flatMap bkV) ≠ [] at hc
    change oa = some a at ha
    exact ⟨j, hj, List.mem_append.2 (.inr (rowV_blk (hL _ (getD_mem' hj)).b e ha (by
      cases hl : (L.getD j default).1.bk with
      | nil => rw [hl] at hc; exact absurd rfl hc
      | cons _ _ => exact Nat.succ_pos _)))⟩
theorem own_ge {n0 : Nat} {w : World} {t : PX} (ho : OwnX n0 w t) (hk : okW w t) {b : Nat} (hb : b ∈ blks t) : n0 ≤ b := by
  rcases List.mem_append.1 hb with h | h
  · rcases Nat.eq_zero_or_pos t.1.hs.length with h0 | h0
    · obtain ⟨oa, c, e, _⟩ := hk.h
      rw [e, h0] at h
      cases oa <;> cases h
    · obtain ⟨B, c, e, h1, _⟩ := ho.h h0
      rw [e, hblk_own h0] at h
      rw [List.mem_singleton.1 h]; exact h1
  · rcases Nat.eq_zero_or_pos t.1.bk.length with h0 | h0
    · obtain ⟨oa, c, e, _⟩ := hk.b
      rw [e, h0] at h
      cases oa <;> cases h
    · obtain ⟨B, c, e, h1, _⟩ := ho.b h0
      rw [e, hblk_own h0] at h
      rw [List.mem_singleton.1 h]; exact h1
theorem rowAt_le {T : Type} {w : World} {B el c sz : Nat} {f : T → List Value} {l : List T} (hf : ∀ t, (f t).length = sz) (hs : 0 < sz) (h : RowAt w B el c sz (l.flatMap f)) : l.length ≤ c := by
  obtain ⟨cs, fz, h1, h2, h3, h4, h5⟩ := h.ex
  rw [flatMap_len hf, h3] at h4
  exact Nat.le_of_mul_le_mul_right h4 hs
/-- The rows of pools that are part of those that came in. -/
theorem rowsP_numS {E1 : Ent} {L M : List PX} {w : World} {oa : Option Addr} {n c off : Nat} (hM : ∀ j, j < M.length → L.getD (off + j) default = M.getD j default) (hL : ∀ t ∈ L, okW w t) : @RowsP ⟨rawOf (entQ (oa, n, c, (numS M off).flatMap poolF) E1 L)⟩ (numS M off) := by
  refine @RowsP.mk ⟨rawOf (entQ (oa, n, c, (numS M off).flatMap poolF) E1 L)⟩ (numS M off) rfl (fun p hp => ?_) (fun p hp => ?_)
  · obtain ⟨j, hj, rfl⟩ := List.mem_map.1 hp
    have h := cells_h (E0 := (oa, n, c, (numS M off).flatMap poolF)) (E1 := E1) hL (off + j)
    rw [hM j (List.mem_range.1 hj)] at h
    exact h
  · obtain ⟨j, hj, rfl⟩ := List.mem_map.1 hp
    have h := cells_b (E0 := (oa, n, c, (numS M off).flatMap poolF)) (E1 := E1) hL (off + j)
    rw [hM j (List.mem_range.1 hj)] at h
    exact h
/-- A cell that says the same under two instances that differ in the first two entries. -/
def clo2 (v : Value) : Prop := flat0 v = true ∨ ∃ j n c, 2 ≤ j ∧ v = .slice (some ⟨j, 0, some 2⟩) n c
theorem entQ_swap {E0 E1 : Ent} {L : List PX} {i : Nat} (h : 2 ≤ i) : entQ E1 E0 L i = entQ E0 E1 L i := by
  unfold entQ
  rw [if_neg (by omega), if_neg (by omega), if_neg (show ¬ i = 0 by omega), if_neg (show ¬ i = 1 by omega)]
theorem vr_swap {E0 E1 : Ent} {L : List PX} {D : Nat → Prop} {ρ : Nat → Pl} {v u : Value} (hv : clo2 v) (h : @VR ⟨rawOf (entQ E0 E1 L)⟩ D ρ v u) : @VR ⟨rawOf (entQ E1 E0 L)⟩ D ρ v u := by
  rcases hv with hf | ⟨j, n, c, hj, rfl⟩
  · rw [@VR.flat0_eq ⟨rawOf (entQ E0 E1 L)⟩ _ _ _ _ h hf]
    exact @VR.scal ⟨rawOf (entQ E1 E0 L)⟩ _ _ _ hf
  · obtain ⟨h1, h2, _⟩ := @VR.opq_inv ⟨rawOf (entQ E0 E1 L)⟩ _ _ _ _ _ _ _ h
    have e := entQ_swap (E0 := E0) (E1 := E1) (L := L) hj
    have h3 := @VR.opq ⟨rawOf (entQ E1 E0 L)⟩ D ρ j n c (by show (entQ E1 E0 L j).2.1 = n; rw [e]; exact h1)
    rw [h2]
    have e1 : (@rg ⟨rawOf (entQ E1 E0 L)⟩).adr j = (@rg ⟨rawOf (entQ E0 E1 L)⟩).adr j := by show (entQ E1 E0 L j).1 = (entQ E0 E1 L j).1; rw [e]
    have e2 : (@rg ⟨rawOf (entQ E1 E0 L)⟩).cap j = (@rg ⟨rawOf (entQ E0 E1 L)⟩).cap j := by show (entQ E1 E0 L j).2.2.1 = (entQ E0 E1 L j).2.2.1; rw [e]
    rw [e1, e2] at h3
    exact h3
theorem clo2_pools {M : List PX} {off : Nat} : ∀ v ∈ (numS M off).flatMap poolF, clo2 v := fun v hv => by
  obtain ⟨p, hp, hv⟩ := List.mem_flatMap.1 hv
  obtain ⟨j, _, rfl⟩ := List.mem_map.1 hp
  simp only [List.mem_cons, List.not_mem_nil, or_false] at hv
  rcases hv with rfl | rfl | rfl | rfl | rfl | rfl | rfl | rfl | rfl | rfl | rfl | rfl | rfl | rfl | rfl | rfl
  · exact .inl rfl
  · exact .inr ⟨_, _, _, by show 2 ≤ 2 + 2 * (off + j); omega, rfl⟩
  · exact .inr ⟨_, _, _, by show 2 ≤ 3 + 2 * (off + j); omega, rfl⟩
  · exact .inl rfl
  · exact .inl rfl
  · exact .inl rfl
  · exact .inl rfl
  · exact .inl rfl
  · exact .inl rfl
  · exact .inl rfl
  · exact .inl rfl
  · exact .inl rfl
  · exact .inl rfl
  · exact .inl rfl
  · exact .inl rfl
  · exact .inl rfl
theorem clo2_rows {E0 E1 : Ent} {L : List PX} {w : World} (hL : ∀ t ∈ L, okW w t) {i : Nat} (h : 2 ≤ i) : ∀ v ∈ (entQ E0 E1 L i).2.2.2, clo2 v := fun v hv => by
  obtain ⟨j, rfl | rfl⟩ : ∃ j, i = 2 + 2 * j ∨ i = 3 + 2 * j := ⟨(i - 2) / 2, by omega⟩
  · have e := cells_h (E0 := E0) (E1 := E1) hL j
    change (entQ E0 E1 L (2 + 2 * j)).2.2.2 = _ at e
    rw [e] at hv
    obtain ⟨t, _, rfl⟩ := List.mem_map.1 hv
    exact .inl rfl
  · have e := cells_b (E0 := E0) (E1 := E1) hL j
    change (entQ E0 E1 L (3 + 2 * j)).2.2.2 = _ at e
    rw [e] at hv
    obtain ⟨t, _, ht⟩ := List.mem_flatMap.1 hv
    simp at ht
    rcases ht with rfl | rfl <;> exact .inl rfl
theorem raw_swap {E0 E1 : Ent} {L : List PX} {w : World} (h0 : ∀ v ∈ E0.2.2.2, clo2 v) (h1 : ∀ v ∈ E1.2.2.2, clo2 v) (hr : ∀ i, 2 ≤ i → ∀ v ∈ (entQ E0 E1 L i).2.2.2, clo2 v) (h : ∀ i, @RawAt ⟨rawOf (entQ E0 E1 L)⟩ w i) (i : Nat) : @RawAt ⟨rawOf (entQ E1 E0 L)⟩ w i := by
  have key : ∀ i k : Nat, entQ E1 E0 L i = entQ E0 E1 L k → (∀ v ∈ (entQ E0 E1 L k).2.2.2, clo2 v) → @RawAt ⟨rawOf (entQ E1 E0 L)⟩ w i := fun i k e hcl => by
    obtain ⟨a1, a2, a3⟩ := h k
    refine ⟨?_, ?_, ?_⟩
    · show (entQ E1 E0 L i).2.1 ≤ (entQ E1 E0 L i).2.2.1
      rw [e]; exact a1
    · show 0 < (entQ E1 E0 L i).2.1 → (entQ E1 E0 L i).2.2.2 ≠ []
      rw [e]; exact a2
    · show (entQ E1 E0 L i).2.2.2 ≠ [] → ∃ a, (entQ E1 E0 L i).1 = some a ∧ a.spot = none ∧ ∃ cs el fz, w.heap[a.block]? = some (.cells cs el fz) ∧ ∀ (j : Nat) (v : Value), (entQ E1 E0 L i).2.2.2[j]? = some v → ∃ u, cs[a.off + j]? = some u ∧ @VR ⟨rawOf (entQ E1 E0 L)⟩ (fun _ => False) (fun _ => default) v u
      rw [e]
      intro hne
      obtain ⟨a, b1, b2, cs, el, fz, b3, b4⟩ := a3 hne
      refine ⟨a, b1, b2, cs, el, fz, b3, fun j v hv => ?_⟩
      obtain ⟨u, hu, hvr⟩ := b4 j v hv
      exact ⟨u, hu, vr_swap (hcl v (List.mem_of_getElem? hv)) hvr⟩
  by_cases i0 : i = 0
  · subst i0; exact key 0 1 rfl h1
  · by_cases i1 : i = 1
    · subst i1; exact key 1 0 rfl h0
    · exact key i i (entQ_swap (by omega)) (hr i (by omega))
/-- A contract on the first row of pools is one on the second. -/
theorem callOK_swap {E0 E1 : Ent} {L : List PX} {g n : Nat} {K : CfgS} {v : Value} (hfl : flat v = true) (h0 : ∀ v ∈ E0.2.2.2, clo2 v) (h1 : ∀ v ∈ E1.2.2.2, clo2 v) (hr : ∀ i, 2 ≤ i → ∀ v ∈ (entQ E0 E1 L i).2.2.2, clo2 v)
    (h : @CallOK ⟨rawOf (entQ E1 E0 L)⟩ Try.prog g [.agg (cfgC K (.slice (some ⟨0, 0, some 2⟩) n 0)).toArray] [] 0 v []) : @CallOK ⟨rawOf (entQ E0 E1 L)⟩ Try.prog g [.agg (cfgC K (.slice (some ⟨1, 0, some 2⟩) n 0)).toArray] [] 0 v [] := by
  intro D ρ w args hlt hsz hav hw
  have hr' : ∀ i, @RawAt ⟨rawOf (entQ E1 E0 L)⟩ w i := raw_swap h0 h1 hr (@RawOK.at' ⟨rawOf (entQ E0 E1 L)⟩ _ _ _ (@WR.raw ⟨rawOf (entQ E0 E1 L)⟩ _ _ _ _ _ hw))
  have hw' : @WR ⟨rawOf (entQ E1 E0 L)⟩ (szP Try.prog) D ρ (hget []) w := @wr_mk ⟨rawOf (entQ E1 E0 L)⟩ D ρ w [] (fun b k hg => (hget_nil _ _ hg).elim) (fun b c k l hb => (hget_nil _ _ hb).elim) hr' (fun i a hc ha b k hg => (hget_nil _ _ hg).elim)
  have hav' : ∀ i, @VR ⟨rawOf (entQ E1 E0 L)⟩ D ρ ([Value.agg (cfgC K (.slice (some ⟨0, 0, some 2⟩) n 0)).toArray].getD i undef) (args.getD i undef) := fun i => by
    match i with
    | 0 =>
      have h2 := hav 0
      change @VR ⟨rawOf (entQ E0 E1 L)⟩ D ρ (.agg (cfgC K (.slice (some ⟨1, 0, some 2⟩) n 0)).toArray) (args.getD 0 undef) at h2
      have h3 := @img_agg ⟨rawOf (entQ E0 E1 L)⟩ _ _ _ _ h2 rfl
      rw [h3]
      have hl : n = (entQ E0 E1 L 1).2.1 := by
        obtain ⟨ys, e, hs, hv⟩ := @VR.agg_inv ⟨rawOf (entQ E0 E1 L)⟩ _ _ _ _ h2
        exact (@VR.opq_inv ⟨rawOf (entQ E0 E1 L)⟩ _ _ _ _ _ _ _ (hv 1)).1.symm
      refine @vr_aggL ⟨rawOf (entQ E1 E0 L)⟩ D ρ _ _ rfl (cfg_rel (R := @VR ⟨rawOf (entQ E1 E0 L)⟩ D ρ) (fun v h => @VR.scal ⟨rawOf (entQ E1 E0 L)⟩ _ _ v h) ?_)
      exact @VR.opq ⟨rawOf (entQ E1 E0 L)⟩ D ρ 0 n 0 hl.symm
    | i + 1 =>
      have h2 := hav (i + 1)
      change @VR ⟨rawOf (entQ E0 E1 L)⟩ D ρ undef (args.getD (i + 1) undef) at h2
      rw [@VR.flat0_eq ⟨rawOf (entQ E0 E1 L)⟩ _ _ _ _ h2 rfl]
      exact @VR.und ⟨rawOf (entQ E1 E0 L)⟩ _ _
  refine (h D ρ w args hlt hsz hav' hw').mono ?_
  rintro e w1 ⟨u, rfl, D1, ρ1, t1, hV, hD⟩
  have eu := @VR.flat_eq ⟨rawOf (entQ E1 E0 L)⟩ _ _ _ _ hV hfl
  have bel : Below w.heap.size w w1 := ⟨@T.os ⟨rawOf (entQ E1 E0 L)⟩ _ _ _ _ _ _ _ _ _ t1, @T.tape ⟨rawOf (entQ E1 E0 L)⟩ _ _ _ _ _ _ _ _ _ t1, @T.output ⟨rawOf (entQ E1 E0 L)⟩ _ _ _ _ _ _ _ _ _ t1, @T.size ⟨rawOf (entQ E1 E0 L)⟩ _ _ _ _ _ _ _ _ _ t1, fun k hk => @T.keep ⟨rawOf (entQ E1 E0 L)⟩ _ _ _ _ _ _ _ _ _ t1 k hk (fun ⟨b, l, hb, _⟩ => (hget_nil _ _ hb).elim)⟩
  letI : Inhabited RawG := ⟨rawOf (entQ E0 E1 L)⟩
  refine ⟨u, rfl, D, ρ, ⟨fun _ h => h, fun _ _ => rfl, ⟨hw.dom, fun b k hk => (hget_nil _ _ hk).elim, hw.sep, hw.raw.keep (fun k hk _ => bel.block k hk) (fun k hk => .inl hk)⟩, bel.os, bel.tape, bel.output, bel.size, fun k hk _ => bel.block k hk, fun k hk => .inl hk, fun _ _ h _ => h⟩, ?_, fun b hb => .inl hb⟩
  rw [eu]
  exact .of_flat hfl
theorem strip_numS {M : List PX} {off : Nat} : (numS M off).map stripP = (numS M 0).map stripP := by
  unfold numS
  rw [List.map_map, List.map_map]
  rfl
theorem poolsV_numS {M : List PX} {off : Nat} : poolsV (numS M off) = poolsV (numS M 0) := by
  rw [← poolsV_strip, strip_numS, poolsV_strip]
/-- No text of a pool, no row is too long. -/
structure SmT (p : PoolT) : Prop where
  n : p.nm.size ≤ 9000000000000
  h : ∀ h ∈ p.hs, h.size ≤ 9000000000000
  b : ∀ b ∈ p.bk, b.1.size ≤ 9000000000000
  l : p.hs.length ≤ 9000000000
  m : p.bk.length ≤ 9000000000
theorem small_numS {M : List PX} {off : Nat} (h : ∀ j, j < M.length → SmT (M.getD j default).1 ∨ ((M.getD j default).1.nm.size ≤ 9000000000000 ∧ (∀ h ∈ (M.getD j default).1.hs, h.size ≤ 9000000000000) ∧ (∀ b ∈ (M.getD j default).1.bk, b.1.size ≤ 9000000000000) ∧ (M.getD j default).1.hs.length ≤ 9000000000000)) : SmallP (numS M off) := by
  have key : ∀ p ∈ numS M off, p.nm.size ≤ 9000000000000 ∧ (∀ h ∈ p.hs, h.size ≤ 9000000000000) ∧ (∀ b ∈ p.bk, b.1.size ≤ 9000000000000) ∧ p.hs.length ≤ 9000000000000 := fun p hp => by
    obtain ⟨j, hj, rfl⟩ := List.mem_map.1 hp
    rcases h j (List.mem_range.1 hj) with h1 | h1
    · exact ⟨h1.n, h1.h, h1.b, Nat.le_trans h1.l (by decide)⟩
    · exact h1
  exact ⟨fun p hp => (key p hp).1, fun p hp => (key p hp).2.1, fun p hp => (key p hp).2.2.1, fun p hp => (key p hp).2.2.2⟩
/-- The number that Pick picks. -/
def pickV (n : Int) (k : Nat) : Nat := if n.tmod (k : Int) < 0 then (n.tmod (k : Int) + (k : Int)).toNat else (n.tmod (k : Int)).toNat
theorem pick_fn [Inhabited RawG] {n : Int} {k : Nat} (hk : 1 ≤ k) (h9 : k ≤ 9000000000000) : pickV n k < k ∧ CallOK Try.prog 10 [.int .i64 n, .int .i64 (k : Int)] [] 0 (.int .i64 (pickV n k : Int)) [] := by
  have hb : (n.tmod (k : Int)).natAbs < k := by
    have h1 := Int.natAbs_tmod n (k : Int)
    have h2 : n.natAbs % (k : Int).natAbs < (k : Int).natAbs := Nat.mod_lt _ (by omega)
    omega
  unfold pickV
  by_cases h : n.tmod (k : Int) < 0
  · rw [if_pos h]
    refine ⟨by omega, ?_⟩
    have h1 := pick_b (n := n) (m := (k : Int)) (by omega) h
    have e : (((n.tmod (k : Int) + (k : Int)).toNat : Nat) : Int) = n.tmod (k : Int) + (k : Int) := by omega
    rw [e]
    rw [w64 (by omega)] at h1
    exact h1
  · rw [if_neg h]
    refine ⟨by omega, ?_⟩
    have h1 := pick_a (n := n) (m := (k : Int)) (by omega) h
    have e : (((n.tmod (k : Int)).toNat : Nat) : Int) = n.tmod (k : Int) := by omega
    rw [e]
    exact h1
theorem smT_of {p : PoolT} (h : LightP p) : SmT p := by
  have h1 := h.h
  have h2 := h.b
  have h3 := h.n
  refine ⟨by omega, fun x hx => ?_, fun x hx => ?_, by omega, by omega⟩
  · obtain ⟨i, hi, rfl⟩ := List.mem_iff_getElem.1 hx
    have := h.hz i hi
    rw [List.getD_eq_getElem?_getD, List.getElem?_eq_getElem hi] at this
    have h4 : (p.hs[i]).size ≤ 300 := this
    omega
  · obtain ⟨i, hi, rfl⟩ := List.mem_iff_getElem.1 hx
    have := h.bz i hi
    rw [List.getD_eq_getElem?_getD, List.getElem?_eq_getElem hi] at this
    have h4 : (p.bk[i]).1.size ≤ 300 := this
    omega
end
section
open Go.RowKit
set_option linter.unusedSimpArgs false
set_option linter.unusedVariables false
set_option linter.unusedSectionVars false
set_option maxRecDepth 100000
/-- A frame of the loops. -/
abbrev frLx (wh : Int) (ex : List (Nat × Int)) : List Value := mkF ([(1, .int .i64 wh), (2, .pointer (some ⟨0, 0, none⟩)), (5, .pointer (some ⟨1, 0, none⟩)), (6, .pointer (some ⟨2, 0, none⟩))] ++ ex.map fun p => (p.1, .int .i64 p.2)) 116 0
structure AFr (wh : Int) (B2 B5 B6 : Nat) (ex : List (Nat × Int)) (a : Act) : Prop where
  size : a.tmps.size = 116
  defers : a.defers = []
  t1 : a.tmps.getD 1 undef = .int .i64 wh
  t2 : a.tmps.getD 2 undef = .pointer (some ⟨B2, 0, none⟩)
  t5 : a.tmps.getD 5 undef = .pointer (some ⟨B5, 0, none⟩)
  t6 : a.tmps.getD 6 undef = .pointer (some ⟨B6, 0, none⟩)
  ex : ∀ t v, (t, v) ∈ ex → a.tmps.getD t undef = .int .i64 v
abbrev rhoL (B2 B5 B6 Bd cap Bh ch : Nat) : Nat → Pl := fun b => if b = 0 then ⟨B2, 0, none⟩ else if b = 1 then ⟨B5, 0, none⟩ else if b = 2 then ⟨B6, 0, none⟩ else if b = 3 then ⟨Bd, 0, some cap⟩ else ⟨Bh, 0, some ch⟩
theorem AFr.fr [Inhabited RawG] {wh : Int} {B2 B5 B6 Bd cap Bh ch : Nat} {ex : List (Nat × Int)} {a : Act} {D : Nat → Prop} (h : AFr wh B2 B5 B6 ex a) (h0 : D 0) (h1 : D 1) (h2 : D 2) : FR [] D (rhoL B2 B5 B6 Bd cap Bh ch) (frLx wh ex) a := by
  refine fr_mk h.size h.defers fun t v hm => ?_
  rcases List.mem_append.1 hm with hm | hm
  · simp only [List.mem_cons, Prod.mk.injEq, List.not_mem_nil, or_false] at hm
    rcases hm with ⟨rfl, rfl⟩ | ⟨rfl, rfl⟩ | ⟨rfl, rfl⟩ | ⟨rfl, rfl⟩
    · rw [h.t1]; exact .scal _ rfl
    · rw [h.t2]; exact VR.ptr (ρ := rhoL B2 B5 B6 Bd cap Bh ch) 0 0 h0
    · rw [h.t5]; exact VR.ptr (ρ := rhoL B2 B5 B6 Bd cap Bh ch) 1 0 h1
    · rw [h.t6]; exact VR.ptr (ρ := rhoL B2 B5 B6 Bd cap Bh ch) 2 0 h2
  · obtain ⟨p, hp, he⟩ := List.mem_map.1 hm
    cases he
    rw [h.ex p.1 p.2 hp]
    exact .scal _ rfl
theorem AFr.of [Inhabited RawG] {wh : Int} {B2 B5 B6 : Nat} {ex : List (Nat × Int)} {a : Act} {D : Nat → Prop} {ρ : Nat → Pl} (hf : FR [] D ρ (frLx wh ex) a) (e0 : ρ 0 = ⟨B2, 0, none⟩) (e1 : ρ 1 = ⟨B5, 0, none⟩) (e2 : ρ 2 = ⟨B6, 0, none⟩) (hx : ∀ t v, (t, v) ∈ ex → (frLx wh ex).getD t undef = .int .i64 v) : AFr wh B2 B5 B6 ex a := by
  refine ⟨by rw [hf.size, mkF_len], hf.defers, (fr_get hf (t := 1) rfl rfl).int_inv, ?_, ?_, ?_, fun t v hm => (fr_get hf (hx t v hm) rfl).int_inv⟩
  · have h := (fr_get hf (t := 2) (v := .pointer (some ⟨0, 0, none⟩)) rfl rfl).img rfl
    rw [h]
    show Value.pointer (some ⟨(ρ 0).blk, (ρ 0).off + 0, none⟩) = _
    rw [e0]
  · have h := (fr_get hf (t := 5) (v := .pointer (some ⟨1, 0, none⟩)) rfl rfl).img rfl
    rw [h]
    show Value.pointer (some ⟨(ρ 1).blk, (ρ 1).off + 0, none⟩) = _
    rw [e1]
  · have h := (fr_get hf (t := 6) (v := .pointer (some ⟨2, 0, none⟩)) rfl rfl).img rfl
    rw [h]
    show Value.pointer (some ⟨(ρ 2).blk, (ρ 2).off + 0, none⟩) = _
    rw [e2]
/-- The copy while it is written: its rows keep their places and lengths; nothing else changes. -/
structure WInv (wS : World) (n1 : Nat) (K : CfgS) (B5 Bd cap : Nat) (R0 R : List PX) (w : World) : Prop where
  dbox : ∃ fz, w.heap[B5]? = some (.cells (cfgC K (.slice (some ⟨Bd, 0, none⟩) R.length cap)).toArray 29 fz) ∧ fzOK fz 18
  len : R.length = R0.length
  lens : ∀ j, (R.getD j default).1.hs.length = (R0.getD j default).1.hs.length ∧ (R.getD j default).1.bk.length = (R0.getD j default).1.bk.length
  ok : ∀ t ∈ R, okW w t
  own : ∀ t ∈ R, OwnX n1 w t
  row : RowAt w Bd 46 cap 16 (R.flatMap realP)
  nd : (Bd :: R.flatMap blks).Nodup
  same : ∀ j, blks (R.getD j default) = blks (R0.getD j default)
  far : B5 ≠ Bd ∧ ∀ t ∈ R, B5 ∉ blks t
  keep : ∀ b, b < wS.heap.size → b ≠ B5 → b ≠ Bd → (∀ j, b ∉ blks (R0.getD j default)) → w.heap[b]? = wS.heap[b]?
  rest : w.os = wS.os ∧ w.tape = wS.tape ∧ w.output = wS.output ∧ wS.heap.size ≤ w.heap.size
abbrev insL (Bd cap : Nat) (R : List PX) : Nat → Ent := entQ (some ⟨Bd, 0, none⟩, R.length, cap, (numS R 0).flatMap poolF) entD R
/-- A piece that only reads. -/
theorem ro_run {wS : World} {n1 : Nat} {K : CfgS} {B2 B5 B6 Bd cap : Nat} {R0 R : List PX} {a : Act} {w : World} {wh : Int} {ex ex' : List (Nat × Int)} {c : Code} {ax : AX} {nx : Nat} (hW : WInv wS n1 K B5 Bd cap R0 R w) (hA : AFr wh B2 B5 B6 ex a)
    (hC : @CodeOK ⟨rawOf (insL Bd cap R)⟩ Try.prog c (frLx wh ex) [(1, ⟨29, cfgC K (.slice (some ⟨0, 0, some 2⟩) (numS R 0).length 0), 2⟩)] 3 ⟨ax, frLx wh ex', [], nx, []⟩) (hx : ∀ t v, (t, v) ∈ ex' → (frLx wh ex').getD t undef = .int .i64 v) :
    c.wp Try.prog (fun e a' w' => e = ax.to ∧ AFr wh B2 B5 B6 ex' a' ∧ WInv wS n1 K B5 Bd cap R0 R w') a w := by
  letI : Inhabited RawG := ⟨rawOf (insL Bd cap R)⟩
  have hoR : Opn w realP R (some ⟨Bd, 0, none⟩) cap := by
    obtain ⟨oa', c', e, h⟩ := rowV_of (f := realP) realP16 (by decide) hW.row
    cases e
    exact h
  have hraw : ∀ i, RawAt w i := rawL (rawAt_pools (M := R) (off := 0) rfl (fun j _ => by rw [Nat.zero_add]) hoR hW.ok) (rawAt_none _ rfl) hW.ok
  have in1 : ∀ b k, hget [(1, (⟨29, cfgC K (.slice (some ⟨0, 0, some 2⟩) (numS R 0).length 0), 2⟩ : ABlk))] b = some k → b = 1 ∧ k = ⟨29, cfgC K (.slice (some ⟨0, 0, some 2⟩) (numS R 0).length 0), 2⟩ := fun b k hg => by
    rcases hget_cons hg with h | hg
    · exact h
    · exact (hget_nil _ _ hg).elim
  have hv : VR (fun b => b < 3) (rhoL B2 B5 B6 Bd cap 0 0) (.slice (some ⟨0, 0, some 2⟩) (numS R 0).length 0) (.slice (some ⟨Bd, 0, none⟩) R.length cap) := by
    rw [numS_len]; exact vr_opq _ entQ0
  have noImg : ∀ n, ¬ Img (rhoL B2 B5 B6 Bd cap 0 0) (hget [(1, (⟨29, cfgC K (.slice (some ⟨0, 0, some 2⟩) (numS R 0).length 0), 2⟩ : ABlk))]) n := fun n ⟨b, k, hb, hm, _⟩ => by
    obtain ⟨_, rfl⟩ := in1 b k hb
    exact hm rfl
  have hw : WR (szP Try.prog) (fun b => b < 3) (rhoL B2 B5 B6 Bd cap 0 0) (hget [(1, ⟨29, cfgC K (.slice (some ⟨0, 0, some 2⟩) (numS R 0).length 0), 2⟩)]) w := by
    refine ⟨fun b k hb => ?_, fun b k hb => ?_, fun b c k l hb hc hne hm => ?_, ⟨hraw, fun i a _ _ => noImg _⟩⟩
    · obtain ⟨rfl, _⟩ := in1 b k hb; decide
    · obtain ⟨rfl, rfl⟩ := in1 b k hb
      obtain ⟨fz, h1, h2⟩ := hW.dbox
      refine .of ⟨_, fz, h1, fun i v hv' => ?_, fun h => absurd h (by show ¬ (2 : Nat) = 0; decide), fun h => absurd h (by show ¬ 2 % 2 = 1; decide), fun _ => rfl, (by show 2 ≤ 3; decide), fun _ v hv' => ?_⟩
      · obtain ⟨z, hz, hr⟩ := cfg_rel (R := VR (fun b => b < 3) (rhoL B2 B5 B6 Bd cap 0 0)) (fun v h => .scal v h) hv i v hv'
        exact ⟨z, by show _ = _; rw [show (rhoL B2 B5 B6 Bd cap 0 0 1).off + i = i from Nat.zero_add i]; simpa using hz, hr⟩
      · simp only [List.mem_cons, List.not_mem_nil, or_false] at hv'
        rcases hv' with rfl | rfl | rfl | rfl | rfl | rfl | rfl | rfl | rfl | rfl | rfl | rfl | rfl | rfl | rfl | rfl | rfl | rfl <;> rfl
    · obtain ⟨_, rfl⟩ := in1 b k hb
      obtain ⟨_, rfl⟩ := in1 c l hc
      rcases hm with h | h <;> exact absurd rfl h
  refine wp_mono (hC _ _ a w (fun b h => h) (hA.fr (by decide) (by decide) (by decide)) hw) ?_
  rintro e a' w' ⟨rfl, hle, D1, ρ1, hT, hf1, hb1, hc1⟩
  have e0 : ρ1 0 = ⟨B2, 0, none⟩ := hT.same 0 (show (0 : Nat) < 3 by decide)
  have e1 : ρ1 1 = ⟨B5, 0, none⟩ := hT.same 1 (show (1 : Nat) < 3 by decide)
  have e2 : ρ1 2 = ⟨B6, 0, none⟩ := hT.same 2 (show (2 : Nat) < 3 by decide)
  have kp : ∀ b, b < w.heap.size → w'.heap[b]? = w.heap[b]? := fun b hb => hT.keep b hb (noImg b)
  have kpX : ∀ t ∈ R, ∀ b ∈ blks t, w'.heap[b]? = w.heap[b]? := fun t ht b hb => kp b (okW_lt (hW.ok t ht) hb)
  refine ⟨rfl, AFr.of hf1 e0 e1 e2 hx, ?_⟩
  obtain ⟨r1, r2, r3, r4⟩ := hW.rest
  obtain ⟨fz, h1, h2⟩ := hW.dbox
  exact ⟨⟨fz, (kp _ (Array.getElem?_eq_some_iff.1 h1).1).trans h1, h2⟩, hW.len, hW.lens, fun t ht => okW_keep (hW.ok t ht) (kpX t ht), fun t ht => ownX_keep (hW.own t ht) (kpX t ht), rowAt_keep hW.row (kp _ (rowAt_lt hW.row)), hW.nd, hW.same, hW.far, fun b hb hb5 hbd hbj => (kp b (by omega)).trans (hW.keep b hb hb5 hbd hbj), ⟨hT.os.trans r1, hT.tape.trans r2, hT.output.trans r3, Nat.le_trans r4 hT.size⟩⟩
theorem blks_set {R : List PX} {i j : Nat} {t : PX} (h : blks t = blks (R.getD i default)) (hi : i < R.length) : blks ((R.set i t).getD j default) = blks (R.getD j default) := by
  by_cases hji : j = i
  · subst hji; rw [getD_set_eq' hi, h]
  · rw [getD_set_ne' hji]
theorem flat_blks_set {R : List PX} {i : Nat} {t : PX} (h : blks t = blks (R.getD i default)) (hi : i < R.length) : (R.set i t).flatMap blks = R.flatMap blks := by
  have key : ∀ (A B : List PX), A.length = B.length → (∀ j, blks (A.getD j default) = blks (B.getD j default)) → A.flatMap blks = B.flatMap blks := by
    intro A
    induction A with
    | nil => intro B hl _; cases B with | nil => rfl | cons _ _ => cases hl
    | cons a t ih =>
      intro B hl hb
      cases B with
      | nil => cases hl
      | cons b s =>
        rw [List.flatMap_cons, List.flatMap_cons, ih s (by simpa using hl) (fun j => hb (j + 1))]
        have h0 := hb 0
        change blks a = blks b at h0
        rw [h0]
  exact key _ _ (by simp) fun j => blks_set h hi
theorem st_h {wS : World} {n1 : Nat} {K : CfgS} {B2 B5 B6 Bd cap : Nat} {R0 R : List PX} {a : Act} {w : World} {wh : Int} {i k : Nat} (hW : WInv wS n1 K B5 Bd cap R0 R w) (hA : AFr wh B2 B5 B6 [(7, (i : Int)), (8, (k : Int))] a) (hi : i < R.length) (hk : k < (R.getD i default).1.hs.length) :
    (regN Try.prog 4 13).wp Try.prog (fun e a' w' => e = .normal ∧ AFr wh B2 B5 B6 [(7, (i : Int)), (8, (k : Int))] a' ∧ ∃ R' : List PX, WInv wS n1 K B5 Bd cap R0 R' w') a w := by
  have hm := getD_mem' hi
  obtain ⟨nd1, nd2⟩ := List.nodup_cons.1 hW.nd
  obtain ⟨Bh, ch, eh, hge, rh⟩ := (hW.own _ hm).h (by omega)
  have mB : Bh ∈ blks (R.getD i default) := List.mem_append.2 (.inl (by rw [eh, hblk_own (by omega)]; exact List.mem_singleton.2 rfl))
  have dB : Bh ≠ Bd := fun e => nd1 (List.mem_flatMap.2 ⟨_, hm, e ▸ mB⟩)
  have d5 : Bh ≠ B5 := fun e => hW.far.2 _ hm (e ▸ mB)
  have okS : ∀ t ∈ (R.set i (({ (R.getD i default).1 with hs := [] }, .slice none 0 0, (R.getD i default).2.2) : PX)), okW w t := fun t ht => by
    rcases List.mem_or_eq_of_mem_set ht with h | rfl
    · exact hW.ok t h
    · exact ⟨⟨none, 0, rfl, opn_nil⟩, (hW.ok _ hm).b⟩
  have blkI : ∀ b ∈ blks (({ (R.getD i default).1 with hs := [] }, .slice none 0 0, (R.getD i default).2.2) : PX), b ∈ blks (R.getD i default) ∧ b ≠ Bh := fun b hb => by
    have hb2 : b ∈ hblk (R.getD i default).2.2 := (List.mem_append.1 hb).elim (fun h => by cases h) id
    refine ⟨List.mem_append.2 (.inr hb2), fun e => ?_⟩
    have h := nd_self nd2 hi
    have h3 := (List.nodup_append.1 h).2.2 Bh (by rw [eh, hblk_own (by omega)]; exact List.mem_singleton.2 rfl) b hb2
    exact h3 e.symm
  letI : Inhabited RawG := ⟨rawOf (entQ entD entD (R.set i (({ (R.getD i default).1 with hs := [] }, .slice none 0 0, (R.getD i default).2.2) : PX)))⟩
  have hcap : R.length ≤ cap := rowAt_le realP16 (by decide) hW.row
  have hv : VR (fun b => b < 5) (rhoL B2 B5 B6 Bd cap Bh ch) (.slice (some ⟨3, 0, none⟩) R.length R.length) (.slice (some ⟨Bd, 0, none⟩) R.length cap) :=
    VR.slice (D := fun b => b < 5) (ρ := (rhoL B2 B5 B6 Bd cap Bh ch)) 3 0 R.length R.length cap (by decide) hcap (fun h => by cases h) (fun c h _ => by cases h; rfl)
  have hvh : VR (fun b => b < 5) (rhoL B2 B5 B6 Bd cap Bh ch) (.slice (some ⟨4, 0, none⟩) (R.getD i default).1.hs.length (R.getD i default).1.hs.length) (R.getD i default).2.1 := by
    rw [eh]
    exact VR.slice (D := fun b => b < 5) (ρ := (rhoL B2 B5 B6 Bd cap Bh ch)) 4 0 _ _ ch (by decide) (rowAt_le (f := hF) (sz := 1) (fun _ => rfl) (by decide) rh) (fun h => by cases h) (fun c h _ => by cases h; rfl)
  have gS : ∀ j, j ≠ i → (R.set i (({ (R.getD i default).1 with hs := [] }, .slice none 0 0, (R.getD i default).2.2) : PX)).getD j default = R.getD j default := fun j hj => getD_set_ne' hj
  have gI : (R.set i (({ (R.getD i default).1 with hs := [] }, .slice none 0 0, (R.getD i default).2.2) : PX)).getD i default = _ := getD_set_eq' hi
  have hvo : ∀ {D : Nat → Prop} {ρ : Nat → Pl}, VR D ρ (.slice (some ⟨3 + 2 * i, 0, some 2⟩) (R.getD i default).1.bk.length 0) (R.getD i default).2.2 := fun {D ρ} => by
    have v := vr_b (E0 := entD) (E1 := entD) (D := D) (ρ := ρ) okS i
    rw [gI] at v
    exact v
  have hvj : ∀ {D : Nat → Prop} {ρ : Nat → Pl} (j : Nat), j ≠ i → VR D ρ (.slice (some ⟨2 + 2 * j, 0, some 2⟩) (R.getD j default).1.hs.length 0) (R.getD j default).2.1 ∧ VR D ρ (.slice (some ⟨3 + 2 * j, 0, some 2⟩) (R.getD j default).1.bk.length 0) (R.getD j default).2.2 := fun {D ρ} j hj => by
    have v1 := vr_h (E0 := entD) (E1 := entD) (D := D) (ρ := ρ) okS j
    have v2 := vr_b (E0 := entD) (E1 := entD) (D := D) (ρ := ρ) okS j
    rw [gS j hj] at v1 v2
    exact ⟨v1, v2⟩
  have inH : ∀ c l, hget [(1, ⟨29, cfgC K (.slice (some ⟨3, 0, none⟩) R.length R.length), 0⟩), (3, ⟨46, ((engL R).set i ((R.getD i default).1, .slice (some ⟨4, 0, none⟩) (R.getD i default).1.hs.length (R.getD i default).1.hs.length, .slice (some ⟨3 + 2 * i, 0, some 2⟩) (R.getD i default).1.bk.length 0)).flatMap realP, 1⟩), (4, ⟨9, (R.getD i default).1.hs.map Value.string, 3⟩)] c = some l → (c = 1 ∨ c = 3 ∨ c = 4) := fun c l hc => by
    rcases hget_cons hc with ⟨rfl, _⟩ | hc
    · exact .inl rfl
    · rcases hget_cons hc with ⟨rfl, _⟩ | hc
      · exact .inr (.inl rfl)
      · rcases hget_cons hc with ⟨rfl, _⟩ | hc
        · exact .inr (.inr rfl)
        · exact (hget_nil _ _ hc).elim
  have hw : WR (szP Try.prog) (fun b => b < 5) (rhoL B2 B5 B6 Bd cap Bh ch) (hget [(1, ⟨29, cfgC K (.slice (some ⟨3, 0, none⟩) R.length R.length), 0⟩), (3, ⟨46, ((engL R).set i ((R.getD i default).1, .slice (some ⟨4, 0, none⟩) (R.getD i default).1.hs.length (R.getD i default).1.hs.length, .slice (some ⟨3 + 2 * i, 0, some 2⟩) (R.getD i default).1.bk.length 0)).flatMap realP, 1⟩), (4, ⟨9, (R.getD i default).1.hs.map Value.string, 3⟩)]) w := by
    refine wr_mk (fun b k hg => ?_) (fun b c k l hb hc hnbc => ?_) (rawL (rawAt_none _ rfl) (rawAt_none _ rfl) okS) (fun z a hc ha b k hg => ?_)
    · rcases hget_cons hg with ⟨rfl, rfl⟩ | hg
      · obtain ⟨fz, h1, h2⟩ := hW.dbox
        exact ⟨by decide, br_box (p := ⟨B5, 0, none⟩) rfl rfl h1 h2 rfl (cfg_rel (fun v h => .scal v h) hv)⟩
      · rcases hget_cons hg with ⟨rfl, rfl⟩ | hg
        · refine ⟨by decide, br_row (p := ⟨Bd, 0, some cap⟩) (sz := 16) rfl rfl hW.row (by kernel_rfl) ?_ (.inl rfl) (rel_rows (fun v h => .scal v h) ?_ fun j hj => ?_)⟩
          · rw [flatMap_len realP16, flatMap_len realP16, List.length_set, engL_len]
          · rw [List.length_set, engL_len]
          · rw [List.length_set, engL_len] at hj
            by_cases hji : j = i
            · subst hji
              rw [getD_set_eq' (by rw [engL_len]; exact hj)]
              exact ⟨rfl, hvh, hvo⟩
            · rw [getD_set_ne' hji, engL_get hj]
              exact ⟨rfl, (hvj j hji).1, (hvj j hji).2⟩
        · rcases hget_cons hg with ⟨rfl, rfl⟩ | hg
          · have hfl : ∀ v ∈ (R.getD i default).1.hs.map Value.string, flat0 v = true := fun v hv => by
              obtain ⟨t, _, rfl⟩ := List.mem_map.1 hv; rfl
            exact ⟨by decide, br_row (p := ⟨Bh, 0, some ch⟩) (sz := 1) (rc := (R.getD i default).1.hs.flatMap hF) rfl rfl rh (by kernel_rfl) (by rw [flatMap_len (f := hF) (sz := 1) (fun _ => rfl), List.length_map, Nat.mul_one]) (.inr ⟨rfl, fun v hv => clo0_of (hfl v hv)⟩) (fun z v hv => ⟨v, by rw [flatMap_one]; exact hv, .scal v (hfl v (List.mem_of_getElem? hv))⟩)⟩
          · exact (hget_nil _ _ hg).elim
    · have h5 := hW.far.1
      rcases inH b k hb with rfl | rfl | rfl <;> rcases inH c l hc with rfl | rfl | rfl
      · exact absurd rfl hnbc
      · show B5 ≠ Bd; omega
      · show B5 ≠ Bh; omega
      · show Bd ≠ B5; omega
      · exact absurd rfl hnbc
      · show Bd ≠ Bh; omega
      · show Bh ≠ B5; omega
      · show Bh ≠ Bd; omega
      · exact absurd rfl hnbc
    · change (entQ entD entD (R.set i (({ (R.getD i default).1 with hs := [] }, .slice none 0 0, (R.getD i default).2.2) : PX)) z).2.2.2 ≠ [] at hc
      change (entQ entD entD (R.set i (({ (R.getD i default).1 with hs := [] }, .slice none 0 0, (R.getD i default).2.2) : PX)) z).1 = some a at ha
      have hfar : a.block ≠ B5 ∧ a.block ≠ Bd ∧ a.block ≠ Bh := by
        by_cases z0 : z = 0
        · subst z0; exact absurd rfl hc
        · by_cases z1 : z = 1
          · subst z1; exact absurd rfl hc
          · obtain ⟨j, hj, hmj⟩ := far_rows okS (by omega) hc ha
            rw [List.length_set] at hj
            have hmm : a.block ∈ blks (R.getD j default) ∧ a.block ≠ Bh := by
              by_cases hji : j = i
              · subst hji
                rw [gI] at hmj
                exact blkI _ hmj
              · rw [gS j hji] at hmj
                exact ⟨hmj, fun e => nd_apart nd2 hi hj (Ne.symm hji) mB (e ▸ hmj)⟩
            have hmr := getD_mem' hj
            exact ⟨fun e => hW.far.2 _ hmr (e ▸ hmm.1), fun e => nd1 (List.mem_flatMap.2 ⟨_, hmr, e ▸ hmm.1⟩), hmm.2⟩
      rcases inH b k hg with rfl | rfl | rfl
      · exact Ne.symm hfar.1
      · exact Ne.symm hfar.2.1
      · exact Ne.symm hfar.2.2
  refine wp_mono (wl13 (E := ((engL R).set i ((R.getD i default).1, .slice (some ⟨4, 0, none⟩) (R.getD i default).1.hs.length (R.getD i default).1.hs.length, .slice (some ⟨3 + 2 * i, 0, some 2⟩) (R.getD i default).1.bk.length 0))) (p := (R.getD i default).1) (vo := .slice (some ⟨3 + 2 * i, 0, some 2⟩) (R.getD i default).1.bk.length 0) (n := R.length) (i := i) (k := k) (cn := K.cn) (re := K.re) (co := K.co) (rs := K.rs) (dl := K.dl) (rq := K.rq) (cs := K.cs) (br := K.br) (bs := K.bs) (bm := K.bm) (by_ := K.by_) (en := K.en) (li := K.li) (he := K.he) (ct := K.ct) (bo := K.bo) (q := K.q) (wh := wh) (by rw [List.length_set, engL_len]; exact hi) (by rw [List.length_set, engL_len]) (getD_set_eq' (by rw [engL_len]; exact hi)) hk _ _ a w (fun b h => h) (hA.fr (by decide) (by decide) (by decide)) hw) ?_
  rintro e a' w' ⟨rfl, hle, D1, ρ1, hT, hf1, hb1, hc1⟩
  have hw' := hT.wr
  have e0 : ρ1 0 = ⟨B2, 0, none⟩ := hT.same 0 (show (0 : Nat) < 5 by decide)
  have e1 : ρ1 1 = ⟨B5, 0, none⟩ := hT.same 1 (show (1 : Nat) < 5 by decide)
  have e2 : ρ1 2 = ⟨B6, 0, none⟩ := hT.same 2 (show (2 : Nat) < 5 by decide)
  have e3 : ρ1 3 = ⟨Bd, 0, some cap⟩ := hT.same 3 (show (3 : Nat) < 5 by decide)
  have e4 : ρ1 4 = ⟨Bh, 0, some ch⟩ := hT.same 4 (show (4 : Nat) < 5 by decide)
  have kp : ∀ b, b < w.heap.size → b ≠ B5 → b ≠ Bd → b ≠ Bh → w'.heap[b]? = w.heap[b]? := fun b hb h5 hd hh => t_keep hT hb fun c l hc => by
    rcases inH c l hc with rfl | rfl | rfl
    · exact Ne.symm h5
    · exact Ne.symm hd
    · exact Ne.symm hh
  obtain ⟨NT, hNT⟩ : ∃ NT : PX, NT = (({ (R.getD i default).1 with hs := ((R.getD i default).1.hs.set k ⟨#[122]⟩) }, (R.getD i default).2) : PX) := ⟨_, rfl⟩
  have bNT : blks NT = blks (R.getD i default) := by rw [hNT]; rfl
  have hm5 : ∀ j, j < R.length → ∀ b ∈ blks (R.getD j default), b ≠ B5 ∧ b ≠ Bd := fun j hj b hb => ⟨fun e => hW.far.2 _ (getD_mem' hj) (e ▸ hb), fun e => nd1 (List.mem_flatMap.2 ⟨_, getD_mem' hj, e ▸ hb⟩)⟩
  have kpj : ∀ j, j < R.length → j ≠ i → ∀ b ∈ blks (R.getD j default), w'.heap[b]? = w.heap[b]? := fun j hj hji b hb =>
    kp b (okW_lt (hW.ok _ (getD_mem' hj)) hb) (hm5 j hj b hb).1 (hm5 j hj b hb).2 (fun e => nd_apart nd2 hi hj (Ne.symm hji) mB (e ▸ hb))
  obtain ⟨_, _, fzD, hD, gD⟩ := box_cells (hw'.here 1 _ rfl) rfl rfl
  rw [e1] at hD
  have hbox : (ABlk.cells ⟨29, cfgC K (.slice (some ⟨3, 0, none⟩) R.length R.length), 0⟩).map (imgV ρ1) = cfgC K (.slice (some ⟨Bd, 0, none⟩) R.length cap) := by
    have : imgV ρ1 (.slice (some ⟨3, 0, none⟩) R.length R.length) = .slice (some ⟨Bd, 0, none⟩) R.length cap := by
      show Value.slice (some ⟨(ρ1 3).blk, (ρ1 3).off, none⟩) R.length ((ρ1 3).cap.getD R.length) = _
      rw [e3]; rfl
    show cfgC K (imgV ρ1 (.slice (some ⟨3, 0, none⟩) R.length R.length)) = _
    rw [this]
  have hgood : ∀ v ∈ ((engL R).set i ((R.getD i default).1, .slice (some ⟨4, 0, none⟩) (R.getD i default).1.hs.length (R.getD i default).1.hs.length, .slice (some ⟨3 + 2 * i, 0, some 2⟩) (R.getD i default).1.bk.length 0)).flatMap realP, goodV v = true := fun v hv => by
    obtain ⟨t, ht, hv⟩ := List.mem_flatMap.1 hv
    rcases List.mem_or_eq_of_mem_set ht with ht | rfl
    · obtain ⟨j, _, rfl⟩ := List.mem_map.1 ht
      exact realP_good rfl rfl v hv
    · exact realP_good rfl rfl v hv
  obtain ⟨_, c3, h31, h32⟩ := row_cells (hw'.here 3 _ rfl) (el := 46) (sz := 16) (show 1 % 2 = 1 by decide) rfl (by kernel_rfl) hgood
  rw [e3] at h31 h32
  cases h31
  have hrow : (ABlk.cells ⟨46, ((engL R).set i ((R.getD i default).1, .slice (some ⟨4, 0, none⟩) (R.getD i default).1.hs.length (R.getD i default).1.hs.length, .slice (some ⟨3 + 2 * i, 0, some 2⟩) (R.getD i default).1.bk.length 0)).flatMap realP, 1⟩).map (imgV ρ1) = (R.set i NT).flatMap realP := by
    show (((engL R).set i ((R.getD i default).1, .slice (some ⟨4, 0, none⟩) (R.getD i default).1.hs.length (R.getD i default).1.hs.length, .slice (some ⟨3 + 2 * i, 0, some 2⟩) (R.getD i default).1.bk.length 0)).flatMap realP).map (imgV ρ1) = _
    refine row_img (by simp [engL_len]) fun j hj => ?_
    rw [List.length_set] at hj
    by_cases hji : j = i
    · subst hji
      rw [getD_set_eq' (by rw [engL_len]; exact hj), getD_set_eq' hj, hNT]
      have i1 : imgV ρ1 (.slice (some ⟨4, 0, none⟩) (R.getD j default).1.hs.length (R.getD j default).1.hs.length) = (R.getD j default).2.1 := by
        rw [eh]
        show Value.slice (some ⟨(ρ1 4).blk, (ρ1 4).off, none⟩) _ ((ρ1 4).cap.getD _) = _
        rw [e4]; rfl
      have i2 := (hvo (D := D1) (ρ := ρ1)).img rfl
      show realP ((R.getD j default).1, imgV ρ1 (.slice (some ⟨4, 0, none⟩) (R.getD j default).1.hs.length (R.getD j default).1.hs.length), imgV ρ1 (.slice (some ⟨3 + 2 * j, 0, some 2⟩) (R.getD j default).1.bk.length 0)) = _
      rw [i1, ← i2]
    · rw [getD_set_ne' hji, getD_set_ne' hji, engL_get hj]
      have i1 := (hvj (D := D1) (ρ := ρ1) j hji).1.img rfl
      have i2 := (hvj (D := D1) (ρ := ρ1) j hji).2.img rfl
      show realP ((R.getD j default).1, imgV ρ1 (.slice (some ⟨2 + 2 * j, 0, some 2⟩) (R.getD j default).1.hs.length 0), imgV ρ1 (.slice (some ⟨3 + 2 * j, 0, some 2⟩) (R.getD j default).1.bk.length 0)) = _
      rw [← i1, ← i2]
  rw [hrow] at h32
  have hfl2 : ∀ v ∈ ((R.getD i default).1.hs.set k ⟨#[122]⟩).map Value.string, flat0 v = true := fun v hv => by
    obtain ⟨t, _, rfl⟩ := List.mem_map.1 hv; rfl
  obtain ⟨_, c4, h41, h42⟩ := row_cells (hw'.here 4 _ rfl) (el := 9) (sz := 1) (show 3 % 2 = 1 by decide) rfl (by kernel_rfl) (fun v hv => by
    have := hfl2 v hv
    unfold goodV
    split <;> first | rfl | exact this)
  rw [e4] at h41 h42
  cases h41
  have m4 : (ABlk.cells ⟨9, ((R.getD i default).1.hs.set k ⟨#[122]⟩).map Value.string, 3⟩).map (imgV ρ1) = ((R.getD i default).1.hs.set k ⟨#[122]⟩).flatMap hF := by
    show (((R.getD i default).1.hs.set k ⟨#[122]⟩).map Value.string).map (imgV ρ1) = _
    rw [← flatMap_one (f := Value.string)]
    exact (List.map_congr_left fun v hv => imgV_flat (hfl2 v (by rw [← flatMap_one (f := Value.string)]; exact hv))).trans (List.map_id _)
  rw [m4] at h42
  have ehN : NT.2.1 = .slice (some ⟨Bh, 0, none⟩) ((R.getD i default).1.hs.set k ⟨#[122]⟩).length ch := by rw [hNT, List.length_set]; exact eh
  have okN : okW w' NT := by
    have hr := rowV_of (f := hF) (sz := 1) (fun _ => rfl) (by decide) h42
    rw [← ehN] at hr
    have kb : ∀ b ∈ hblk (R.getD i default).2.2, w'.heap[b]? = w.heap[b]? := fun b hb => by
      obtain ⟨q1, q2⟩ := blkI b (List.mem_append.2 (.inr hb))
      exact kp b (okW_lt (hW.ok _ hm) q1) (hm5 i hi b q1).1 (hm5 i hi b q1).2 q2
    have ho : RowV w' bkV (R.getD i default).1.bk (R.getD i default).2.2 := by
      obtain ⟨oa, c, e, h⟩ := (hW.ok _ hm).b
      exact ⟨oa, c, e, opn_keep h fun k _ ⟨a, ea, eb, hp⟩ => kb k (eb ▸ rowV_blk ((hW.ok _ hm).b) e ea hp)⟩
    rw [hNT] at hr ⊢
    exact ⟨hr, ho⟩
  have ownN : OwnX n1 w' NT := by
    have kb : ∀ b ∈ hblk (R.getD i default).2.2, w'.heap[b]? = w.heap[b]? := fun b hb => by
      obtain ⟨q1, q2⟩ := blkI b (List.mem_append.2 (.inr hb))
      exact kp b (okW_lt (hW.ok _ hm) q1) (hm5 i hi b q1).1 (hm5 i hi b q1).2 q2
    have o1 : OwnV n1 w' 54 2 bkV (R.getD i default).1.bk (R.getD i default).2.2 := fun hp => by
      obtain ⟨B, c, e, g, r⟩ := (hW.own _ hm).b hp
      exact ⟨B, c, e, g, rowAt_keep r (kb B (by rw [e, hblk_own hp]; exact List.mem_singleton.2 rfl))⟩
    have o2 : OwnV n1 w' 9 1 hF ((R.getD i default).1.hs.set k ⟨#[122]⟩) NT.2.1 := fun _ => ⟨Bh, ch, ehN, hge, h42⟩
    rw [hNT] at o2 ⊢
    exact ⟨o2, o1⟩
  have lenN : NT.1.hs.length = (R.getD i default).1.hs.length ∧ NT.1.bk.length = (R.getD i default).1.bk.length := by rw [hNT]; exact ⟨by show (List.set _ _ _).length = _; rw [List.length_set], rfl⟩
  have memJ : ∀ t ∈ R.set i NT, t = NT ∨ ∃ j, j < R.length ∧ j ≠ i ∧ R.getD j default = t := fun t ht => by
    obtain ⟨j, hj, rfl⟩ := List.mem_iff_getElem.1 ht
    have hj' : j < R.length := by simpa using hj
    by_cases hji : j = i
    · subst hji; exact .inl (List.getElem_set_self _)
    · refine .inr ⟨j, hj', hji, ?_⟩
      rw [List.getElem_set_ne (Ne.symm hji), List.getD_eq_getElem?_getD, List.getElem?_eq_getElem hj']; rfl
  obtain ⟨r1, r2, r3, r4⟩ := hW.rest
  refine ⟨rfl, AFr.of hf1 e0 e1 e2 (fun t v hx => by simp only [List.mem_cons, Prod.mk.injEq, List.not_mem_nil, or_false] at hx; rcases hx with ⟨rfl, rfl⟩ | ⟨rfl, rfl⟩ <;> rfl), R.set i NT, ?_⟩
  refine ⟨⟨fzD, by rw [List.length_set, ← hbox]; exact hD, gD⟩, by rw [List.length_set]; exact hW.len, fun j => ?_, fun t ht => ?_, fun t ht => ?_, h32, by rw [flat_blks_set bNT hi]; exact hW.nd, fun j => (blks_set bNT hi).trans (hW.same j), ⟨hW.far.1, fun t ht => ?_⟩, fun b hb hb5 hbd hbj => (kp b (by omega) hb5 hbd (fun e => hbj i (by rw [← hW.same i, e]; exact mB))).trans (hW.keep b hb hb5 hbd hbj), ⟨hT.os.trans r1, hT.tape.trans r2, hT.output.trans r3, Nat.le_trans r4 hT.size⟩⟩
  · by_cases hji : j = i
    · subst hji
      rw [getD_set_eq' hi]
      exact ⟨lenN.1.trans (hW.lens j).1, lenN.2.trans (hW.lens j).2⟩
    · rw [getD_set_ne' hji]; exact hW.lens j
  · rcases memJ t ht with rfl | ⟨j, hj, hji, rfl⟩
    · exact okN
    · exact okW_keep (hW.ok _ (getD_mem' hj)) (kpj j hj hji)
  · rcases memJ t ht with rfl | ⟨j, hj, hji, rfl⟩
    · exact ownN
    · exact ownX_keep (hW.own _ (getD_mem' hj)) (kpj j hj hji)
  · rcases memJ t ht with rfl | ⟨j, hj, hji, rfl⟩
    · rw [bNT]; exact hW.far.2 _ hm
    · exact hW.far.2 _ (getD_mem' hj)
theorem st_b {wS : World} {n1 : Nat} {K : CfgS} {B2 B5 B6 Bd cap : Nat} {R0 R : List PX} {a : Act} {w : World} {wh : Int} {i k : Nat} (hW : WInv wS n1 K B5 Bd cap R0 R w) (hA : AFr wh B2 B5 B6 [(7, (i : Int)), (9, (k : Int))] a) (hi : i < R.length) (hk : k < (R.getD i default).1.bk.length) :
    (regN Try.prog 4 17).wp Try.prog (fun e a' w' => e = .normal ∧ AFr wh B2 B5 B6 [(7, (i : Int)), (9, (k : Int))] a' ∧ ∃ R' : List PX, WInv wS n1 K B5 Bd cap R0 R' w') a w := by
  have hm := getD_mem' hi
  obtain ⟨nd1, nd2⟩ := List.nodup_cons.1 hW.nd
  obtain ⟨Bh, ch, eh, hge, rh⟩ := (hW.own _ hm).b (by omega)
  have mB : Bh ∈ blks (R.getD i default) := List.mem_append.2 (.inr (by rw [eh, hblk_own (by omega)]; exact List.mem_singleton.2 rfl))
  have dB : Bh ≠ Bd := fun e => nd1 (List.mem_flatMap.2 ⟨_, hm, e ▸ mB⟩)
  have d5 : Bh ≠ B5 := fun e => hW.far.2 _ hm (e ▸ mB)
  have okS : ∀ t ∈ (R.set i (({ (R.getD i default).1 with bk := [] }, (R.getD i default).2.1, .slice none 0 0) : PX)), okW w t := fun t ht => by
    rcases List.mem_or_eq_of_mem_set ht with h | rfl
    · exact hW.ok t h
    · exact ⟨(hW.ok _ hm).h, ⟨none, 0, rfl, opn_nil⟩⟩
  have blkI : ∀ b ∈ blks (({ (R.getD i default).1 with bk := [] }, (R.getD i default).2.1, .slice none 0 0) : PX), b ∈ blks (R.getD i default) ∧ b ≠ Bh := fun b hb => by
    have hb2 : b ∈ hblk (R.getD i default).2.1 := (List.mem_append.1 hb).elim id (fun h => by cases h)
    refine ⟨List.mem_append.2 (.inl hb2), fun e => ?_⟩
    have h := nd_self nd2 hi
    have h3 := (List.nodup_append.1 h).2.2 b hb2 Bh (by rw [eh, hblk_own (by omega)]; exact List.mem_singleton.2 rfl)
    exact h3 e
  letI : Inhabited RawG := ⟨rawOf (entQ entD entD (R.set i (({ (R.getD i default).1 with bk := [] }, (R.getD i default).2.1, .slice none 0 0) : PX)))⟩
  have hcap : R.length ≤ cap := rowAt_le realP16 (by decide) hW.row
  have hv : VR (fun b => b < 5) (rhoL B2 B5 B6 Bd cap Bh ch) (.slice (some ⟨3, 0, none⟩) R.length R.length) (.slice (some ⟨Bd, 0, none⟩) R.length cap) :=
    VR.slice (D := fun b => b < 5) (ρ := (rhoL B2 B5 B6 Bd cap Bh ch)) 3 0 R.length R.length cap (by decide) hcap (fun h => by cases h) (fun c h _ => by cases h; rfl)
  have hvh : VR (fun b => b < 5) (rhoL B2 B5 B6 Bd cap Bh ch) (.slice (some ⟨4, 0, none⟩) (R.getD i default).1.bk.length (R.getD i default).1.bk.length) (R.getD i default).2.2 := by
    rw [eh]
    exact VR.slice (D := fun b => b < 5) (ρ := (rhoL B2 B5 B6 Bd cap Bh ch)) 4 0 _ _ ch (by decide) (rowAt_le (f := bkV) (sz := 2) (fun _ => rfl) (by decide) rh) (fun h => by cases h) (fun c h _ => by cases h; rfl)
  have gS : ∀ j, j ≠ i → (R.set i (({ (R.getD i default).1 with bk := [] }, (R.getD i default).2.1, .slice none 0 0) : PX)).getD j default = R.getD j default := fun j hj => getD_set_ne' hj
  have gI : (R.set i (({ (R.getD i default).1 with bk := [] }, (R.getD i default).2.1, .slice none 0 0) : PX)).getD i default = _ := getD_set_eq' hi
  have hvo : ∀ {D : Nat → Prop} {ρ : Nat → Pl}, VR D ρ (.slice (some ⟨2 + 2 * i, 0, some 2⟩) (R.getD i default).1.hs.length 0) (R.getD i default).2.1 := fun {D ρ} => by
    have v := vr_h (E0 := entD) (E1 := entD) (D := D) (ρ := ρ) okS i
    rw [gI] at v
    exact v
  have hvj : ∀ {D : Nat → Prop} {ρ : Nat → Pl} (j : Nat), j ≠ i → VR D ρ (.slice (some ⟨2 + 2 * j, 0, some 2⟩) (R.getD j default).1.hs.length 0) (R.getD j default).2.1 ∧ VR D ρ (.slice (some ⟨3 + 2 * j, 0, some 2⟩) (R.getD j default).1.bk.length 0) (R.getD j default).2.2 := fun {D ρ} j hj => by
    have v1 := vr_h (E0 := entD) (E1 := entD) (D := D) (ρ := ρ) okS j
    have v2 := vr_b (E0 := entD) (E1 := entD) (D := D) (ρ := ρ) okS j
    rw [gS j hj] at v1 v2
    exact ⟨v1, v2⟩
  have inH : ∀ c l, hget [(1, ⟨29, cfgC K (.slice (some ⟨3, 0, none⟩) R.length R.length), 0⟩), (3, ⟨46, ((engL R).set i ((R.getD i default).1, .slice (some ⟨2 + 2 * i, 0, some 2⟩) (R.getD i default).1.hs.length 0, .slice (some ⟨4, 0, none⟩) (R.getD i default).1.bk.length (R.getD i default).1.bk.length)).flatMap realP, 1⟩), (4, ⟨54, (R.getD i default).1.bk.flatMap bkV, 3⟩)] c = some l → (c = 1 ∨ c = 3 ∨ c = 4) := fun c l hc => by
    rcases hget_cons hc with ⟨rfl, _⟩ | hc
    · exact .inl rfl
    · rcases hget_cons hc with ⟨rfl, _⟩ | hc
      · exact .inr (.inl rfl)
      · rcases hget_cons hc with ⟨rfl, _⟩ | hc
        · exact .inr (.inr rfl)
        · exact (hget_nil _ _ hc).elim
  have hw : WR (szP Try.prog) (fun b => b < 5) (rhoL B2 B5 B6 Bd cap Bh ch) (hget [(1, ⟨29, cfgC K (.slice (some ⟨3, 0, none⟩) R.length R.length), 0⟩), (3, ⟨46, ((engL R).set i ((R.getD i default).1, .slice (some ⟨2 + 2 * i, 0, some 2⟩) (R.getD i default).1.hs.length 0, .slice (some ⟨4, 0, none⟩) (R.getD i default).1.bk.length (R.getD i default).1.bk.length)).flatMap realP, 1⟩), (4, ⟨54, (R.getD i default).1.bk.flatMap bkV, 3⟩)]) w := by
    refine wr_mk (fun b k hg => ?_) (fun b c k l hb hc hnbc => ?_) (rawL (rawAt_none _ rfl) (rawAt_none _ rfl) okS) (fun z a hc ha b k hg => ?_)
    · rcases hget_cons hg with ⟨rfl, rfl⟩ | hg
      · obtain ⟨fz, h1, h2⟩ := hW.dbox
        exact ⟨by decide, br_box (p := ⟨B5, 0, none⟩) rfl rfl h1 h2 rfl (cfg_rel (fun v h => .scal v h) hv)⟩
      · rcases hget_cons hg with ⟨rfl, rfl⟩ | hg
        · refine ⟨by decide, br_row (p := ⟨Bd, 0, some cap⟩) (sz := 16) rfl rfl hW.row (by kernel_rfl) ?_ (.inl rfl) (rel_rows (fun v h => .scal v h) ?_ fun j hj => ?_)⟩
          · rw [flatMap_len realP16, flatMap_len realP16, List.length_set, engL_len]
          · rw [List.length_set, engL_len]
          · rw [List.length_set, engL_len] at hj
            by_cases hji : j = i
            · subst hji
              rw [getD_set_eq' (by rw [engL_len]; exact hj)]
              exact ⟨rfl, hvo, hvh⟩
            · rw [getD_set_ne' hji, engL_get hj]
              exact ⟨rfl, (hvj j hji).1, (hvj j hji).2⟩
        · rcases hget_cons hg with ⟨rfl, rfl⟩ | hg
          · have hfl : ∀ v ∈ (R.getD i default).1.bk.flatMap bkV, flat0 v = true := fun v hv => by
              obtain ⟨t, _, ht⟩ := List.mem_flatMap.1 hv; simp at ht; rcases ht with rfl | rfl <;> rfl
            exact ⟨by decide, br_row (p := ⟨Bh, 0, some ch⟩) (sz := 2) (rc := (R.getD i default).1.bk.flatMap bkV) rfl rfl rh (by kernel_rfl) rfl (.inr ⟨rfl, fun v hv => clo0_of (hfl v hv)⟩) (fun z v hv => ⟨v, hv, .scal v (hfl v (List.mem_of_getElem? hv))⟩)⟩
          · exact (hget_nil _ _ hg).elim
    · have h5 := hW.far.1
      rcases inH b k hb with rfl | rfl | rfl <;> rcases inH c l hc with rfl | rfl | rfl
      · exact absurd rfl hnbc
      · show B5 ≠ Bd; omega
      · show B5 ≠ Bh; omega
      · show Bd ≠ B5; omega
      · exact absurd rfl hnbc
      · show Bd ≠ Bh; omega
      · show Bh ≠ B5; omega
      · show Bh ≠ Bd; omega
      · exact absurd rfl hnbc
    · change (entQ entD entD (R.set i (({ (R.getD i default).1 with bk := [] }, (R.getD i default).2.1, .slice none 0 0) : PX)) z).2.2.2 ≠ [] at hc
      change (entQ entD entD (R.set i (({ (R.getD i default).1 with bk := [] }, (R.getD i default).2.1, .slice none 0 0) : PX)) z).1 = some a at ha
      have hfar : a.block ≠ B5 ∧ a.block ≠ Bd ∧ a.block ≠ Bh := by
        by_cases z0 : z = 0
        · subst z0; exact absurd rfl hc
        · by_cases z1 : z = 1
          · subst z1; exact absurd rfl hc
          · obtain ⟨j, hj, hmj⟩ := far_rows okS (by omega) hc ha
            rw [List.length_set] at hj
            have hmm : a.block ∈ blks (R.getD j default) ∧ a.block ≠ Bh := by
              by_cases hji : j = i
              · subst hji
                rw [gI] at hmj
                exact blkI _ hmj
              · rw [gS j hji] at hmj
                exact ⟨hmj, fun e => nd_apart nd2 hi hj (Ne.symm hji) mB (e ▸ hmj)⟩
            have hmr := getD_mem' hj
            exact ⟨fun e => hW.far.2 _ hmr (e ▸ hmm.1), fun e => nd1 (List.mem_flatMap.2 ⟨_, hmr, e ▸ hmm.1⟩), hmm.2⟩
      rcases inH b k hg with rfl | rfl | rfl
      · exact Ne.symm hfar.1
      · exact Ne.symm hfar.2.1
      · exact Ne.symm hfar.2.2
  refine wp_mono (wl17 (E := ((engL R).set i ((R.getD i default).1, .slice (some ⟨2 + 2 * i, 0, some 2⟩) (R.getD i default).1.hs.length 0, .slice (some ⟨4, 0, none⟩) (R.getD i default).1.bk.length (R.getD i default).1.bk.length))) (p := (R.getD i default).1) (vo := .slice (some ⟨2 + 2 * i, 0, some 2⟩) (R.getD i default).1.hs.length 0) (n := R.length) (i := i) (k := k) (cn := K.cn) (re := K.re) (co := K.co) (rs := K.rs) (dl := K.dl) (rq := K.rq) (cs := K.cs) (br := K.br) (bs := K.bs) (bm := K.bm) (by_ := K.by_) (en := K.en) (li := K.li) (he := K.he) (ct := K.ct) (bo := K.bo) (q := K.q) (wh := wh) (by rw [List.length_set, engL_len]; exact hi) (by rw [List.length_set, engL_len]) (getD_set_eq' (by rw [engL_len]; exact hi)) hk _ _ a w (fun b h => h) (hA.fr (by decide) (by decide) (by decide)) hw) ?_
  rintro e a' w' ⟨rfl, hle, D1, ρ1, hT, hf1, hb1, hc1⟩
  have hw' := hT.wr
  have e0 : ρ1 0 = ⟨B2, 0, none⟩ := hT.same 0 (show (0 : Nat) < 5 by decide)
  have e1 : ρ1 1 = ⟨B5, 0, none⟩ := hT.same 1 (show (1 : Nat) < 5 by decide)
  have e2 : ρ1 2 = ⟨B6, 0, none⟩ := hT.same 2 (show (2 : Nat) < 5 by decide)
  have e3 : ρ1 3 = ⟨Bd, 0, some cap⟩ := hT.same 3 (show (3 : Nat) < 5 by decide)
  have e4 : ρ1 4 = ⟨Bh, 0, some ch⟩ := hT.same 4 (show (4 : Nat) < 5 by decide)
  have kp : ∀ b, b < w.heap.size → b ≠ B5 → b ≠ Bd → b ≠ Bh → w'.heap[b]? = w.heap[b]? := fun b hb h5 hd hh => t_keep hT hb fun c l hc => by
    rcases inH c l hc with rfl | rfl | rfl
    · exact Ne.symm h5
    · exact Ne.symm hd
    · exact Ne.symm hh
  obtain ⟨NT, hNT⟩ : ∃ NT : PX, NT = (({ (R.getD i default).1 with bk := ((R.getD i default).1.bk.set k (((R.getD i default).1.bk.getD k default).1, 4619567317775286272)) }, (R.getD i default).2) : PX) := ⟨_, rfl⟩
  have bNT : blks NT = blks (R.getD i default) := by rw [hNT]; rfl
  have hm5 : ∀ j, j < R.length → ∀ b ∈ blks (R.getD j default), b ≠ B5 ∧ b ≠ Bd := fun j hj b hb => ⟨fun e => hW.far.2 _ (getD_mem' hj) (e ▸ hb), fun e => nd1 (List.mem_flatMap.2 ⟨_, getD_mem' hj, e ▸ hb⟩)⟩
  have kpj : ∀ j, j < R.length → j ≠ i → ∀ b ∈ blks (R.getD j default), w'.heap[b]? = w.heap[b]? := fun j hj hji b hb =>
    kp b (okW_lt (hW.ok _ (getD_mem' hj)) hb) (hm5 j hj b hb).1 (hm5 j hj b hb).2 (fun e => nd_apart nd2 hi hj (Ne.symm hji) mB (e ▸ hb))
  obtain ⟨_, _, fzD, hD, gD⟩ := box_cells (hw'.here 1 _ rfl) rfl rfl
  rw [e1] at hD
  have hbox : (ABlk.cells ⟨29, cfgC K (.slice (some ⟨3, 0, none⟩) R.length R.length), 0⟩).map (imgV ρ1) = cfgC K (.slice (some ⟨Bd, 0, none⟩) R.length cap) := by
    have : imgV ρ1 (.slice (some ⟨3, 0, none⟩) R.length R.length) = .slice (some ⟨Bd, 0, none⟩) R.length cap := by
      show Value.slice (some ⟨(ρ1 3).blk, (ρ1 3).off, none⟩) R.length ((ρ1 3).cap.getD R.length) = _
      rw [e3]; rfl
    show cfgC K (imgV ρ1 (.slice (some ⟨3, 0, none⟩) R.length R.length)) = _
    rw [this]
  have hgood : ∀ v ∈ ((engL R).set i ((R.getD i default).1, .slice (some ⟨2 + 2 * i, 0, some 2⟩) (R.getD i default).1.hs.length 0, .slice (some ⟨4, 0, none⟩) (R.getD i default).1.bk.length (R.getD i default).1.bk.length)).flatMap realP, goodV v = true := fun v hv => by
    obtain ⟨t, ht, hv⟩ := List.mem_flatMap.1 hv
    rcases List.mem_or_eq_of_mem_set ht with ht | rfl
    · obtain ⟨j, _, rfl⟩ := List.mem_map.1 ht
      exact realP_good rfl rfl v hv
    · exact realP_good rfl rfl v hv
  obtain ⟨_, c3, h31, h32⟩ := row_cells (hw'.here 3 _ rfl) (el := 46) (sz := 16) (show 1 % 2 = 1 by decide) rfl (by kernel_rfl) hgood
  rw [e3] at h31 h32
  cases h31
  have hrow : (ABlk.cells ⟨46, ((engL R).set i ((R.getD i default).1, .slice (some ⟨2 + 2 * i, 0, some 2⟩) (R.getD i default).1.hs.length 0, .slice (some ⟨4, 0, none⟩) (R.getD i default).1.bk.length (R.getD i default).1.bk.length)).flatMap realP, 1⟩).map (imgV ρ1) = (R.set i NT).flatMap realP := by
    show (((engL R).set i ((R.getD i default).1, .slice (some ⟨2 + 2 * i, 0, some 2⟩) (R.getD i default).1.hs.length 0, .slice (some ⟨4, 0, none⟩) (R.getD i default).1.bk.length (R.getD i default).1.bk.length)).flatMap realP).map (imgV ρ1) = _
    refine row_img (by simp [engL_len]) fun j hj => ?_
    rw [List.length_set] at hj
    by_cases hji : j = i
    · subst hji
      rw [getD_set_eq' (by rw [engL_len]; exact hj), getD_set_eq' hj, hNT]
      have i1 : imgV ρ1 (.slice (some ⟨4, 0, none⟩) (R.getD j default).1.bk.length (R.getD j default).1.bk.length) = (R.getD j default).2.2 := by
        rw [eh]
        show Value.slice (some ⟨(ρ1 4).blk, (ρ1 4).off, none⟩) _ ((ρ1 4).cap.getD _) = _
        rw [e4]; rfl
      have i2 := (hvo (D := D1) (ρ := ρ1)).img rfl
      show realP ((R.getD j default).1, imgV ρ1 (.slice (some ⟨2 + 2 * j, 0, some 2⟩) (R.getD j default).1.hs.length 0), imgV ρ1 (.slice (some ⟨4, 0, none⟩) (R.getD j default).1.bk.length (R.getD j default).1.bk.length)) = _
      rw [i1, ← i2]
    · rw [getD_set_ne' hji, getD_set_ne' hji, engL_get hj]
      have i1 := (hvj (D := D1) (ρ := ρ1) j hji).1.img rfl
      have i2 := (hvj (D := D1) (ρ := ρ1) j hji).2.img rfl
      show realP ((R.getD j default).1, imgV ρ1 (.slice (some ⟨2 + 2 * j, 0, some 2⟩) (R.getD j default).1.hs.length 0), imgV ρ1 (.slice (some ⟨3 + 2 * j, 0, some 2⟩) (R.getD j default).1.bk.length 0)) = _
      rw [← i1, ← i2]
  rw [hrow] at h32
  have hfl2 : ∀ v ∈ ((R.getD i default).1.bk.set k (((R.getD i default).1.bk.getD k default).1, 4619567317775286272)).flatMap bkV, flat0 v = true := fun v hv => by
    obtain ⟨t, _, ht⟩ := List.mem_flatMap.1 hv; simp at ht; rcases ht with rfl | rfl <;> rfl
  obtain ⟨_, c4, h41, h42⟩ := row_cells (hw'.here 4 _ rfl) (el := 54) (sz := 2) (show 3 % 2 = 1 by decide) rfl (by kernel_rfl) (fun v hv => by
    have := hfl2 v hv
    unfold goodV
    split <;> first | rfl | exact this)
  rw [e4] at h41 h42
  cases h41
  have m4 : (ABlk.cells ⟨54, ((R.getD i default).1.bk.set k (((R.getD i default).1.bk.getD k default).1, 4619567317775286272)).flatMap bkV, 3⟩).map (imgV ρ1) = ((R.getD i default).1.bk.set k (((R.getD i default).1.bk.getD k default).1, 4619567317775286272)).flatMap bkV := by
    show (((R.getD i default).1.bk.set k (((R.getD i default).1.bk.getD k default).1, 4619567317775286272)).flatMap bkV).map (imgV ρ1) = _
    skip
    exact (List.map_congr_left fun v hv => imgV_flat (hfl2 v hv)).trans (List.map_id _)
  rw [m4] at h42
  have ehN : NT.2.2 = .slice (some ⟨Bh, 0, none⟩) ((R.getD i default).1.bk.set k (((R.getD i default).1.bk.getD k default).1, 4619567317775286272)).length ch := by rw [hNT, List.length_set]; exact eh
  have okN : okW w' NT := by
    have hr := rowV_of (f := bkV) (sz := 2) (fun _ => rfl) (by decide) h42
    rw [← ehN] at hr
    have kb : ∀ b ∈ hblk (R.getD i default).2.1, w'.heap[b]? = w.heap[b]? := fun b hb => by
      obtain ⟨q1, q2⟩ := blkI b (List.mem_append.2 (.inl hb))
      exact kp b (okW_lt (hW.ok _ hm) q1) (hm5 i hi b q1).1 (hm5 i hi b q1).2 q2
    have ho : RowV w' hF (R.getD i default).1.hs (R.getD i default).2.1 := by
      obtain ⟨oa, c, e, h⟩ := (hW.ok _ hm).h
      exact ⟨oa, c, e, opn_keep h fun k _ ⟨a, ea, eb, hp⟩ => kb k (eb ▸ rowV_blk ((hW.ok _ hm).h) e ea hp)⟩
    rw [hNT] at hr ⊢
    exact ⟨ho, hr⟩
  have ownN : OwnX n1 w' NT := by
    have kb : ∀ b ∈ hblk (R.getD i default).2.1, w'.heap[b]? = w.heap[b]? := fun b hb => by
      obtain ⟨q1, q2⟩ := blkI b (List.mem_append.2 (.inl hb))
      exact kp b (okW_lt (hW.ok _ hm) q1) (hm5 i hi b q1).1 (hm5 i hi b q1).2 q2
    have o1 : OwnV n1 w' 9 1 hF (R.getD i default).1.hs (R.getD i default).2.1 := fun hp => by
      obtain ⟨B, c, e, g, r⟩ := (hW.own _ hm).h hp
      exact ⟨B, c, e, g, rowAt_keep r (kb B (by rw [e, hblk_own hp]; exact List.mem_singleton.2 rfl))⟩
    have o2 : OwnV n1 w' 54 2 bkV ((R.getD i default).1.bk.set k (((R.getD i default).1.bk.getD k default).1, 4619567317775286272)) NT.2.2 := fun _ => ⟨Bh, ch, ehN, hge, h42⟩
    rw [hNT] at o2 ⊢
    exact ⟨o1, o2⟩
  have lenN : NT.1.hs.length = (R.getD i default).1.hs.length ∧ NT.1.bk.length = (R.getD i default).1.bk.length := by rw [hNT]; exact ⟨rfl, by show (List.set _ _ _).length = _; rw [List.length_set]⟩
  have memJ : ∀ t ∈ R.set i NT, t = NT ∨ ∃ j, j < R.length ∧ j ≠ i ∧ R.getD j default = t := fun t ht => by
    obtain ⟨j, hj, rfl⟩ := List.mem_iff_getElem.1 ht
    have hj' : j < R.length := by simpa using hj
    by_cases hji : j = i
    · subst hji; exact .inl (List.getElem_set_self _)
    · refine .inr ⟨j, hj', hji, ?_⟩
      rw [List.getElem_set_ne (Ne.symm hji), List.getD_eq_getElem?_getD, List.getElem?_eq_getElem hj']; rfl
  obtain ⟨r1, r2, r3, r4⟩ := hW.rest
  refine ⟨rfl, AFr.of hf1 e0 e1 e2 (fun t v hx => by simp only [List.mem_cons, Prod.mk.injEq, List.not_mem_nil, or_false] at hx; rcases hx with ⟨rfl, rfl⟩ | ⟨rfl, rfl⟩ <;> rfl), R.set i NT, ?_⟩
  refine ⟨⟨fzD, by rw [List.length_set, ← hbox]; exact hD, gD⟩, by rw [List.length_set]; exact hW.len, fun j => ?_, fun t ht => ?_, fun t ht => ?_, h32, by rw [flat_blks_set bNT hi]; exact hW.nd, fun j => (blks_set bNT hi).trans (hW.same j), ⟨hW.far.1, fun t ht => ?_⟩, fun b hb hb5 hbd hbj => (kp b (by omega) hb5 hbd (fun e => hbj i (by rw [← hW.same i, e]; exact mB))).trans (hW.keep b hb hb5 hbd hbj), ⟨hT.os.trans r1, hT.tape.trans r2, hT.output.trans r3, Nat.le_trans r4 hT.size⟩⟩
  · by_cases hji : j = i
    · subst hji
      rw [getD_set_eq' hi]
      exact ⟨lenN.1.trans (hW.lens j).1, lenN.2.trans (hW.lens j).2⟩
    · rw [getD_set_ne' hji]; exact hW.lens j
  · rcases memJ t ht with rfl | ⟨j, hj, hji, rfl⟩
    · exact okN
    · exact okW_keep (hW.ok _ (getD_mem' hj)) (kpj j hj hji)
  · rcases memJ t ht with rfl | ⟨j, hj, hji, rfl⟩
    · exact ownN
    · exact ownX_keep (hW.own _ (getD_mem' hj)) (kpj j hj hji)
  · rcases memJ t ht with rfl | ⟨j, hj, hji, rfl⟩
    · rw [bNT]; exact hW.far.2 _ hm
    · exact hW.far.2 _ (getD_mem' hj)
theorem st_r {wS : World} {n1 : Nat} {K : CfgS} {B2 B5 B6 Bd cap : Nat} {R0 R : List PX} {a : Act} {w : World} {wh : Int} {i k : Nat} (hW : WInv wS n1 K B5 Bd cap R0 R w) (hA : AFr wh B2 B5 B6 [(7, (i : Int))] a) (hi : i < R.length)  :
    (regN Try.prog 4 19).wp Try.prog (fun e a' w' => e = .normal ∧ AFr wh B2 B5 B6 [(7, (i : Int))] a' ∧ ∃ R' : List PX, WInv wS n1 K B5 Bd cap R0 R' w') a w := by
  have hm := getD_mem' hi
  obtain ⟨nd1, nd2⟩ := List.nodup_cons.1 hW.nd
  have okS : ∀ t ∈ R, okW w t := hW.ok
  letI : Inhabited RawG := ⟨rawOf (entQ entD entD R)⟩
  have hcap : R.length ≤ cap := rowAt_le realP16 (by decide) hW.row
  have hv : VR (fun b => b < 5) (rhoL B2 B5 B6 Bd cap 0 0) (.slice (some ⟨3, 0, none⟩) R.length R.length) (.slice (some ⟨Bd, 0, none⟩) R.length cap) :=
    VR.slice (D := fun b => b < 5) (ρ := (rhoL B2 B5 B6 Bd cap 0 0)) 3 0 R.length R.length cap (by decide) hcap (fun h => by cases h) (fun c h _ => by cases h; rfl)
  have hvj : ∀ {D : Nat → Prop} {ρ : Nat → Pl} (j : Nat), VR D ρ (.slice (some ⟨2 + 2 * j, 0, some 2⟩) (R.getD j default).1.hs.length 0) (R.getD j default).2.1 ∧ VR D ρ (.slice (some ⟨3 + 2 * j, 0, some 2⟩) (R.getD j default).1.bk.length 0) (R.getD j default).2.2 := fun {D ρ} j => by
    have v1 := vr_h (E0 := entD) (E1 := entD) (D := D) (ρ := ρ) okS j
    have v2 := vr_b (E0 := entD) (E1 := entD) (D := D) (ρ := ρ) okS j
    skip
    exact ⟨v1, v2⟩
  have inH : ∀ c l, hget [(1, ⟨29, cfgC K (.slice (some ⟨3, 0, none⟩) R.length R.length), 0⟩), (3, ⟨46, (engL R).flatMap realP, 1⟩)] c = some l → (c = 1 ∨ c = 3) := fun c l hc => by
    rcases hget_cons hc with ⟨rfl, _⟩ | hc
    · exact .inl rfl
    · rcases hget_cons hc with ⟨rfl, _⟩ | hc
      · exact .inr rfl
      · exact (hget_nil _ _ hc).elim
  have hw : WR (szP Try.prog) (fun b => b < 5) (rhoL B2 B5 B6 Bd cap 0 0) (hget [(1, ⟨29, cfgC K (.slice (some ⟨3, 0, none⟩) R.length R.length), 0⟩), (3, ⟨46, (engL R).flatMap realP, 1⟩)]) w := by
    refine wr_mk (fun b k hg => ?_) (fun b c k l hb hc hnbc => ?_) (rawL (rawAt_none _ rfl) (rawAt_none _ rfl) okS) (fun z a hc ha b k hg => ?_)
    · rcases hget_cons hg with ⟨rfl, rfl⟩ | hg
      · obtain ⟨fz, h1, h2⟩ := hW.dbox
        exact ⟨by decide, br_box (p := ⟨B5, 0, none⟩) rfl rfl h1 h2 rfl (cfg_rel (fun v h => .scal v h) hv)⟩
      · rcases hget_cons hg with ⟨rfl, rfl⟩ | hg
        · refine ⟨by decide, br_row (p := ⟨Bd, 0, some cap⟩) (sz := 16) rfl rfl hW.row (by kernel_rfl) ?_ (.inl rfl) (rel_rows (fun v h => .scal v h) ?_ fun j hj => ?_)⟩
          · rw [flatMap_len realP16, flatMap_len realP16, engL_len]
          · rw [engL_len]
          · rw [engL_len] at hj
            rw [engL_get hj]
            exact ⟨rfl, (hvj j).1, (hvj j).2⟩
        · exact (hget_nil _ _ hg).elim
    · have h5 := hW.far.1
      rcases inH b k hb with rfl | rfl <;> rcases inH c l hc with rfl | rfl
      · exact absurd rfl hnbc
      · show B5 ≠ Bd; omega
      · show Bd ≠ B5; omega
      · exact absurd rfl hnbc
    · change (entQ entD entD R z).2.2.2 ≠ [] at hc
      change (entQ entD entD R z).1 = some a at ha
      have hfar : a.block ≠ B5 ∧ a.block ≠ Bd := by
        by_cases z0 : z = 0
        · subst z0; exact absurd rfl hc
        · by_cases z1 : z = 1
          · subst z1; exact absurd rfl hc
          · obtain ⟨j, hj, hmj⟩ := far_rows okS (by omega) hc ha
            have hmr := getD_mem' hj
            exact ⟨fun e => hW.far.2 _ hmr (e ▸ hmj), fun e => nd1 (List.mem_flatMap.2 ⟨_, hmr, e ▸ hmj⟩)⟩
      rcases inH b k hg with rfl | rfl
      · exact Ne.symm hfar.1
      · exact Ne.symm hfar.2
  refine wp_mono (wl19 (E := (engL R)) (p := (R.getD i default).1) (vo := .nilFunc) (n := R.length) (i := i) (k := 0) (cn := K.cn) (re := K.re) (co := K.co) (rs := K.rs) (dl := K.dl) (rq := K.rq) (cs := K.cs) (br := K.br) (bs := K.bs) (bm := K.bm) (by_ := K.by_) (en := K.en) (li := K.li) (he := K.he) (ct := K.ct) (bo := K.bo) (q := K.q) (wh := wh) (by rw [engL_len]; exact hi) (engL_len R) _ _ a w (fun b h => h) (hA.fr (by decide) (by decide) (by decide)) hw) ?_
  rintro e a' w' ⟨rfl, hle, D1, ρ1, hT, hf1, hb1, hc1⟩
  have hw' := hT.wr
  have e0 : ρ1 0 = ⟨B2, 0, none⟩ := hT.same 0 (show (0 : Nat) < 5 by decide)
  have e1 : ρ1 1 = ⟨B5, 0, none⟩ := hT.same 1 (show (1 : Nat) < 5 by decide)
  have e2 : ρ1 2 = ⟨B6, 0, none⟩ := hT.same 2 (show (2 : Nat) < 5 by decide)
  have e3 : ρ1 3 = ⟨Bd, 0, some cap⟩ := hT.same 3 (show (3 : Nat) < 5 by decide)
  have kp : ∀ b, b < w.heap.size → b ≠ B5 → b ≠ Bd → w'.heap[b]? = w.heap[b]? := fun b hb h5 hd => t_keep hT hb fun c l hc => by
    rcases inH c l hc with rfl | rfl
    · exact Ne.symm h5
    · exact Ne.symm hd

  obtain ⟨NT, hNT⟩ : ∃ NT : PX, NT = (({ (R.getD i default).1 with nm := ⟨#[122]⟩ }, (R.getD i default).2) : PX) := ⟨_, rfl⟩
  have bNT : blks NT = blks (R.getD i default) := by rw [hNT]; rfl
  have hm5 : ∀ j, j < R.length → ∀ b ∈ blks (R.getD j default), b ≠ B5 ∧ b ≠ Bd := fun j hj b hb => ⟨fun e => hW.far.2 _ (getD_mem' hj) (e ▸ hb), fun e => nd1 (List.mem_flatMap.2 ⟨_, getD_mem' hj, e ▸ hb⟩)⟩
  have kpj : ∀ j, j < R.length → j ≠ i → ∀ b ∈ blks (R.getD j default), w'.heap[b]? = w.heap[b]? := fun j hj hji b hb =>
    kp b (okW_lt (hW.ok _ (getD_mem' hj)) hb) (hm5 j hj b hb).1 (hm5 j hj b hb).2
  obtain ⟨_, _, fzD, hD, gD⟩ := box_cells (hw'.here 1 _ rfl) rfl rfl
  rw [e1] at hD
  have hbox : (ABlk.cells ⟨29, cfgC K (.slice (some ⟨3, 0, none⟩) R.length R.length), 0⟩).map (imgV ρ1) = cfgC K (.slice (some ⟨Bd, 0, none⟩) R.length cap) := by
    have : imgV ρ1 (.slice (some ⟨3, 0, none⟩) R.length R.length) = .slice (some ⟨Bd, 0, none⟩) R.length cap := by
      show Value.slice (some ⟨(ρ1 3).blk, (ρ1 3).off, none⟩) R.length ((ρ1 3).cap.getD R.length) = _
      rw [e3]; rfl
    show cfgC K (imgV ρ1 (.slice (some ⟨3, 0, none⟩) R.length R.length)) = _
    rw [this]
  have hgood : ∀ v ∈ ((engL R).set i ({ ((engL R).getD i default).1 with nm := ⟨#[122]⟩ }, ((engL R).getD i default).2)).flatMap realP, goodV v = true := fun v hv => by
    obtain ⟨t, ht, hv⟩ := List.mem_flatMap.1 hv
    rcases List.mem_or_eq_of_mem_set ht with ht | rfl
    · obtain ⟨j, _, rfl⟩ := List.mem_map.1 ht
      exact realP_good rfl rfl v hv
    · rw [engL_get hi] at hv; exact realP_good rfl rfl v hv
  obtain ⟨_, c3, h31, h32⟩ := row_cells (hw'.here 3 _ rfl) (el := 46) (sz := 16) (show 1 % 2 = 1 by decide) rfl (by kernel_rfl) hgood
  rw [e3] at h31 h32
  cases h31
  have hrow : (ABlk.cells ⟨46, ((engL R).set i ({ ((engL R).getD i default).1 with nm := ⟨#[122]⟩ }, ((engL R).getD i default).2)).flatMap realP, 1⟩).map (imgV ρ1) = (R.set i NT).flatMap realP := by
    show (((engL R).set i ({ ((engL R).getD i default).1 with nm := ⟨#[122]⟩ }, ((engL R).getD i default).2)).flatMap realP).map (imgV ρ1) = _
    refine row_img (by simp [engL_len]) fun j hj => ?_
    rw [List.length_set] at hj
    by_cases hji : j = i
    · subst hji
      rw [getD_set_eq' (by rw [engL_len]; exact hj), getD_set_eq' hj, hNT]
      rw [engL_get hj]
      have i1 := (hvj (D := D1) (ρ := ρ1) j).1.img rfl
      have i2 := (hvj (D := D1) (ρ := ρ1) j).2.img rfl
      show realP ({ (R.getD j default).1 with nm := ⟨#[122]⟩ }, imgV ρ1 (.slice (some ⟨2 + 2 * j, 0, some 2⟩) (R.getD j default).1.hs.length 0), imgV ρ1 (.slice (some ⟨3 + 2 * j, 0, some 2⟩) (R.getD j default).1.bk.length 0)) = _
      rw [← i1, ← i2]
    · rw [getD_set_ne' hji, getD_set_ne' hji, engL_get hj]
      have i1 := (hvj (D := D1) (ρ := ρ1) j).1.img rfl
      have i2 := (hvj (D := D1) (ρ := ρ1) j).2.img rfl
      show realP ((R.getD j default).1, imgV ρ1 (.slice (some ⟨2 + 2 * j, 0, some 2⟩) (R.getD j default).1.hs.length 0), imgV ρ1 (.slice (some ⟨3 + 2 * j, 0, some 2⟩) (R.getD j default).1.bk.length 0)) = _
      rw [← i1, ← i2]
  rw [hrow] at h32
  have kpi : ∀ b ∈ blks (R.getD i default), w'.heap[b]? = w.heap[b]? := fun b hb => kp b (okW_lt (hW.ok _ hm) hb) (hm5 i hi b hb).1 (hm5 i hi b hb).2
  have okN : okW w' NT := by
    have h := okW_keep (hW.ok _ hm) kpi
    rw [hNT]; exact ⟨h.h, h.b⟩
  have ownN : OwnX n1 w' NT := by
    have h := ownX_keep (hW.own _ hm) kpi
    rw [hNT]; exact ⟨h.h, h.b⟩
  have lenN : NT.1.hs.length = (R.getD i default).1.hs.length ∧ NT.1.bk.length = (R.getD i default).1.bk.length := by rw [hNT]; exact ⟨rfl, rfl⟩
  have memJ : ∀ t ∈ R.set i NT, t = NT ∨ ∃ j, j < R.length ∧ j ≠ i ∧ R.getD j default = t := fun t ht => by
    obtain ⟨j, hj, rfl⟩ := List.mem_iff_getElem.1 ht
    have hj' : j < R.length := by simpa using hj
    by_cases hji : j = i
    · subst hji; exact .inl (List.getElem_set_self _)
    · refine .inr ⟨j, hj', hji, ?_⟩
      rw [List.getElem_set_ne (Ne.symm hji), List.getD_eq_getElem?_getD, List.getElem?_eq_getElem hj']; rfl
  obtain ⟨r1, r2, r3, r4⟩ := hW.rest
  refine ⟨rfl, AFr.of hf1 e0 e1 e2 (fun t v hx => by simp only [List.mem_cons, Prod.mk.injEq, List.not_mem_nil, or_false] at hx; obtain ⟨rfl, rfl⟩ := hx; rfl), R.set i NT, ?_⟩
  refine ⟨⟨fzD, by rw [List.length_set, ← hbox]; exact hD, gD⟩, by rw [List.length_set]; exact hW.len, fun j => ?_, fun t ht => ?_, fun t ht => ?_, h32, by rw [flat_blks_set bNT hi]; exact hW.nd, fun j => (blks_set bNT hi).trans (hW.same j), ⟨hW.far.1, fun t ht => ?_⟩, fun b hb hb5 hbd hbj => (kp b (by omega) hb5 hbd).trans (hW.keep b hb hb5 hbd hbj), ⟨hT.os.trans r1, hT.tape.trans r2, hT.output.trans r3, Nat.le_trans r4 hT.size⟩⟩
  · by_cases hji : j = i
    · subst hji
      rw [getD_set_eq' hi]
      exact ⟨lenN.1.trans (hW.lens j).1, lenN.2.trans (hW.lens j).2⟩
    · rw [getD_set_ne' hji]; exact hW.lens j
  · rcases memJ t ht with rfl | ⟨j, hj, hji, rfl⟩
    · exact okN
    · exact okW_keep (hW.ok _ (getD_mem' hj)) (kpj j hj hji)
  · rcases memJ t ht with rfl | ⟨j, hj, hji, rfl⟩
    · exact ownN
    · exact ownX_keep (hW.own _ (getD_mem' hj)) (kpj j hj hji)
  · rcases memJ t ht with rfl | ⟨j, hj, hji, rfl⟩
    · rw [bNT]; exact hW.far.2 _ hm
    · exact hW.far.2 _ (getD_mem' hj)
end
section
open Go.RowKit
set_option linter.unusedSimpArgs false
set_option linter.unusedVariables false
set_option linter.unusedSectionVars false
set_option maxRecDepth 100000
theorem loop41 : loopN Try.prog 4 1 = Code.seq (Code.seq (regN Try.prog 4 12) (Code.cond (.tmp 46) Code.skip (Code.exit 2))) (Code.seq (Code.block 3 (regN Try.prog 4 13)) (regN Try.prog 4 14)) := by kernel_rfl
theorem loop42 : loopN Try.prog 4 2 = Code.seq (Code.seq (regN Try.prog 4 16) (Code.cond (.tmp 65) Code.skip (Code.exit 4))) (Code.seq (Code.block 5 (regN Try.prog 4 17)) (regN Try.prog 4 18)) := by kernel_rfl
theorem loop40 : loopN Try.prog 4 0 = Code.seq (Code.seq (regN Try.prog 4 10) (Code.cond (.tmp 35) Code.skip (Code.exit 0))) (Code.seq (Code.block 1 (Code.seq (Code.seq (regN Try.prog 4 11) (Code.block 2 (Code.loop (loopN Try.prog 4 1)))) (Code.seq (Code.seq (regN Try.prog 4 15) (Code.block 4 (Code.loop (loopN Try.prog 4 2)))) (regN Try.prog 4 19)))) (regN Try.prog 4 20)) := by kernel_rfl
theorem AFr.less {wh : Int} {B2 B5 B6 : Nat} {ex ex' : List (Nat × Int)} {a : Act} (h : AFr wh B2 B5 B6 ex a) (hs : ∀ x ∈ ex', x ∈ ex) : AFr wh B2 B5 B6 ex' a := ⟨h.size, h.defers, h.t1, h.t2, h.t5, h.t6, fun t v hx => h.ex t v (hs _ hx)⟩
/-- The loop over the hs of a pool. -/
theorem w_hosts {wS : World} {n1 : Nat} {K : CfgS} {B2 B5 B6 Bd cap : Nat} {R0 : List PX} {wh : Int} {i : Nat} (h9 : ∀ j, (R0.getD j default).1.hs.length ≤ 9000000000 ∧ (R0.getD j default).1.bk.length ≤ 9000000000) : ∀ (m k : Nat) (R : List PX) (a : Act) (w : World), k + m = (R0.getD i default).1.hs.length → i < R.length → WInv wS n1 K B5 Bd cap R0 R w → AFr wh B2 B5 B6 [(7, (i : Int)), (8, (k : Int))] a →
    Code.rounds Try.prog (loopN Try.prog 4 1) (fun e a' w' => e = .exit 2 ∧ AFr wh B2 B5 B6 [(7, (i : Int))] a' ∧ ∃ R' : List PX, WInv wS n1 K B5 Bd cap R0 R' w') (m + 1) a w
  | m, k, R, a, w, hkm, hi, hW, hA => by
    have hl := (hW.lens i).1
    have hi' : i < (numS R 0).length := by rw [numS_len]; exact hi
    have hr : (@rg ⟨rawOf (insL Bd cap R)⟩).cells 0 = (numS R 0).flatMap poolF := rfl
    have hc : ((numS R 0).flatMap poolF)[0 + i * 16 + 1]? = some (Value.slice (some ⟨((numS R 0).getD i default).ih, 0, some 2⟩) ((numS R 0).getD i default).hs.length 0) := flatMap_cell (c := 1) pool16 default hi' (by decide)
    have hpl : ((numS R 0).getD i default).hs.length = (R.getD i default).1.hs.length := by rw [numS_get hi]; rfl
    have hb9 := h9 i
    rw [rounds_succ, loop41]
    match m with
    | 0 =>
      refine wp_seq (wp_mono (ro_run (ex' := [(7, (i : Int))]) hW hA (letI : Inhabited RawG := ⟨rawOf (insL Bd cap R)⟩; wl12e (ps := numS R 0) (n := 0) (i := i) (k := k) (cn := K.cn) (re := K.re) (co := K.co) (rs := K.rs) (dl := K.dl) (rq := K.rq) (cs := K.cs) (br := K.br) (bs := K.bs) (bm := K.bm) (by_ := K.by_) (en := K.en) (li := K.li) (he := K.he) (ct := K.ct) (bo := K.bo) (q := K.q) (wh := wh) hi' (by rw [hr]; exact hc) (by rw [hpl]; omega)) (fun t v hx => by simp only [List.mem_cons, Prod.mk.injEq, List.not_mem_nil, or_false] at hx; obtain ⟨rfl, rfl⟩ := hx; rfl)) ?_)
      rintro e a1 w1 ⟨rfl, hA1, hW1⟩
      exact ⟨rfl, hA1, R, hW1⟩
    | m + 1 =>
      refine wp_seq (wp_mono (ro_run (ex' := [(7, (i : Int)), (8, (k : Int))]) hW hA (letI : Inhabited RawG := ⟨rawOf (insL Bd cap R)⟩; wl12 (ps := numS R 0) (n := 0) (i := i) (k := k) (cn := K.cn) (re := K.re) (co := K.co) (rs := K.rs) (dl := K.dl) (rq := K.rq) (cs := K.cs) (br := K.br) (bs := K.bs) (bm := K.bm) (by_ := K.by_) (en := K.en) (li := K.li) (he := K.he) (ct := K.ct) (bo := K.bo) (q := K.q) (wh := wh) hi' (by rw [hr]; exact hc) (by rw [hpl]; omega)) (fun t v hx => by simp only [List.mem_cons, Prod.mk.injEq, List.not_mem_nil, or_false] at hx; rcases hx with ⟨rfl, rfl⟩ | ⟨rfl, rfl⟩ <;> rfl)) ?_)
      rintro e a1 w1 ⟨rfl, hA1, hW1⟩
      refine wp_seq (wp_block (wp_mono (st_h hW1 hA1 hi (by omega)) ?_))
      rintro e a2 w2 ⟨rfl, hA2, R2, hW2⟩
      have hA3 : ((regN Try.prog 4 14).wp Try.prog (fun e a' w' => e = .normal ∧ AFr wh B2 B5 B6 [(7, (i : Int)), (8, ((k + 1 : Nat) : Int))] a' ∧ WInv wS n1 K B5 Bd cap R0 R2 w') a2 w2) := ro_run (ax := .normal) (ex' := [(7, (i : Int)), (8, ((k + 1 : Nat) : Int))]) hW2 hA2 (letI : Inhabited RawG := ⟨rawOf (insL Bd cap R2)⟩; wl14 (ps := numS R2 0) (n := 0) (i := i) (k := k) (cn := K.cn) (re := K.re) (co := K.co) (rs := K.rs) (dl := K.dl) (rq := K.rq) (cs := K.cs) (br := K.br) (bs := K.bs) (bm := K.bm) (by_ := K.by_) (en := K.en) (li := K.li) (he := K.he) (ct := K.ct) (bo := K.bo) (q := K.q) (wh := wh) (by omega)) (fun t v hx => by simp only [List.mem_cons, Prod.mk.injEq, List.not_mem_nil, or_false] at hx; rcases hx with ⟨rfl, rfl⟩ | ⟨rfl, rfl⟩ <;> rfl)
      refine wp_mono hA3 ?_
      rintro e a3 w3 ⟨rfl, hA4, hW3⟩
      exact w_hosts h9 m (k + 1) R2 a3 w3 (by omega) (by rw [hW2.len, ← hW.len]; exact hi) hW3 hA4
/-- The loop over the bk of a pool. -/
theorem w_backs {wS : World} {n1 : Nat} {K : CfgS} {B2 B5 B6 Bd cap : Nat} {R0 : List PX} {wh : Int} {i : Nat} (h9 : ∀ j, (R0.getD j default).1.hs.length ≤ 9000000000 ∧ (R0.getD j default).1.bk.length ≤ 9000000000) : ∀ (m k : Nat) (R : List PX) (a : Act) (w : World), k + m = (R0.getD i default).1.bk.length → i < R.length → WInv wS n1 K B5 Bd cap R0 R w → AFr wh B2 B5 B6 [(7, (i : Int)), (9, (k : Int))] a →
    Code.rounds Try.prog (loopN Try.prog 4 2) (fun e a' w' => e = .exit 4 ∧ AFr wh B2 B5 B6 [(7, (i : Int))] a' ∧ ∃ R' : List PX, WInv wS n1 K B5 Bd cap R0 R' w') (m + 1) a w
  | m, k, R, a, w, hkm, hi, hW, hA => by
    have hl := (hW.lens i).2
    have hi' : i < (numS R 0).length := by rw [numS_len]; exact hi
    have hr : (@rg ⟨rawOf (insL Bd cap R)⟩).cells 0 = (numS R 0).flatMap poolF := rfl
    have hc : ((numS R 0).flatMap poolF)[0 + i * 16 + 2]? = some (Value.slice (some ⟨((numS R 0).getD i default).ib, 0, some 2⟩) ((numS R 0).getD i default).bk.length 0) := flatMap_cell (c := 2) pool16 default hi' (by decide)
    have hpl : ((numS R 0).getD i default).bk.length = (R.getD i default).1.bk.length := by rw [numS_get hi]; rfl
    have hb9 := h9 i
    rw [rounds_succ, loop42]
    match m with
    | 0 =>
      refine wp_seq (wp_mono (ro_run (ex' := [(7, (i : Int))]) hW hA (letI : Inhabited RawG := ⟨rawOf (insL Bd cap R)⟩; wl16e (ps := numS R 0) (n := 0) (i := i) (k := k) (cn := K.cn) (re := K.re) (co := K.co) (rs := K.rs) (dl := K.dl) (rq := K.rq) (cs := K.cs) (br := K.br) (bs := K.bs) (bm := K.bm) (by_ := K.by_) (en := K.en) (li := K.li) (he := K.he) (ct := K.ct) (bo := K.bo) (q := K.q) (wh := wh) hi' (by rw [hr]; exact hc) (by rw [hpl]; omega)) (fun t v hx => by simp only [List.mem_cons, Prod.mk.injEq, List.not_mem_nil, or_false] at hx; obtain ⟨rfl, rfl⟩ := hx; rfl)) ?_)
      rintro e a1 w1 ⟨rfl, hA1, hW1⟩
      exact ⟨rfl, hA1, R, hW1⟩
    | m + 1 =>
      refine wp_seq (wp_mono (ro_run (ex' := [(7, (i : Int)), (9, (k : Int))]) hW hA (letI : Inhabited RawG := ⟨rawOf (insL Bd cap R)⟩; wl16 (ps := numS R 0) (n := 0) (i := i) (k := k) (cn := K.cn) (re := K.re) (co := K.co) (rs := K.rs) (dl := K.dl) (rq := K.rq) (cs := K.cs) (br := K.br) (bs := K.bs) (bm := K.bm) (by_ := K.by_) (en := K.en) (li := K.li) (he := K.he) (ct := K.ct) (bo := K.bo) (q := K.q) (wh := wh) hi' (by rw [hr]; exact hc) (by rw [hpl]; omega)) (fun t v hx => by simp only [List.mem_cons, Prod.mk.injEq, List.not_mem_nil, or_false] at hx; rcases hx with ⟨rfl, rfl⟩ | ⟨rfl, rfl⟩ <;> rfl)) ?_)
      rintro e a1 w1 ⟨rfl, hA1, hW1⟩
      refine wp_seq (wp_block (wp_mono (st_b hW1 hA1 hi (by omega)) ?_))
      rintro e a2 w2 ⟨rfl, hA2, R2, hW2⟩
      have hA3 : ((regN Try.prog 4 18).wp Try.prog (fun e a' w' => e = .normal ∧ AFr wh B2 B5 B6 [(7, (i : Int)), (9, ((k + 1 : Nat) : Int))] a' ∧ WInv wS n1 K B5 Bd cap R0 R2 w') a2 w2) := ro_run (ax := .normal) (ex' := [(7, (i : Int)), (9, ((k + 1 : Nat) : Int))]) hW2 hA2 (letI : Inhabited RawG := ⟨rawOf (insL Bd cap R2)⟩; wl18 (ps := numS R2 0) (n := 0) (i := i) (k := k) (cn := K.cn) (re := K.re) (co := K.co) (rs := K.rs) (dl := K.dl) (rq := K.rq) (cs := K.cs) (br := K.br) (bs := K.bs) (bm := K.bm) (by_ := K.by_) (en := K.en) (li := K.li) (he := K.he) (ct := K.ct) (bo := K.bo) (q := K.q) (wh := wh) (by omega)) (fun t v hx => by simp only [List.mem_cons, Prod.mk.injEq, List.not_mem_nil, or_false] at hx; rcases hx with ⟨rfl, rfl⟩ | ⟨rfl, rfl⟩ <;> rfl)
      refine wp_mono hA3 ?_
      rintro e a3 w3 ⟨rfl, hA4, hW3⟩
      exact w_backs h9 m (k + 1) R2 a3 w3 (by omega) (by rw [hW2.len, ← hW.len]; exact hi) hW3 hA4
/-- The loop over the pools. -/
theorem w_pools {wS : World} {n1 : Nat} {K : CfgS} {B2 B5 B6 Bd cap : Nat} {R0 : List PX} {wh : Int} (h9 : ∀ j, (R0.getD j default).1.hs.length ≤ 9000000000 ∧ (R0.getD j default).1.bk.length ≤ 9000000000) (hn : R0.length ≤ 9000000000) : ∀ (m i : Nat) (R : List PX) (a : Act) (w : World), i + m = R0.length → WInv wS n1 K B5 Bd cap R0 R w → AFr wh B2 B5 B6 [(7, (i : Int))] a →
    Code.rounds Try.prog (loopN Try.prog 4 0) (fun e a' w' => e = .exit 0 ∧ AFr wh B2 B5 B6 [] a' ∧ ∃ R' : List PX, WInv wS n1 K B5 Bd cap R0 R' w') (m + 1) a w
  | m, i, R, a, w, him, hW, hA => by
    have hlen := hW.len
    rw [rounds_succ, loop40]
    match m with
    | 0 =>
      refine wp_seq (wp_mono (ro_run (ex' := [(7, (i : Int))]) hW hA (letI : Inhabited RawG := ⟨rawOf (insL Bd cap R)⟩; wl10e (ps := numS R 0) (n := 0) (i := i) (k := 0) (cn := K.cn) (re := K.re) (co := K.co) (rs := K.rs) (dl := K.dl) (rq := K.rq) (cs := K.cs) (br := K.br) (bs := K.bs) (bm := K.bm) (by_ := K.by_) (en := K.en) (li := K.li) (he := K.he) (ct := K.ct) (bo := K.bo) (q := K.q) (wh := wh) (by rw [numS_len]; omega)) (fun t v hx => by simp only [List.mem_cons, Prod.mk.injEq, List.not_mem_nil, or_false] at hx; obtain ⟨rfl, rfl⟩ := hx; rfl)) ?_)
      rintro e a1 w1 ⟨rfl, hA1, hW1⟩
      exact ⟨rfl, hA1.less (fun x hx => by cases hx), R, hW1⟩
    | m + 1 =>
      refine wp_seq (wp_mono (ro_run (ex' := [(7, (i : Int))]) hW hA (letI : Inhabited RawG := ⟨rawOf (insL Bd cap R)⟩; wl10 (ps := numS R 0) (n := 0) (i := i) (k := 0) (cn := K.cn) (re := K.re) (co := K.co) (rs := K.rs) (dl := K.dl) (rq := K.rq) (cs := K.cs) (br := K.br) (bs := K.bs) (bm := K.bm) (by_ := K.by_) (en := K.en) (li := K.li) (he := K.he) (ct := K.ct) (bo := K.bo) (q := K.q) (wh := wh) (by rw [numS_len]; omega)) (fun t v hx => by simp only [List.mem_cons, Prod.mk.injEq, List.not_mem_nil, or_false] at hx; obtain ⟨rfl, rfl⟩ := hx; rfl)) ?_)
      rintro e a1 w1 ⟨rfl, hA1, hW1⟩
      refine wp_seq (wp_block (wp_seq (wp_seq (wp_mono (ro_run (ex' := [(7, (i : Int)), (8, ((0 : Nat) : Int))]) hW1 hA1 (letI : Inhabited RawG := ⟨rawOf (insL Bd cap R)⟩; wl11 (ps := numS R 0) (n := 0) (i := i) (k := 0) (cn := K.cn) (re := K.re) (co := K.co) (rs := K.rs) (dl := K.dl) (rq := K.rq) (cs := K.cs) (br := K.br) (bs := K.bs) (bm := K.bm) (by_ := K.by_) (en := K.en) (li := K.li) (he := K.he) (ct := K.ct) (bo := K.bo) (q := K.q) (wh := wh)) (fun t v hx => by simp only [List.mem_cons, Prod.mk.injEq, List.not_mem_nil, or_false] at hx; rcases hx with ⟨rfl, rfl⟩ | ⟨rfl, rfl⟩ <;> rfl)) ?_))))
      rintro e a2 w2 ⟨rfl, hA2, hW2⟩
      refine wp_block (wp_loop_rounds ((R0.getD i default).1.hs.length + 1) (rounds_mono ?_ _ _ _ (w_hosts h9 (R0.getD i default).1.hs.length 0 R a2 w2 (by omega) (by omega) hW2 hA2)))
      rintro e a3 w3 ⟨rfl, hA3, R3, hW3⟩
      have hl3 := hW3.len
      show (Code.seq (Code.seq (regN Try.prog 4 15) (Code.block 4 (Code.loop (loopN Try.prog 4 2)))) (regN Try.prog 4 19)).wp Try.prog _ a3 w3
      refine wp_seq (wp_seq (wp_mono (ro_run (ex' := [(7, (i : Int)), (9, ((0 : Nat) : Int))]) hW3 hA3 (letI : Inhabited RawG := ⟨rawOf (insL Bd cap R3)⟩; wl15 (ps := numS R3 0) (n := 0) (i := i) (k := 0) (cn := K.cn) (re := K.re) (co := K.co) (rs := K.rs) (dl := K.dl) (rq := K.rq) (cs := K.cs) (br := K.br) (bs := K.bs) (bm := K.bm) (by_ := K.by_) (en := K.en) (li := K.li) (he := K.he) (ct := K.ct) (bo := K.bo) (q := K.q) (wh := wh)) (fun t v hx => by simp only [List.mem_cons, Prod.mk.injEq, List.not_mem_nil, or_false] at hx; rcases hx with ⟨rfl, rfl⟩ | ⟨rfl, rfl⟩ <;> rfl)) ?_))
      rintro e a4 w4 ⟨rfl, hA4, hW4⟩
      refine wp_block (wp_loop_rounds ((R0.getD i default).1.bk.length + 1) (rounds_mono ?_ _ _ _ (w_backs h9 (R0.getD i default).1.bk.length 0 R3 a4 w4 (by omega) (by omega) hW4 hA4)))
      rintro e a5 w5 ⟨rfl, hA5, R5, hW5⟩
      have hl5 := hW5.len
      show (regN Try.prog 4 19).wp Try.prog _ a5 w5
      refine wp_mono (st_r (i := i) (k := 0) hW5 hA5 (by omega)) ?_
      rintro e a6 w6 ⟨rfl, hA6, R6, hW6⟩
      show (regN Try.prog 4 20).wp Try.prog _ a6 w6
      have hA7 : (regN Try.prog 4 20).wp Try.prog (fun e a' w' => e = .normal ∧ AFr wh B2 B5 B6 [(7, ((i + 1 : Nat) : Int))] a' ∧ WInv wS n1 K B5 Bd cap R0 R6 w') a6 w6 := ro_run (ax := .normal) (ex' := [(7, ((i + 1 : Nat) : Int))]) hW6 hA6 (letI : Inhabited RawG := ⟨rawOf (insL Bd cap R6)⟩; wl20 (ps := numS R6 0) (n := 0) (i := i) (k := 0) (cn := K.cn) (re := K.re) (co := K.co) (rs := K.rs) (dl := K.dl) (rq := K.rq) (cs := K.cs) (br := K.br) (bs := K.bs) (bm := K.bm) (by_ := K.by_) (en := K.en) (li := K.li) (he := K.he) (ct := K.ct) (bo := K.bo) (q := K.q) (wh := wh) (by omega)) (fun t v hx => by simp only [List.mem_cons, Prod.mk.injEq, List.not_mem_nil, or_false] at hx; obtain ⟨rfl, rfl⟩ := hx; rfl)
      refine wp_mono hA7 ?_
      rintro e a7 w7 ⟨rfl, hA8, hW8⟩
      exact w_pools h9 hn m (i + 1) R6 a7 w7 (by omega) hW8 hA8
/-- The writing. -/
theorem w_all {wS : World} {n1 : Nat} {K : CfgS} {B2 B5 B6 Bd cap : Nat} {R0 : List PX} {wh : Int} {a : Act} {w : World} (h9 : ∀ j, (R0.getD j default).1.hs.length ≤ 9000000000 ∧ (R0.getD j default).1.bk.length ≤ 9000000000) (hn : R0.length ≤ 9000000000) (hW : WInv wS n1 K B5 Bd cap R0 R0 w) (hA : AFr wh B2 B5 B6 [] a) :
    (Code.seq (regN Try.prog 4 9) (Code.block 0 (Code.loop (loopN Try.prog 4 0)))).wp Try.prog (fun e a' w' => e = .normal ∧ AFr wh B2 B5 B6 [] a' ∧ ∃ R' : List PX, WInv wS n1 K B5 Bd cap R0 R' w') a w := by
  refine wp_seq (wp_mono (ro_run (ex' := [(7, ((0 : Nat) : Int))]) hW hA (letI : Inhabited RawG := ⟨rawOf (insL Bd cap R0)⟩; wl9 (ps := numS R0 0) (n := 0) (i := 0) (k := 0) (cn := K.cn) (re := K.re) (co := K.co) (rs := K.rs) (dl := K.dl) (rq := K.rq) (cs := K.cs) (br := K.br) (bs := K.bs) (bm := K.bm) (by_ := K.by_) (en := K.en) (li := K.li) (he := K.he) (ct := K.ct) (bo := K.bo) (q := K.q) (wh := wh)) (fun t v hx => by simp only [List.mem_cons, Prod.mk.injEq, List.not_mem_nil, or_false] at hx; obtain ⟨rfl, rfl⟩ := hx; rfl)) ?_)
  rintro e a1 w1 ⟨rfl, hA1, hW1⟩
  refine wp_block (wp_loop_rounds (R0.length + 1) (rounds_mono ?_ _ _ _ (w_pools h9 hn R0.length 0 R0 a1 w1 (by omega) hW1 hA1)))
  rintro e a2 w2 ⟨rfl, hA2, R2, hW2⟩
  exact ⟨rfl, hA2, R2, hW2⟩
end
section
open Go.RowKit
set_option linter.unusedSimpArgs false
set_option linter.unusedVariables false
set_option linter.unusedSectionVars false
set_option maxRecDepth 100000
/-- A frame of numbers and of pointers to boxes. -/
abbrev frG (is : List (Nat × Int)) (ps : List (Nat × Nat)) : List Value := mkF ((is.map fun p => (p.1, Value.int .i64 p.2)) ++ ps.map fun p => (p.1, Value.pointer (some ⟨p.2, 0, none⟩))) 116 0
structure AG (Bf : Nat → Nat) (is : List (Nat × Int)) (ps : List (Nat × Nat)) (a : Act) : Prop where
  size : a.tmps.size = 116
  defers : a.defers = []
  int : ∀ t v, (t, v) ∈ is → a.tmps.getD t undef = .int .i64 v
  ptr : ∀ t b, (t, b) ∈ ps → a.tmps.getD t undef = .pointer (some ⟨Bf b, 0, none⟩)
abbrev rhoG (Bf : Nat → Nat) : Nat → Pl := fun b => ⟨Bf b, 0, none⟩
theorem AG.fr [Inhabited RawG] {Bf : Nat → Nat} {is : List (Nat × Int)} {ps : List (Nat × Nat)} {a : Act} {D : Nat → Prop} {ρ : Nat → Pl} (h : AG Bf is ps a) (hp : ∀ t b, (t, b) ∈ ps → D b ∧ ρ b = ⟨Bf b, 0, none⟩) : FR [] D ρ (frG is ps) a := by
  refine fr_mk h.size h.defers fun t v hm => ?_
  rcases List.mem_append.1 hm with hm | hm
  · obtain ⟨p, hp1, he⟩ := List.mem_map.1 hm
    cases he
    rw [h.int p.1 p.2 hp1]
    exact .scal _ rfl
  · obtain ⟨p, hp1, he⟩ := List.mem_map.1 hm
    cases he
    obtain ⟨h1, h2⟩ := hp p.1 p.2 hp1
    rw [h.ptr p.1 p.2 hp1]
    have h3 := VR.ptr (D := D) (ρ := ρ) p.2 0 h1
    rw [h2] at h3
    exact h3
theorem AG.of [Inhabited RawG] {Bf : Nat → Nat} {is : List (Nat × Int)} {ps : List (Nat × Nat)} {a : Act} {D : Nat → Prop} {ρ : Nat → Pl} (hf : FR [] D ρ (frG is ps) a) (hi : ∀ t v, (t, v) ∈ is → (frG is ps).getD t undef = .int .i64 v) (hp : ∀ t b, (t, b) ∈ ps → (frG is ps).getD t undef = .pointer (some ⟨b, 0, none⟩) ∧ ρ b = ⟨Bf b, 0, none⟩) : AG Bf is ps a := by
  refine ⟨by rw [hf.size, mkF_len], hf.defers, fun t v hm => (fr_get hf (hi t v hm) rfl).int_inv, fun t b hm => ?_⟩
  obtain ⟨h1, h2⟩ := hp t b hm
  have h := (fr_get hf h1 rfl).img rfl
  rw [h]
  show Value.pointer (some ⟨(ρ b).blk, (ρ b).off + 0, none⟩) = _
  rw [h2]
/-- A box that is only read. -/
theorem bx2 {E : Nat → Ent} {K : CfgS} {u : Value} {i n B : Nat} {w : World} {D : Nat → Prop} {ρ : Nat → Pl} (hb : ∃ fz, w.heap[B]? = some (.cells (cfgC K u).toArray 29 fz) ∧ fzOK fz 18) (hv : @VR ⟨rawOf E⟩ D ρ (.slice (some ⟨i, 0, some 2⟩) n 0) u) : @BR ⟨rawOf E⟩ D ρ ⟨B, 0, none⟩ ⟨29, cfgC K (.slice (some ⟨i, 0, some 2⟩) n 0), 2⟩ (szP Try.prog) w := by
  letI : Inhabited RawG := ⟨rawOf E⟩
  obtain ⟨fz, h1, h2⟩ := hb
  refine .of ⟨_, fz, h1, fun i v hv' => ?_, fun h => absurd h (by show ¬ (2 : Nat) = 0; decide), fun h => absurd h (by show ¬ 2 % 2 = 1; decide), fun _ => rfl, (by show 2 ≤ 3; decide), fun _ v hv' => ?_⟩
  · obtain ⟨z, hz, hr⟩ := cfg_rel (R := VR D ρ) (fun v h => .scal v h) hv i v hv'
    exact ⟨z, by rw [Nat.zero_add]; simpa using hz, hr⟩
  · simp only [List.mem_cons, List.not_mem_nil, or_false] at hv'
    rcases hv' with rfl | rfl | rfl | rfl | rfl | rfl | rfl | rfl | rfl | rfl | rfl | rfl | rfl | rfl | rfl | rfl | rfl | rfl <;> rfl
/-- A piece that only reads boxes. -/
theorem ag_run {E : Nat → Ent} {w : World} {a : Act} {Bf : Nat → Nat} {is : List (Nat × Int)} {ps : List (Nat × Nat)} {H : Heap} {nx nx' : Nat} {c : Code} {ax : AX} {fr' : List Value} (hraw : ∀ i, @RawAt ⟨rawOf E⟩ w i) (hA : AG Bf is ps a) (hp : ∀ t b, (t, b) ∈ ps → b < nx)
    (hH : ∀ b k, hget H b = some k → b < nx ∧ k.mode = 2 ∧ @BR ⟨rawOf E⟩ (fun b => b < nx) (rhoG Bf) (rhoG Bf b) k (szP Try.prog) w)
    (hC : @CodeOK ⟨rawOf E⟩ Try.prog c (frG is ps) H nx ⟨ax, fr', [], nx', []⟩) :
    c.wp Try.prog (fun e a' w' => e = ax.to ∧ Below w.heap.size w w' ∧ ∃ D1 ρ1, (∀ b, b < nx → ρ1 b = ⟨Bf b, 0, none⟩) ∧ @FR ⟨rawOf E⟩ [] D1 ρ1 fr' a' ∧ @WR ⟨rawOf E⟩ (szP Try.prog) D1 ρ1 (hget []) w') a w := by
  letI : Inhabited RawG := ⟨rawOf E⟩
  have noImg : ∀ n, ¬ Img (rhoG Bf) (hget H) n := fun n ⟨b, k, hb, hm, _⟩ => hm (hH b k hb).2.1
  have hw : WR (szP Try.prog) (fun b => b < nx) (rhoG Bf) (hget H) w :=
    ⟨fun b k hb => (hH b k hb).1, fun b k hb => (hH b k hb).2.2, fun b c k l hb hc hne hm => (hm.elim (fun h => absurd (hH b k hb).2.1 h) (fun h => absurd (hH c l hc).2.1 h)), ⟨hraw, fun i a _ _ => noImg _⟩⟩
  refine wp_mono (hC _ _ a w (fun b h => h) (hA.fr fun t b hm => ⟨hp t b hm, rfl⟩) hw) ?_
  rintro e a' w' ⟨rfl, hle, D1, ρ1, hT, hf1, hb1, hc1⟩
  exact ⟨rfl, ⟨hT.os, hT.tape, hT.output, hT.size, fun b hb => hT.keep b hb (noImg b)⟩, D1, ρ1, fun b hb => hT.same b hb, hf1, hT.wr⟩
theorem fin_true4 [Inhabited RawG] {ds : List Deferred} {D : Nat → Prop} {ρ : Nat → Pl} {a : Act} {w w0 : World} (hd : ds = []) (hf : FR ds D ρ (mkF [(4, .bool true)] 116 0) a) (hw : WR (szP Try.prog) D ρ (hget []) w) (bel : Below w0.heap.size w0 w) : (bodyPost Try.prog Try.f4 (fun e w1 => e = .returned (.bool true) ∧ Below w0.heap.size w0 w1)) .ret a w := by
  obtain ⟨u, hu, hrun⟩ := ret_one (fn := Try.f4) (v := .bool true) hf hw (by kernel_rfl)
  exact ⟨by rw [← hd]; exact hf.defers, u, hrun, by rw [hu.bool_inv], bel⟩
/-- A configuration and a copy of it. -/
structure TwoSt (K : CfgS) (Lc R : List PX) (oa oR : Option Addr) (cc cR B2 B6 : Nat) (w : World) : Prop where
  cbox : ∃ fz, w.heap[B2]? = some (.cells (cfgC K (.slice oa Lc.length cc)).toArray 29 fz) ∧ fzOK fz 18
  dbox : ∃ fz, w.heap[B6]? = some (.cells (cfgC K (.slice oR R.length cR)).toArray 29 fz) ∧ fzOK fz 18
  okc : ∀ t ∈ Lc, okW w t
  opc : Opn w realP Lc oa cc
  okr : ∀ t ∈ R, okW w t
  opr : Opn w realP R oR cR
  len : R.length = Lc.length
  data : ∀ j, (R.getD j default).1 = (Lc.getD j default).1
theorem TwoSt.below {K : CfgS} {Lc R : List PX} {oa oR : Option Addr} {cc cR B2 B6 : Nat} {w : World} {w' : World} (h : TwoSt K Lc R oa oR cc cR B2 B6 w) (b : Below w.heap.size w w') : TwoSt K Lc R oa oR cc cR B2 B6 w' := by
  obtain ⟨f1, c1, g1⟩ := h.cbox
  obtain ⟨f2, c2, g2⟩ := h.dbox
  exact ⟨⟨f1, (b.block _ (Array.getElem?_eq_some_iff.1 c1).1).trans c1, g1⟩, ⟨f2, (b.block _ (Array.getElem?_eq_some_iff.1 c2).1).trans c2, g2⟩, fun t ht => okW_below (h.okc t ht) b, opn_below h.opc b, fun t ht => okW_below (h.okr t ht) b, opn_below h.opr b, h.len, h.data⟩
abbrev insT (Lc R : List PX) (oa oR : Option Addr) (cc cR : Nat) : Nat → Ent := entQ (oR, R.length, cR, (numS R 0).flatMap poolF) (oa, Lc.length, cc, (numS Lc R.length).flatMap poolF) (R ++ Lc)
theorem apR {Lc R : List PX} : ∀ j, j < R.length → (R ++ Lc).getD (0 + j) default = R.getD j default := fun j hj => by
  rw [Nat.zero_add, List.getD_eq_getElem?_getD, List.getElem?_append_left hj, List.getD_eq_getElem?_getD]
theorem apC {Lc R : List PX} : ∀ j, j < Lc.length → (R ++ Lc).getD (R.length + j) default = Lc.getD j default := fun j hj => by
  rw [List.getD_eq_getElem?_getD, List.getElem?_append_right (by omega), Nat.add_sub_cancel_left, List.getD_eq_getElem?_getD]
theorem TwoSt.okL {K : CfgS} {Lc R : List PX} {oa oR : Option Addr} {cc cR B2 B6 : Nat} {w : World} (h : TwoSt K Lc R oa oR cc cR B2 B6 w) : ∀ t ∈ R ++ Lc, okW w t := fun t ht => by
  rcases List.mem_append.1 ht with h1 | h1
  · exact h.okr t h1
  · exact h.okc t h1
theorem TwoSt.raw {K : CfgS} {Lc R : List PX} {oa oR : Option Addr} {cc cR B2 B6 : Nat} {w : World} (h : TwoSt K Lc R oa oR cc cR B2 B6 w) : ∀ i, @RawAt ⟨rawOf (insT Lc R oa oR cc cR)⟩ w i :=
  rawL (rawAt_pools (M := R) (off := 0) rfl apR h.opr h.okL) (rawAt_pools (M := Lc) (off := R.length) rfl apC h.opc h.okL) h.okL
/-- Config of both. -/
theorem TwoSt.cfg {K : CfgS} {Lc R : List PX} {oa oR : Option Addr} {cc cR B2 B6 : Nat} {w : World} (h : TwoSt K Lc R oa oR cc cR B2 B6 w) (hLs : ∀ t ∈ Lc, SmT t.1) (hz : K.cn.size ≤ 9000000000000) :
    @CallOK ⟨rawOf (insT Lc R oa oR cc cR)⟩ Try.prog 9 [.agg (cfgC K (.slice (some ⟨0, 0, some 2⟩) R.length 0)).toArray] [] 0 (.int .i64 (cfgV K (poolsV (numS R 0)))) [] ∧ @CallOK ⟨rawOf (insT Lc R oa oR cc cR)⟩ Try.prog 9 [.agg (cfgC K (.slice (some ⟨1, 0, some 2⟩) Lc.length 0)).toArray] [] 0 (.int .i64 (cfgV K (poolsV (numS Lc 0)))) [] := by
  have hL := h.okL
  constructor
  · have h1 := @cfg_fn ⟨rawOf (insT Lc R oa oR cc cR)⟩ K (numS R 0) (rowsP_numS apR hL) (small_numS fun j hj => .inl (by rw [h.data j]; exact hLs _ (getD_mem' (by have := h.len; omega)))) hz
    rw [numS_len] at h1
    exact h1
  · refine callOK_swap rfl clo2_pools clo2_pools (fun i hi => clo2_rows hL hi) ?_
    have h1 := @cfg_fn ⟨rawOf (entQ (oa, Lc.length, cc, (numS Lc R.length).flatMap poolF) (oR, R.length, cR, (numS R 0).flatMap poolF) (R ++ Lc))⟩ K (numS Lc R.length) (rowsP_numS apC hL) (small_numS fun j hj => .inl (hLs _ (getD_mem' hj))) hz
    rw [numS_len, poolsV_numS] at h1
    exact h1
theorem strip_map {M : List PX} {off : Nat} : (numS M off).map stripP = M.map fun t => stripP t.1 := by
  refine List.ext_getElem (by simp [numS]) fun j h1 h2 => ?_
  simp only [List.length_map] at h2
  simp [numS, List.getElem?_eq_getElem h2]
  rfl
theorem cfg_eq {K : CfgS} {Lc R : List PX} (hl : R.length = Lc.length) (hd : ∀ j, (R.getD j default).1 = (Lc.getD j default).1) : poolsV (numS R 0) = poolsV (numS Lc 0) := by
  rw [← poolsV_strip, ← poolsV_strip (ps := numS Lc 0), strip_map, strip_map]
  congr 1
  refine List.ext_getElem (by simp [hl]) fun j h1 h2 => ?_
  simp only [List.length_map] at h1 h2
  have e := hd j
  rw [List.getD_eq_getElem?_getD, List.getD_eq_getElem?_getD, List.getElem?_eq_getElem h1, List.getElem?_eq_getElem h2] at e
  simp only [List.getElem_map]
  exact congrArg stripP e
/-- Both boxes, only read. -/
abbrev BfT (B2 B6 : Nat) : Nat → Nat := fun b => if b = 0 then B2 else B6
theorem TwoSt.boxes {K : CfgS} {Lc R : List PX} {oa oR : Option Addr} {cc cR B2 B6 : Nat} {w : World} (h : TwoSt K Lc R oa oR cc cR B2 B6 w) : ∀ b k, hget [(0, ⟨29, cfgC K (.slice (some ⟨1, 0, some 2⟩) Lc.length 0), 2⟩), (1, ⟨29, cfgC K (.slice (some ⟨0, 0, some 2⟩) R.length 0), 2⟩)] b = some k → b < 2 ∧ k.mode = 2 ∧ @BR ⟨rawOf (insT Lc R oa oR cc cR)⟩ (fun b => b < 2) (rhoG (BfT B2 B6)) (rhoG (BfT B2 B6) b) k (szP Try.prog) w := fun b k hg => by
  rcases hget_cons hg with ⟨rfl, rfl⟩ | hg
  · exact ⟨by decide, rfl, bx2 h.cbox (vr_opq _ rfl)⟩
  · rcases hget_cons hg with ⟨rfl, rfl⟩ | hg
    · exact ⟨by decide, rfl, bx2 h.dbox (vr_opq _ rfl)⟩
    · exact (hget_nil _ _ hg).elim
theorem two_a {K : CfgS} {Lc R : List PX} {oa oR : Option Addr} {cc cR B2 B6 : Nat} {w : World} {a : Act} {wh : Int} (h : TwoSt K Lc R oa oR cc cR B2 B6 w) (hLs : ∀ t ∈ Lc, SmT t.1) (h9 : Lc.length ≤ 9000000000) (hz : K.cn.size ≤ 9000000000000) (hA : AG (BfT B2 B6) [(1, wh)] [(2, 0), (5, 1)] a) :
    (Code.seq (regN Try.prog 4 6) (Code.cond (.tmp 28) (Code.seq (regN Try.prog 4 7) Code.ret) Code.skip)).wp Try.prog (fun e a' w' => e = .normal ∧ AG (BfT B2 B6) [(1, wh)] [(2, 0), (5, 1)] a' ∧ Below w.heap.size w w') a w := by
  have h14 := same_cfg (K := K) (o0 := oR) (o1 := oa) (c0 := cR) (c1 := cc) h.okc h.okr h.len h.data h9 (fun t ht => ⟨(hLs t ht).l, (hLs t ht).m⟩)
  have hc := h.cfg hLs hz
  rw [cfg_eq (K := K) h.len h.data] at hc
  obtain ⟨hc0, hc1⟩ := hc
  have e1 : Value.slice (some ⟨1, 0, some 2⟩) Lc.length 0 = .slice (some ⟨1, 0, some 2⟩) R.length 0 := by rw [h.len]
  rw [e1] at h14 hc1
  have hH := h.boxes
  rw [e1] at hH
  refine wp_mono (ag_run (ax := .normal) h.raw hA (fun t b hx => by simp only [List.mem_cons, Prod.mk.injEq, List.not_mem_nil, or_false] at hx; rcases hx with ⟨rfl, rfl⟩ | ⟨rfl, rfl⟩ <;> decide) hH (letI : Inhabited RawG := ⟨rawOf (insT Lc R oa oR cc cR)⟩; ca6 (n := R.length) (cn := K.cn) (re := K.re) (co := K.co) (rs := K.rs) (dl := K.dl) (rq := K.rq) (cs := K.cs) (br := K.br) (bs := K.bs) (bm := K.bm) (by_ := K.by_) (en := K.en) (li := K.li) (he := K.he) (ct := K.ct) (bo := K.bo) (q := K.q) (wh := wh) h14 hc0 hc1)) ?_
  rintro e a' w' ⟨rfl, bel, D1, ρ1, hρ, hf, _⟩
  exact ⟨rfl, @AG.of ⟨rawOf (insT Lc R oa oR cc cR)⟩ _ _ _ _ _ _ hf (fun t v hx => by simp only [List.mem_cons, Prod.mk.injEq, List.not_mem_nil, or_false] at hx; obtain ⟨rfl, rfl⟩ := hx; rfl) (fun t b hx => by simp only [List.mem_cons, Prod.mk.injEq, List.not_mem_nil, or_false] at hx; rcases hx with ⟨rfl, rfl⟩ | ⟨rfl, rfl⟩ <;> exact ⟨rfl, hρ _ (by decide)⟩), bel⟩
theorem two_b {K : CfgS} {Lc R : List PX} {oa oR : Option Addr} {cc cR B2 B6 : Nat} {w : World} {a : Act} {wh : Int} (h : TwoSt K Lc R oa oR cc cR B2 B6 w) (hLs : ∀ t ∈ Lc, SmT t.1) (h9 : Lc.length ≤ 9000000000) (hz : K.cn.size ≤ 9000000000000) (hA : AG (BfT B2 B6) [(1, wh)] [(2, 0), (6, 1)] a) :
    (Code.seq (regN Try.prog 4 21) (Code.cond (.tmp 85) (Code.seq (regN Try.prog 4 22) Code.ret) Code.skip)).wp Try.prog (fun e a' w' => e = .normal ∧ AG (BfT B2 B6) [(1, wh)] [(2, 0), (6, 1)] a' ∧ Below w.heap.size w w') a w := by
  have h14 := same_cfg (K := K) (o0 := oR) (o1 := oa) (c0 := cR) (c1 := cc) h.okc h.okr h.len h.data h9 (fun t ht => ⟨(hLs t ht).l, (hLs t ht).m⟩)
  have hc := h.cfg hLs hz
  rw [cfg_eq (K := K) h.len h.data] at hc
  obtain ⟨hc0, hc1⟩ := hc
  have e1 : Value.slice (some ⟨1, 0, some 2⟩) Lc.length 0 = .slice (some ⟨1, 0, some 2⟩) R.length 0 := by rw [h.len]
  rw [e1] at h14 hc1
  have hH := h.boxes
  rw [e1] at hH
  refine wp_mono (ag_run (ax := .normal) h.raw hA (fun t b hx => by simp only [List.mem_cons, Prod.mk.injEq, List.not_mem_nil, or_false] at hx; rcases hx with ⟨rfl, rfl⟩ | ⟨rfl, rfl⟩ <;> decide) hH (letI : Inhabited RawG := ⟨rawOf (insT Lc R oa oR cc cR)⟩; ca21 (n := R.length) (cn := K.cn) (re := K.re) (co := K.co) (rs := K.rs) (dl := K.dl) (rq := K.rq) (cs := K.cs) (br := K.br) (bs := K.bs) (bm := K.bm) (by_ := K.by_) (en := K.en) (li := K.li) (he := K.he) (ct := K.ct) (bo := K.bo) (q := K.q) (v := 0) (wh := wh) h14)) ?_
  rintro e a' w' ⟨rfl, bel, D1, ρ1, hρ, hf, _⟩
  exact ⟨rfl, @AG.of ⟨rawOf (insT Lc R oa oR cc cR)⟩ _ _ _ _ _ _ hf (fun t v hx => by simp only [List.mem_cons, Prod.mk.injEq, List.not_mem_nil, or_false] at hx; obtain ⟨rfl, rfl⟩ := hx; rfl) (fun t b hx => by simp only [List.mem_cons, Prod.mk.injEq, List.not_mem_nil, or_false] at hx; rcases hx with ⟨rfl, rfl⟩ | ⟨rfl, rfl⟩ <;> exact ⟨rfl, hρ _ (by decide)⟩), bel⟩
theorem fl_take {T : Type} {f : T → List Value} {sz : Nat} (hf : ∀ t, (f t).length = sz) : ∀ (l : List T) (k : Nat), (l.flatMap f).take (k * sz) = (l.take k).flatMap f
  | [], k => by simp
  | a :: t, 0 => by simp
  | a :: t, k + 1 => by
    rw [List.flatMap_cons, List.take_succ_cons, List.flatMap_cons, List.take_append, List.take_of_length_le (by rw [hf, Nat.succ_mul]; omega), ← fl_take hf t k, hf, Nat.succ_mul, Nat.add_sub_cancel]
theorem fl_drop {T : Type} {f : T → List Value} {sz : Nat} (hf : ∀ t, (f t).length = sz) : ∀ (l : List T) (k : Nat), (l.flatMap f).drop (k * sz) = (l.drop k).flatMap f
  | [], k => by simp
  | a :: t, 0 => by simp
  | a :: t, k + 1 => by
    rw [List.flatMap_cons, List.drop_succ_cons, List.drop_append, List.drop_of_length_le (by rw [hf, Nat.succ_mul]; omega), ← fl_drop hf t k, hf, Nat.succ_mul, Nat.add_sub_cancel]
    rfl
/-- Pools that are as they should be remain so without any one but the last. -/
theorem pools_drop {ps : List PoolT} {k : Nat} (h : poolsV ps = 0) (hk : k < ps.length) (h2 : 2 ≤ ps.length) : poolsV (ps.take k ++ ps.drop (k + 1)) = 0 := by
  obtain ⟨h1, h16, hall⟩ := poolsV_iff.1 h
  have hl : (ps.take k ++ ps.drop (k + 1)).length = ps.length - 1 := by
    rw [List.length_append, List.length_take, List.length_drop]; omega
  refine poolsV_iff.2 ⟨by omega, by omega, fun x hx => ?_⟩
  rw [hl] at hx
  obtain ⟨x', hx', e, hs⟩ : ∃ x', x' < ps.length ∧ (ps.take k ++ ps.drop (k + 1)).getD x default = ps.getD x' default ∧ ∀ p ∈ (ps.take k ++ ps.drop (k + 1)).take x, p ∈ ps.take x' := by
    by_cases hxk : x < k
    · refine ⟨x, by omega, ?_, fun p hp => ?_⟩
      · rw [List.getD_eq_getElem?_getD, List.getElem?_append_left (by rw [List.length_take]; omega), List.getElem?_take_of_lt hxk, List.getD_eq_getElem?_getD]
      · rw [List.take_append_of_le_length (by rw [List.length_take]; omega), List.take_take, Nat.min_eq_left (by omega)] at hp
        exact hp
    · refine ⟨x + 1, by omega, ?_, fun p hp => ?_⟩
      · rw [List.getD_eq_getElem?_getD, List.getElem?_append_right (by rw [List.length_take]; omega), List.getElem?_drop, List.length_take, List.getD_eq_getElem?_getD, show k + 1 + (x - min k ps.length) = x + 1 by omega]
      · rw [List.take_append, List.length_take] at hp
        rcases List.mem_append.1 hp with hp | hp
        · have h3 := List.mem_of_mem_take hp
          exact (List.take_subset_take_left _ (show k ≤ x + 1 by omega)) h3
        · rw [List.take_drop] at hp
          have h3 := List.mem_of_mem_drop hp
          rw [show k + 1 + (x - min k ps.length) = x + 1 by omega] at h3
          exact h3
  obtain ⟨a1, a2, a3⟩ := hall x' hx'
  refine ⟨?_, ?_, ?_⟩
  · unfold cvP at a1 ⊢
    rw [e]; exact a1
  · rw [e]
    intro hm
    obtain ⟨p, hp, he⟩ := List.mem_map.1 hm
    exact a2 (List.mem_map.2 ⟨p, hs p hp, he⟩)
  · rw [e]
    intro y hy hm
    refine a3 y hy ?_
    rcases List.mem_append.1 hm with hm | hm
    · obtain ⟨p, hp, he⟩ := List.mem_flatMap.1 hm
      exact List.mem_append.2 (.inl (List.mem_flatMap.2 ⟨p, hs p hp, he⟩))
    · exact List.mem_append.2 (.inr hm)
theorem poolsX_drop {Lc : List PX} {k : Nat} (h : poolsV (numS Lc 0) = 0) (hk : k < Lc.length) (h2 : 2 ≤ Lc.length) : poolsV (numS (Lc.take k ++ Lc.drop (k + 1)) 0) = 0 := by
  rw [← poolsV_strip, strip_map] at h ⊢
  rw [List.map_append, List.map_take, List.map_drop]
  exact pools_drop h (by rw [List.length_map]; exact hk) (by rw [List.length_map]; exact h2)
end
section
open Go.RowKit
set_option linter.unusedSimpArgs false
set_option linter.unusedVariables false
set_option linter.unusedSectionVars false
set_option maxRecDepth 100000
/-- What is known of the two boxes and of the rows. -/
structure FarT (Lc R : List PX) (oa oR : Option Addr) (B2 B6 : Nat) : Prop where
  ne : B2 ≠ B6
  rc : ∀ a, oa = some a → 0 < Lc.length → a.block ≠ B2 ∧ a.block ≠ B6
  rr : ∀ a, oR = some a → 0 < R.length → a.block ≠ B2 ∧ a.block ≠ B6
  fc : ∀ t ∈ Lc, ∀ b ∈ blks t, b ≠ B2 ∧ b ≠ B6
  fr : ∀ t ∈ R, ∀ b ∈ blks t, b ≠ B2 ∧ b ≠ B6
abbrev rhoQ (B2 B6 : Nat) (ac : Addr) : Nat → Pl := fun b => if b = 0 then ⟨B2, 0, none⟩ else if b = 1 then ⟨B6, 0, none⟩ else ⟨ac.block, ac.off, none⟩
theorem clo0_pools {M : List PX} {off : Nat} : ∀ v ∈ (numS M off).flatMap poolF, clo0 v = true := fun v hv => by
  obtain ⟨p, _, hv⟩ := List.mem_flatMap.1 hv
  simp only [List.mem_cons, List.not_mem_nil, or_false] at hv
  rcases hv with rfl | rfl | rfl | rfl | rfl | rfl | rfl | rfl | rfl | rfl | rfl | rfl | rfl | rfl | rfl | rfl <;> rfl
/-- What the list without one pool leaves. -/
structure DropSt (K : CfgS) (Lc : List PX) (k B2 B6 : Nat) (w : World) (a' : Act) (w' : World) : Prop where
  fr : AG (BfT B2 B6) [] [(6, 1)] a'
  box : ∃ Bn cap, (∃ fz, w'.heap[B6]? = some (.cells (cfgC K (.slice (some ⟨Bn, 0, none⟩) (Lc.take k ++ Lc.drop (k + 1)).length cap)).toArray 29 fz) ∧ fzOK fz 18) ∧ RowAt w' Bn 46 cap 16 ((Lc.take k ++ Lc.drop (k + 1)).flatMap realP)
  ok : ∀ t ∈ Lc, okW w' t
  os : w'.os = w.os
  tape : w'.tape = w.tape
  output : w'.output = w.output
  size : w.heap.size ≤ w'.heap.size
  keep : ∀ b, b < w.heap.size → b ≠ B2 → b ≠ B6 → w'.heap[b]? = w.heap[b]?
theorem drop_len {T : Type} {l : List T} {k : Nat} (h : k < l.length) : (l.take k ++ l.drop (k + 1)).length = l.length - 1 := by
  rw [List.length_append, List.length_take, List.length_drop]; omega
theorem mid26 {K : CfgS} {Lc R : List PX} {oa oR : Option Addr} {cc cR B2 B6 : Nat} {w : World} {a : Act} {k : Nat} {rid num nx' : Nat} (h : TwoSt K Lc R oa oR cc cR B2 B6 w) (hF : FarT Lc R oa oR B2 B6) (hk : k < Lc.length) (hA : AG (BfT B2 B6) [(10, (k : Int))] [(2, 0), (6, 1)] a) (hr : rid ≠ 1) (hnum : num = Lc.length - 1)
    (hC : ∀ el, @CodeOK ⟨rawOf (insT Lc R oa oR cc cR)⟩ Try.prog (regN Try.prog 4 26) (frG [(10, (k : Int))] [(2, 0), (6, 1)]) [(0, ⟨29, cfgC K (.slice (some ⟨3, 0, none⟩) (numS Lc R.length).length cc), 0⟩), (1, ⟨29, cfgC K (.slice (some ⟨0, 0, some 2⟩) R.length 0), 0⟩), (3, ⟨el, (numS Lc R.length).flatMap poolF, 2⟩)] 4 ⟨.normal, frG [] [(6, 1)], [(1, ⟨29, cfgC K (.slice (some ⟨rid, 0, none⟩) num num), 0⟩), (rid, ⟨46, ((numS Lc R.length).take k ++ (numS Lc R.length).drop (k + 1)).flatMap poolF, 3⟩)], nx', []⟩) :
    (regN Try.prog 4 26).wp Try.prog (fun e a' w' => e = .normal ∧ DropSt K Lc k B2 B6 w a' w') a w := by
  letI : Inhabited RawG := ⟨rawOf (insT Lc R oa oR cc cR)⟩
  obtain ⟨ac, ea, esp, _⟩ := h.opc.row (by omega)
  have hfc := hF.rc ac ea (by omega)
  have hraw := h.raw
  have hL := h.okL
  obtain ⟨_, _, hr1⟩ := hraw 1
  have c1 : rg.cells 1 = (numS Lc R.length).flatMap poolF := rfl
  obtain ⟨ac', ea', _, cs, el, fz, hh, hcell⟩ := hr1 (by
    rw [c1]; intro he
    have := congrArg List.length he
    rw [flatMap_len pool16, numS_len] at this
    simp only [List.length_nil] at this
    omega)
  have eac : ac' = ac := by
    change oa = some ac' at ea'
    rw [ea] at ea'
    exact (Option.some.inj ea').symm
  rw [eac] at hh hcell
  rw [c1] at hcell
  have hv3 : VR (fun b => b < 4) (rhoQ B2 B6 ac) (.slice (some ⟨3, 0, none⟩) (numS Lc R.length).length cc) (.slice oa Lc.length cc) := by
    rw [numS_len, ea, show ac = ⟨ac.block, ac.off, none⟩ from by cases ac; cases esp; rfl]
    have h1 := VR.slice (D := fun b => b < 4) (ρ := (rhoQ B2 B6 ac)) 3 0 Lc.length cc cc (by decide) h.opc.le (fun _ => rfl) (fun c h _ => by cases h)
    exact h1
  have hv0 : VR (fun b => b < 4) (rhoQ B2 B6 ac) (.slice (some ⟨0, 0, some 2⟩) R.length 0) (.slice oR R.length cR) := vr_opq _ rfl
  obtain ⟨H, hH⟩ : ∃ H : Heap, H = [(0, ⟨29, cfgC K (.slice (some ⟨3, 0, none⟩) (numS Lc R.length).length cc), 0⟩), (1, ⟨29, cfgC K (.slice (some ⟨0, 0, some 2⟩) R.length 0), 0⟩), (3, ⟨el, (numS Lc R.length).flatMap poolF, 2⟩)] := ⟨_, rfl⟩
  have inH : ∀ c l, hget H c = some l → (c = 0 ∧ l.mode = 0) ∨ (c = 1 ∧ l.mode = 0) ∨ (c = 3 ∧ l.mode = 2) := fun c l hc => by
    rw [hH] at hc
    rcases hget_cons hc with ⟨rfl, rfl⟩ | hc
    · exact .inl ⟨rfl, rfl⟩
    · rcases hget_cons hc with ⟨rfl, rfl⟩ | hc
      · exact .inr (.inl ⟨rfl, rfl⟩)
      · rcases hget_cons hc with ⟨rfl, rfl⟩ | hc
        · exact .inr (.inr ⟨rfl, rfl⟩)
        · exact (hget_nil _ _ hc).elim
  have imgH : ∀ n, Img (rhoQ B2 B6 ac) (hget H) n → n = B2 ∨ n = B6 := fun n ⟨b, k, hb, hm, he⟩ => by
    rcases inH b k hb with ⟨rfl, _⟩ | ⟨rfl, _⟩ | ⟨_, h2⟩
    · exact .inl he.symm
    · exact .inr he.symm
    · exact absurd h2 hm
  have hw : WR (szP Try.prog) (fun b => b < 4) (rhoQ B2 B6 ac) (hget H) w := by
    refine ⟨fun b k hg => ?_, fun b k hg => ?_, fun b c k l hb hc hne hm => ?_, ⟨hraw, fun i a hc ha hI => ?_⟩⟩
    · rcases inH b k hg with ⟨rfl, _⟩ | ⟨rfl, _⟩ | ⟨rfl, _⟩ <;> decide
    · rw [hH] at hg
      rcases hget_cons hg with ⟨rfl, rfl⟩ | hg
      · obtain ⟨fz, h1, h2⟩ := h.cbox
        exact br_box (p := ⟨B2, 0, none⟩) rfl rfl h1 h2 rfl (cfg_rel (fun v h => .scal v h) hv3)
      · rcases hget_cons hg with ⟨rfl, rfl⟩ | hg
        · obtain ⟨fz, h1, h2⟩ := h.dbox
          exact br_box (p := ⟨B6, 0, none⟩) rfl rfl h1 h2 rfl (cfg_rel (fun v h => .scal v h) hv0)
        · rcases hget_cons hg with ⟨rfl, rfl⟩ | hg
          · refine .of ⟨cs, fz, hh, fun i v hv => ?_, fun h => absurd h (by show ¬ (2 : Nat) = 0; decide), fun h => absurd h (by show ¬ 2 % 2 = 1; decide), fun _ => rfl, (by show 2 ≤ 3; decide), fun _ v hv => clo0_pools v hv⟩
            obtain ⟨u, hu, hvr⟩ := hcell i v hv
            exact ⟨u, hu, hvr.clo (clo0_pools v (List.mem_of_getElem? hv))⟩
          · exact (hget_nil _ _ hg).elim
    · rcases inH b k hb with ⟨rfl, m1⟩ | ⟨rfl, m1⟩ | ⟨rfl, m1⟩ <;> rcases inH c l hc with ⟨rfl, m2⟩ | ⟨rfl, m2⟩ | ⟨rfl, m2⟩
      · exact absurd rfl hne
      · exact hF.ne
      · exact Ne.symm hfc.1
      · exact Ne.symm hF.ne
      · exact absurd rfl hne
      · exact Ne.symm hfc.2
      · exact hfc.1
      · exact hfc.2
      · exact absurd rfl hne
    · change ((insT Lc R oa oR cc cR) i).2.2.2 ≠ [] at hc
      change ((insT Lc R oa oR cc cR) i).1 = some a at ha
      have hfar : a.block ≠ B2 ∧ a.block ≠ B6 := by
        by_cases h0 : i = 0
        · subst h0
          change (numS R 0).flatMap poolF ≠ [] at hc
          refine hF.rr a ha ?_
          rcases Nat.eq_zero_or_pos R.length with h | h
          · obtain rfl := List.eq_nil_of_length_eq_zero h
            exact absurd rfl hc
          · exact h
        · by_cases h1 : i = 1
          · subst h1
            exact hF.rc a ha (by omega)
          · obtain ⟨j, hj, hm⟩ := far_rows hL (by omega) hc ha
            rcases List.mem_append.1 (getD_mem' hj) with h | h
            · exact hF.fr _ h _ hm
            · exact hF.fc _ h _ hm
      rcases imgH _ hI with h | h
      · exact hfar.1 h
      · exact hfar.2 h
  have hfr : FR [] (fun b => b < 4) (rhoQ B2 B6 ac) (frG [(10, (k : Int))] [(2, 0), (6, 1)]) a := hA.fr (fun t b hx => by simp only [List.mem_cons, Prod.mk.injEq, List.not_mem_nil, or_false] at hx; rcases hx with ⟨rfl, rfl⟩ | ⟨rfl, rfl⟩ <;> exact ⟨by decide, rfl⟩)
  have hC' := hC el
  rw [← hH] at hC'
  refine wp_mono (hC' _ _ a w (fun b h => h) hfr hw) ?_
  rintro e a' w' ⟨rfl, hle, D1, ρ1, hT, hf1, hb1, hc1⟩
  have e1 : ρ1 1 = ⟨B6, 0, none⟩ := hT.same 1 (show (1 : Nat) < 4 by decide)
  have kp : ∀ b, b < w.heap.size → b ≠ B2 → b ≠ B6 → w'.heap[b]? = w.heap[b]? := fun b hb h2 h6 => hT.keep b hb fun hI => (imgH b hI).elim h2 h6
  have hw' := hT.wr
  have g1 : hget [(1, ⟨29, cfgC K (.slice (some ⟨rid, 0, none⟩) num num), 0⟩), (rid, ⟨46, ((numS Lc R.length).take k ++ (numS Lc R.length).drop (k + 1)).flatMap poolF, 3⟩)] 1 = some ⟨29, cfgC K (.slice (some ⟨rid, 0, none⟩) num num), 0⟩ := rfl
  have g2 : hget [(1, ⟨29, cfgC K (.slice (some ⟨rid, 0, none⟩) num num), 0⟩), (rid, ⟨46, ((numS Lc R.length).take k ++ (numS Lc R.length).drop (k + 1)).flatMap poolF, 3⟩)] rid = some ⟨46, ((numS Lc R.length).take k ++ (numS Lc R.length).drop (k + 1)).flatMap poolF, 3⟩ := by
    simp [hget, Ne.symm hr, hr]
  obtain ⟨_, _, fzD, hD, gD⟩ := box_cells (hw'.here 1 _ g1) rfl rfl
  have hgood : ∀ v ∈ ((numS Lc R.length).take k ++ (numS Lc R.length).drop (k + 1)).flatMap poolF, goodV v = true := fun v hv => by
    obtain ⟨t, _, hv⟩ := List.mem_flatMap.1 hv
    exact realP_good (t := hdP t) rfl rfl v hv
  obtain ⟨o3, c3, h31, h32⟩ := row_cells (hw'.here rid _ g2) (el := 46) (sz := 16) (show 3 % 2 = 1 by decide) rfl (by kernel_rfl) hgood
  have hrow0 : ((numS Lc R.length).flatMap poolF).map (imgV ρ1) = Lc.flatMap realP := by
    rw [poolF_hd]
    refine row_img (by simp [numS]) fun j hj => ?_
    rw [hdS_get hj]
    have v1 := (vr_h (E0 := (oR, R.length, cR, (numS R 0).flatMap poolF)) (E1 := (oa, Lc.length, cc, (numS Lc R.length).flatMap poolF)) (D := D1) (ρ := ρ1) hL (R.length + j)).img rfl
    have v2 := (vr_b (E0 := (oR, R.length, cR, (numS R 0).flatMap poolF)) (E1 := (oa, Lc.length, cc, (numS Lc R.length).flatMap poolF)) (D := D1) (ρ := ρ1) hL (R.length + j)).img rfl
    rw [apC j hj] at v1 v2
    show realP ((numX (Lc.getD j default) (R.length + j)), imgV ρ1 (.slice (some ⟨2 + 2 * (R.length + j), 0, some 2⟩) (Lc.getD j default).1.hs.length 0), imgV ρ1 (.slice (some ⟨3 + 2 * (R.length + j), 0, some 2⟩) (Lc.getD j default).1.bk.length 0)) = _
    rw [← v1, ← v2]
    rfl
  have hrow : (ABlk.cells ⟨46, ((numS Lc R.length).take k ++ (numS Lc R.length).drop (k + 1)).flatMap poolF, 3⟩).map (imgV ρ1) = (Lc.take k ++ Lc.drop (k + 1)).flatMap realP := by
    show (((numS Lc R.length).take k ++ (numS Lc R.length).drop (k + 1)).flatMap poolF).map (imgV ρ1) = _
    rw [List.flatMap_append, ← fl_take pool16, ← fl_drop pool16, List.map_append, List.map_take, List.map_drop, hrow0, fl_take realP16, fl_drop realP16, ← List.flatMap_append]
  rw [hrow] at h32
  have hbox : (ABlk.cells ⟨29, cfgC K (.slice (some ⟨rid, 0, none⟩) num num), 0⟩).map (imgV ρ1) = cfgC K (.slice (some ⟨(ρ1 rid).blk, 0, none⟩) (Lc.take k ++ Lc.drop (k + 1)).length c3) := by
    have : imgV ρ1 (.slice (some ⟨rid, 0, none⟩) num num) = .slice (some ⟨(ρ1 rid).blk, 0, none⟩) (Lc.take k ++ Lc.drop (k + 1)).length c3 := by
      show Value.slice (some ⟨(ρ1 rid).blk, (ρ1 rid).off, none⟩) num ((ρ1 rid).cap.getD num) = _
      rw [o3, h31, drop_len hk, hnum]; rfl
    show cfgC K (imgV ρ1 (.slice (some ⟨rid, 0, none⟩) num num)) = _
    rw [this]
  rw [hbox, e1] at hD
  exact ⟨rfl, AG.of hf1 (fun t v hx => by cases hx) (fun t b hx => by simp only [List.mem_cons, Prod.mk.injEq, List.not_mem_nil, or_false] at hx; obtain ⟨rfl, rfl⟩ := hx; exact ⟨rfl, e1⟩), ⟨(ρ1 rid).blk, c3, ⟨fzD, hD, gD⟩, h32⟩, fun t ht => okW_keep (h.okc t ht) fun b hb => kp b (okW_lt (h.okc t ht) hb) (hF.fc t ht b hb).1 (hF.fc t ht b hb).2, hT.os, hT.tape, hT.output, hT.size, kp⟩
end
section
open Go.RowKit
set_option linter.unusedSimpArgs false
set_option linter.unusedVariables false
set_option linter.unusedSectionVars false
set_option maxRecDepth 100000
theorem drop_ok {K : CfgS} {Lc R : List PX} {oa oR : Option Addr} {cc cR B2 B6 : Nat} {w : World} {a : Act} {k : Nat} (h : TwoSt K Lc R oa oR cc cR B2 B6 w) (hF : FarT Lc R oa oR B2 B6) (hk : k < Lc.length) (h2 : 2 ≤ Lc.length) (h9 : Lc.length ≤ 9000000000) (hA : AG (BfT B2 B6) [(10, (k : Int))] [(2, 0), (6, 1)] a) :
    (regN Try.prog 4 26).wp Try.prog (fun e a' w' => e = .normal ∧ DropSt K Lc k B2 B6 w a' w') a w := by
  have hcc := h.opc.le
  by_cases k0 : k = 0
  · exact mid26 h hF hk hA (by decide) (by (try rw [numS_len]); omega) (fun el => letI : Inhabited RawG := ⟨rawOf (insT Lc R oa oR cc cR)⟩; ca26a (ps := (numS Lc R.length)) (n := R.length) (cc := cc) (k := k) (el := el) (cn := K.cn) (re := K.re) (co := K.co) (rs := K.rs) (dl := K.dl) (rq := K.rq) (cs := K.cs) (br := K.br) (bs := K.bs) (bm := K.bm) (by_ := K.by_) (en := K.en) (li := K.li) (he := K.he) (ct := K.ct) (bo := K.bo) (q := K.q) (wh := 0) k0 (by rw [numS_len]; omega) (by rw [numS_len]; omega) (by rw [numS_len]; omega) (by rw [numS_len]; omega))
  · by_cases kl : k + 1 = Lc.length
    · by_cases kc : cc = k + 1
      · exact mid26 h hF hk hA (by decide) (by (try rw [numS_len]); omega) (fun el => letI : Inhabited RawG := ⟨rawOf (insT Lc R oa oR cc cR)⟩; ca26d (ps := (numS Lc R.length)) (n := R.length) (cc := cc) (k := k) (el := el) (cn := K.cn) (re := K.re) (co := K.co) (rs := K.rs) (dl := K.dl) (rq := K.rq) (cs := K.cs) (br := K.br) (bs := K.bs) (bm := K.bm) (by_ := K.by_) (en := K.en) (li := K.li) (he := K.he) (ct := K.ct) (bo := K.bo) (q := K.q) (wh := 0) (by omega) (by rw [numS_len]; omega) kc (by rw [numS_len]; omega) (by rw [numS_len]; omega) (by rw [numS_len]; omega) (by rw [numS_len]; omega))
      · exact mid26 h hF hk hA (by decide) (by (try rw [numS_len]); omega) (fun el => letI : Inhabited RawG := ⟨rawOf (insT Lc R oa oR cc cR)⟩; ca26b (ps := (numS Lc R.length)) (n := R.length) (cc := cc) (k := k) (el := el) (cn := K.cn) (re := K.re) (co := K.co) (rs := K.rs) (dl := K.dl) (rq := K.rq) (cs := K.cs) (br := K.br) (bs := K.bs) (bm := K.bm) (by_ := K.by_) (en := K.en) (li := K.li) (he := K.he) (ct := K.ct) (bo := K.bo) (q := K.q) (wh := 0) (by omega) (by rw [numS_len]; omega) kc (by rw [numS_len]; omega) (by rw [numS_len]; omega) (by rw [numS_len]; omega) (by rw [numS_len]; omega))
    · exact mid26 h hF hk hA (by decide) (by (try rw [numS_len]); omega) (fun el => letI : Inhabited RawG := ⟨rawOf (insT Lc R oa oR cc cR)⟩; ca26c (ps := (numS Lc R.length)) (n := R.length) (cc := cc) (k := k) (el := el) (cn := K.cn) (re := K.re) (co := K.co) (rs := K.rs) (dl := K.dl) (rq := K.rq) (cs := K.cs) (br := K.br) (bs := K.bs) (bm := K.bm) (by_ := K.by_) (en := K.en) (li := K.li) (he := K.he) (ct := K.ct) (bo := K.bo) (q := K.q) (wh := 0) (by omega) (by rw [numS_len]; omega) (by rw [numS_len]; omega) (by rw [numS_len]; omega) (by rw [numS_len]; omega) (by rw [numS_len]; omega))

/-- One configuration. -/
abbrev insC (Lc : List PX) (oa : Option Addr) (cc : Nat) : Nat → Ent := entQ (oa, Lc.length, cc, (numS Lc 0).flatMap poolF) entD Lc
theorem apO {Lc : List PX} : ∀ j, j < Lc.length → Lc.getD (0 + j) default = Lc.getD j default := fun j _ => by rw [Nat.zero_add]
theorem one_raw {Lc : List PX} {oa : Option Addr} {cc : Nat} {w : World} (okc : ∀ t ∈ Lc, okW w t) (opc : Opn w realP Lc oa cc) : ∀ i, @RawAt ⟨rawOf (insC Lc oa cc)⟩ w i :=
  rawL (rawAt_pools (M := Lc) (off := 0) rfl apO opc okc) (rawAt_none _ rfl) okc
theorem one_cfg {K : CfgS} {Lc : List PX} {oa : Option Addr} {cc : Nat} {w : World} (okc : ∀ t ∈ Lc, okW w t) (hLs : ∀ t ∈ Lc, SmT t.1) (hz : K.cn.size ≤ 9000000000000) : @CallOK ⟨rawOf (insC Lc oa cc)⟩ Try.prog 9 [.agg (cfgC K (.slice (some ⟨0, 0, some 2⟩) Lc.length 0)).toArray] [] 0 (.int .i64 (cfgV K (poolsV (numS Lc 0)))) [] := by
  have h1 := @cfg_fn ⟨rawOf (insC Lc oa cc)⟩ K (numS Lc 0) (rowsP_numS apO okc) (small_numS fun j hj => .inl (hLs _ (getD_mem' hj))) hz
  rw [numS_len] at h1
  exact h1
theorem one_box {K : CfgS} {Lc : List PX} {oa : Option Addr} {cc B i : Nat} {Bf : Nat → Nat} {w : World} (hB : Bf i = B) (hi : i < 2) (cbox : ∃ fz, w.heap[B]? = some (.cells (cfgC K (.slice oa Lc.length cc)).toArray 29 fz) ∧ fzOK fz 18) : ∀ b k, hget [(i, ⟨29, cfgC K (.slice (some ⟨0, 0, some 2⟩) Lc.length 0), 2⟩)] b = some k → b < 2 ∧ k.mode = 2 ∧ @BR ⟨rawOf (insC Lc oa cc)⟩ (fun b => b < 2) (rhoG Bf) (rhoG Bf b) k (szP Try.prog) w := fun b k hg => by
  rcases hget_cons hg with ⟨rfl, rfl⟩ | hg
  · refine ⟨hi, rfl, ?_⟩
    show @BR ⟨rawOf (insC Lc oa cc)⟩ _ _ ⟨Bf b, 0, none⟩ _ _ _
    rw [hB]
    exact bx2 cbox (vr_opq _ rfl)
  · exact (hget_nil _ _ hg).elim
theorem one_a {K : CfgS} {Lc : List PX} {oa : Option Addr} {cc B2 B6 : Nat} {w w0 : World} {a : Act} {wh : Int} (cbox : ∃ fz, w.heap[B2]? = some (.cells (cfgC K (.slice oa Lc.length cc)).toArray 29 fz) ∧ fzOK fz 18) (okc : ∀ t ∈ Lc, okW w t) (opc : Opn w realP Lc oa cc) (hLs : ∀ t ∈ Lc, SmT t.1) (hz : K.cn.size ≤ 9000000000000) (hA : AG (BfT B2 B6) [(1, wh)] [(2, 0), (6, 1)] a) (bel : Below w0.heap.size w0 w) (hv : cfgV K (poolsV (numS Lc 0)) ≠ 0 ∨ Lc.length < 2) : (Code.seq (regN Try.prog 4 23) (Code.cond (.tmp 94) (Code.seq (regN Try.prog 4 24) Code.ret) Code.skip)).wp Try.prog (fun e a' w' => e = .ret ∧ (bodyPost Try.prog Try.f4 (fun e w1 => e = .returned (.bool true) ∧ Below w0.heap.size w0 w1)) .ret a' w') a w := by
  have hc := one_cfg (oa := oa) (cc := cc) okc hLs hz
  by_cases h0 : cfgV K (poolsV (numS Lc 0)) = 0
  · rw [h0] at hc
    refine wp_mono (ag_run (ax := .ret) (fr' := mkF [(4, .bool true)] 116 0) (one_raw okc opc) hA (fun t b hx => by simp only [List.mem_cons, Prod.mk.injEq, List.not_mem_nil, or_false] at hx; rcases hx with ⟨rfl, rfl⟩ | ⟨rfl, rfl⟩ <;> decide) (one_box (Bf := BfT B2 B6) (i := 0) rfl (by decide) cbox) (letI : Inhabited RawG := ⟨rawOf (insC Lc oa cc)⟩; ca23b (n := Lc.length) (cn := K.cn) (re := K.re) (co := K.co) (rs := K.rs) (dl := K.dl) (rq := K.rq) (cs := K.cs) (br := K.br) (bs := K.bs) (bm := K.bm) (by_ := K.by_) (en := K.en) (li := K.li) (he := K.he) (ct := K.ct) (bo := K.bo) (q := K.q) (wh := wh) hc rfl (decide_eq_true (by omega)))) ?_
    rintro e a' w' ⟨rfl, b2, D1, ρ1, _, hf, hw⟩
    exact ⟨rfl, @fin_true4 ⟨rawOf (insC Lc oa cc)⟩ _ _ _ _ _ _ rfl hf hw (bel.trans (b2.mono bel.size))⟩
  · refine wp_mono (ag_run (ax := .ret) (fr' := mkF [(4, .bool true)] 116 0) (one_raw okc opc) hA (fun t b hx => by simp only [List.mem_cons, Prod.mk.injEq, List.not_mem_nil, or_false] at hx; rcases hx with ⟨rfl, rfl⟩ | ⟨rfl, rfl⟩ <;> decide) (one_box (Bf := BfT B2 B6) (i := 0) rfl (by decide) cbox) (letI : Inhabited RawG := ⟨rawOf (insC Lc oa cc)⟩; ca23a (n := Lc.length) (cn := K.cn) (re := K.re) (co := K.co) (rs := K.rs) (dl := K.dl) (rq := K.rq) (cs := K.cs) (br := K.br) (bs := K.bs) (bm := K.bm) (by_ := K.by_) (en := K.en) (li := K.li) (he := K.he) (ct := K.ct) (bo := K.bo) (q := K.q) (wh := wh) hc (bne_iff_ne.2 h0))) ?_
    rintro e a' w' ⟨rfl, b2, D1, ρ1, _, hf, hw⟩
    exact ⟨rfl, @fin_true4 ⟨rawOf (insC Lc oa cc)⟩ _ _ _ _ _ _ rfl hf hw (bel.trans (b2.mono bel.size))⟩
theorem one_c {K : CfgS} {Lc : List PX} {oa : Option Addr} {cc B2 B6 : Nat} {w : World} {a : Act} {wh : Int} (cbox : ∃ fz, w.heap[B2]? = some (.cells (cfgC K (.slice oa Lc.length cc)).toArray 29 fz) ∧ fzOK fz 18) (okc : ∀ t ∈ Lc, okW w t) (opc : Opn w realP Lc oa cc) (hLs : ∀ t ∈ Lc, SmT t.1) (hz : K.cn.size ≤ 9000000000000) (hA : AG (BfT B2 B6) [(1, wh)] [(2, 0), (6, 1)] a) (hv : cfgV K (poolsV (numS Lc 0)) = 0) (h2 : 2 ≤ Lc.length) : (Code.seq (regN Try.prog 4 23) (Code.cond (.tmp 94) (Code.seq (regN Try.prog 4 24) Code.ret) Code.skip)).wp Try.prog (fun e a' w' => e = .normal ∧ AG (BfT B2 B6) [(1, wh)] [(2, 0), (6, 1)] a' ∧ Below w.heap.size w w') a w := by
  have hc := one_cfg (oa := oa) (cc := cc) okc hLs hz
  rw [hv] at hc
  refine wp_mono (ag_run (ax := .normal) (one_raw okc opc) hA (fun t b hx => by simp only [List.mem_cons, Prod.mk.injEq, List.not_mem_nil, or_false] at hx; rcases hx with ⟨rfl, rfl⟩ | ⟨rfl, rfl⟩ <;> decide) (one_box (Bf := BfT B2 B6) (i := 0) rfl (by decide) cbox) (letI : Inhabited RawG := ⟨rawOf (insC Lc oa cc)⟩; ca23c (n := Lc.length) (cn := K.cn) (re := K.re) (co := K.co) (rs := K.rs) (dl := K.dl) (rq := K.rq) (cs := K.cs) (br := K.br) (bs := K.bs) (bm := K.bm) (by_ := K.by_) (en := K.en) (li := K.li) (he := K.he) (ct := K.ct) (bo := K.bo) (q := K.q) (wh := wh) hc rfl (decide_eq_false (by omega)))) ?_
  rintro e a' w' ⟨rfl, bel, D1, ρ1, hρ, hf, _⟩
  exact ⟨rfl, @AG.of ⟨rawOf (insC Lc oa cc)⟩ _ _ _ _ _ _ hf (fun t v hx => by simp only [List.mem_cons, Prod.mk.injEq, List.not_mem_nil, or_false] at hx; obtain ⟨rfl, rfl⟩ := hx; rfl) (fun t b hx => by simp only [List.mem_cons, Prod.mk.injEq, List.not_mem_nil, or_false] at hx; rcases hx with ⟨rfl, rfl⟩ | ⟨rfl, rfl⟩ <;> exact ⟨rfl, hρ _ (by decide)⟩), bel⟩
theorem one_d {K : CfgS} {Lc : List PX} {oa : Option Addr} {cc B2 B6 : Nat} {w : World} {a : Act} {wh : Int} (cbox : ∃ fz, w.heap[B2]? = some (.cells (cfgC K (.slice oa Lc.length cc)).toArray 29 fz) ∧ fzOK fz 18) (okc : ∀ t ∈ Lc, okW w t) (opc : Opn w realP Lc oa cc) (hA : AG (BfT B2 B6) [(1, wh)] [(2, 0), (6, 1)] a) (h1 : 1 ≤ Lc.length) (h9 : Lc.length ≤ 9000000000) : (regN Try.prog 4 25).wp Try.prog (fun e a' w' => e = .normal ∧ AG (BfT B2 B6) [(10, (pickV wh Lc.length : Int))] [(2, 0), (6, 1)] a' ∧ Below w.heap.size w w') a w := by
  have hc := (@pick_fn ⟨rawOf (insC Lc oa cc)⟩ wh Lc.length h1 (by omega)).2
  refine wp_mono (ag_run (ax := .normal) (one_raw okc opc) hA (fun t b hx => by simp only [List.mem_cons, Prod.mk.injEq, List.not_mem_nil, or_false] at hx; rcases hx with ⟨rfl, rfl⟩ | ⟨rfl, rfl⟩ <;> decide) (one_box (K := K) (Bf := BfT B2 B6) (i := 0) rfl (by decide) cbox) (letI : Inhabited RawG := ⟨rawOf (insC Lc oa cc)⟩; ca25 (n := Lc.length) (cn := K.cn) (re := K.re) (co := K.co) (rs := K.rs) (dl := K.dl) (rq := K.rq) (cs := K.cs) (br := K.br) (bs := K.bs) (bm := K.bm) (by_ := K.by_) (en := K.en) (li := K.li) (he := K.he) (ct := K.ct) (bo := K.bo) (q := K.q) (wh := wh) (v := 0) hc)) ?_
  rintro e a' w' ⟨rfl, bel, D1, ρ1, hρ, hf, _⟩
  exact ⟨rfl, @AG.of ⟨rawOf (insC Lc oa cc)⟩ _ _ _ _ _ _ hf (fun t v hx => by simp only [List.mem_cons, Prod.mk.injEq, List.not_mem_nil, or_false] at hx; obtain ⟨rfl, rfl⟩ := hx; rfl) (fun t b hx => by simp only [List.mem_cons, Prod.mk.injEq, List.not_mem_nil, or_false] at hx; rcases hx with ⟨rfl, rfl⟩ | ⟨rfl, rfl⟩ <;> exact ⟨rfl, hρ _ (by decide)⟩), bel⟩
/-- The end: the list without one pool is valid. -/
theorem one_e {K : CfgS} {Lc : List PX} {oa : Option Addr} {cc B2 B6 : Nat} {w w0 : World} {a : Act}  (cbox : ∃ fz, w.heap[B6]? = some (.cells (cfgC K (.slice oa Lc.length cc)).toArray 29 fz) ∧ fzOK fz 18) (okc : ∀ t ∈ Lc, okW w t) (opc : Opn w realP Lc oa cc) (hLs : ∀ t ∈ Lc, SmT t.1) (hz : K.cn.size ≤ 9000000000000) (hA : AG (BfT B2 B6) [] [(6, 1)] a) (hv : cfgV K (poolsV (numS Lc 0)) = 0) (bel : ∀ w', Below w.heap.size w w' → Below w0.heap.size w0 w') : (Code.seq (regN Try.prog 4 27) Code.ret).wp Try.prog (bodyPost Try.prog Try.f4 (fun e w1 => e = .returned (.bool true) ∧ Below w0.heap.size w0 w1)) a w := by
  have hc := one_cfg (oa := oa) (cc := cc) okc hLs hz
  rw [hv] at hc
  refine wp_seq (wp_mono (ag_run (ax := .normal) (fr' := mkF [(4, .bool true)] 116 0) (one_raw okc opc) hA (fun t b hx => by simp only [List.mem_cons, Prod.mk.injEq, List.not_mem_nil, or_false] at hx; obtain ⟨rfl, rfl⟩ := hx; decide) (one_box (Bf := BfT B2 B6) (i := 1) rfl (by decide) cbox) (letI : Inhabited RawG := ⟨rawOf (insC Lc oa cc)⟩; ca27 (n := Lc.length) (cn := K.cn) (re := K.re) (co := K.co) (rs := K.rs) (dl := K.dl) (rq := K.rq) (cs := K.cs) (br := K.br) (bs := K.bs) (bm := K.bm) (by_ := K.by_) (en := K.en) (li := K.li) (he := K.he) (ct := K.ct) (bo := K.bo) (q := K.q) (v := 0) (wh := 0) hc)) ?_)
  rintro e a' w' ⟨rfl, b2, D1, ρ1, _, hf, hw⟩
  exact wp_ret (@fin_true4 ⟨rawOf (insC Lc oa cc)⟩ _ _ _ _ _ _ rfl hf hw (bel _ b2))
end
section
open Go.RowKit
set_option linter.unusedSimpArgs false
set_option linter.unusedVariables false
set_option linter.unusedSectionVars false
set_option maxRecDepth 100000
theorem body4L : Try.f4.body = some (((regN Try.prog 4 0)).seq ((((regN Try.prog 4 1)).seq (Code.cond (.tmp 12) (((regN Try.prog 4 2)).seq Code.ret) Code.skip)).seq ((((regN Try.prog 4 3)).seq (Code.cond (.tmp 15) (((regN Try.prog 4 4)).seq Code.ret) Code.skip)).seq (((regN Try.prog 4 5)).seq ((((regN Try.prog 4 6)).seq (Code.cond (.tmp 28) (((regN Try.prog 4 7)).seq Code.ret) Code.skip)).seq (((regN Try.prog 4 8)).seq ((((regN Try.prog 4 9)).seq (Code.block 0 (Code.loop (loopN Try.prog 4 0)))).seq ((((regN Try.prog 4 21)).seq (Code.cond (.tmp 85) (((regN Try.prog 4 22)).seq Code.ret) Code.skip)).seq ((((regN Try.prog 4 23)).seq (Code.cond (.tmp 94) (((regN Try.prog 4 24)).seq Code.ret) Code.skip)).seq (((regN Try.prog 4 25)).seq (((regN Try.prog 4 26)).seq (((regN Try.prog 4 27)).seq Code.ret)))))))))))) := by kernel_rfl
theorem nt4 : Try.f4.ntmps = 116 := by kernel_rfl
theorem act_two {fn : Func} {n : Nat} {y0 y1 : Value} {a : Act} (hn : fn.ntmps = n) (ha : a = { tmps := #[y0, y1] ++ Array.replicate (fn.ntmps - #[y0, y1].size) undef, defers := [] }) (h1 : 2 ≤ n) : a.tmps.size = n ∧ a.defers = [] ∧ a.tmps.getD 0 undef = y0 ∧ a.tmps.getD 1 undef = y1 := by
  subst ha
  refine ⟨?_, rfl, ?_, ?_⟩
  · simp [hn]; omega
  all_goals (rw [Array.getD_eq_getD_getElem?, Array.getElem?_append_left (by simp)]; rfl)
/-- A piece that only reads. -/
theorem fr_run {E : Nat → Ent} {w : World} {a : Act} {ρ : Nat → Pl} {H : Heap} {nx nx' : Nat} {c : Code} {ax : AX} {fr fr' : List Value} (hraw : ∀ i, @RawAt ⟨rawOf E⟩ w i) (hf : @FR ⟨rawOf E⟩ [] (fun b => b < nx) ρ fr a)
    (hH : ∀ b k, hget H b = some k → b < nx ∧ k.mode = 2 ∧ @BR ⟨rawOf E⟩ (fun b => b < nx) ρ (ρ b) k (szP Try.prog) w)
    (hC : @CodeOK ⟨rawOf E⟩ Try.prog c fr H nx ⟨ax, fr', [], nx', []⟩) :
    c.wp Try.prog (fun e a' w' => e = ax.to ∧ Below w.heap.size w w' ∧ ∃ D1 ρ1, (∀ b, b < nx → ρ1 b = ρ b) ∧ @FR ⟨rawOf E⟩ [] D1 ρ1 fr' a') a w := by
  letI : Inhabited RawG := ⟨rawOf E⟩
  have noImg : ∀ n, ¬ Img ρ (hget H) n := fun n ⟨b, k, hb, hm, _⟩ => hm (hH b k hb).2.1
  have hw : WR (szP Try.prog) (fun b => b < nx) ρ (hget H) w :=
    ⟨fun b k hb => (hH b k hb).1, fun b k hb => (hH b k hb).2.2, fun b c k l hb hc hne hm => (hm.elim (fun h => absurd (hH b k hb).2.1 h) (fun h => absurd (hH c l hc).2.1 h)), ⟨hraw, fun i a _ _ => noImg _⟩⟩
  refine wp_mono (hC _ _ a w (fun b h => h) hf hw) ?_
  rintro e a' w' ⟨rfl, hle, D1, ρ1, hT, hf1, hb1, hc1⟩
  exact ⟨rfl, ⟨hT.os, hT.tape, hT.output, hT.size, fun b hb => hT.keep b hb (noImg b)⟩, D1, ρ1, fun b hb => hT.same b hb, hf1⟩
/-- The writing, where there is no pool. -/
theorem w_nil {K : CfgS} {oR : Option Addr} {cR B2 B5 B6 : Nat} {w : World} {a : Act} {wh : Int} (hb : ∃ fz, w.heap[B5]? = some (.cells (cfgC K (.slice oR 0 cR)).toArray 29 fz) ∧ fzOK fz 18) (hA : AFr wh B2 B5 B6 [] a) :
    (Code.seq (regN Try.prog 4 9) (Code.block 0 (Code.loop (loopN Try.prog 4 0)))).wp Try.prog (fun e a' w' => e = .normal ∧ AFr wh B2 B5 B6 [] a' ∧ Below w.heap.size w w') a w := by
  letI : Inhabited RawG := ⟨rawOf (insC [] oR cR)⟩
  have hraw : ∀ {w : World} i, RawAt w i := fun {w} => one_raw (Lc := []) (oa := oR) (cc := cR) (fun t ht => by cases ht) ⟨Nat.zero_le _, fun h => absurd h (Nat.lt_irrefl 0)⟩
  have hH : ∀ {w : World}, (∃ fz, w.heap[B5]? = some (.cells (cfgC K (.slice oR 0 cR)).toArray 29 fz) ∧ fzOK fz 18) → ∀ b k, hget [(1, ⟨29, cfgC K (.slice (some ⟨0, 0, some 2⟩) ([] : List PoolT).length 0), 2⟩)] b = some k → b < 3 ∧ k.mode = 2 ∧ BR (fun b => b < 3) (rhoL B2 B5 B6 0 0 0 0) (rhoL B2 B5 B6 0 0 0 0 b) k (szP Try.prog) w := fun {w} hb b k hg => by
    rcases hget_cons hg with ⟨rfl, rfl⟩ | hg
    · exact ⟨by decide, rfl, bx2 (E := insC [] oR cR) hb (vr_opq _ rfl)⟩
    · exact (hget_nil _ _ hg).elim
  refine wp_seq (wp_mono (fr_run (ax := .normal) (fr' := frLx wh [(7, ((0 : Nat) : Int))]) hraw (hA.fr (by decide) (by decide) (by decide)) (hH hb) (wl9 (ps := []) (n := 0) (i := 0) (k := 0) (cn := K.cn) (re := K.re) (co := K.co) (rs := K.rs) (dl := K.dl) (rq := K.rq) (cs := K.cs) (br := K.br) (bs := K.bs) (bm := K.bm) (by_ := K.by_) (en := K.en) (li := K.li) (he := K.he) (ct := K.ct) (bo := K.bo) (q := K.q) (wh := wh))) ?_)
  rintro e a1 w1 ⟨rfl, bel1, D1, ρ1, hρ, hf1⟩
  have hA1 : AFr wh B2 B5 B6 [(7, ((0 : Nat) : Int))] a1 := AFr.of hf1 (hρ 0 (by decide)) (hρ 1 (by decide)) (hρ 2 (by decide)) (fun t v hx => by simp only [List.mem_cons, Prod.mk.injEq, List.not_mem_nil, or_false] at hx; obtain ⟨rfl, rfl⟩ := hx; rfl)
  refine wp_block (wp_loop_rounds 1 ?_)
  rw [rounds_succ, loop40]
  have hb1 : ∃ fz, w1.heap[B5]? = some (.cells (cfgC K (.slice oR 0 cR)).toArray 29 fz) ∧ fzOK fz 18 := by
    obtain ⟨fz, h1, h2⟩ := hb
    exact ⟨fz, (bel1.block _ (Array.getElem?_eq_some_iff.1 h1).1).trans h1, h2⟩
  refine wp_seq (wp_mono (fr_run (ax := .exit 0) (fr' := frLx wh [(7, ((0 : Nat) : Int))]) hraw (hA1.fr (by decide) (by decide) (by decide)) (hH hb1) (wl10e (ps := []) (n := 0) (i := 0) (k := 0) (cn := K.cn) (re := K.re) (co := K.co) (rs := K.rs) (dl := K.dl) (rq := K.rq) (cs := K.cs) (br := K.br) (bs := K.bs) (bm := K.bm) (by_ := K.by_) (en := K.en) (li := K.li) (he := K.he) (ct := K.ct) (bo := K.bo) (q := K.q) (wh := wh) rfl)) ?_)
  rintro e a2 w2 ⟨rfl, bel2, D2, ρ2, hρ2, hf2⟩
  have hA2 : AFr wh B2 B5 B6 [(7, ((0 : Nat) : Int))] a2 := AFr.of hf2 (hρ2 0 (by decide)) (hρ2 1 (by decide)) (hρ2 2 (by decide)) (fun t v hx => by simp only [List.mem_cons, Prod.mk.injEq, List.not_mem_nil, or_false] at hx; obtain ⟨rfl, rfl⟩ := hx; rfl)
  exact ⟨rfl, hA2.less (fun x hx => by cases hx), bel1.trans (bel2.mono bel1.size)⟩
/-- Where blocks are kept. -/
theorem TwoSt.kept {K : CfgS} {Lc R : List PX} {oa oR : Option Addr} {cc cR B2 B6 : Nat} {w : World} {w' : World} (h : TwoSt K Lc R oa oR cc cR B2 B6 w) (P : Nat → Prop) (hP : ∀ b, b < w.heap.size → P b → w'.heap[b]? = w.heap[b]?) (p2 : P B2) (p6 : P B6) (pc : ∀ t ∈ Lc, ∀ b ∈ blks t, P b) (pr : ∀ t ∈ R, ∀ b ∈ blks t, P b) (qc : ∀ a, oa = some a → 0 < Lc.length → P a.block) (qr : ∀ a, oR = some a → 0 < R.length → P a.block) : TwoSt K Lc R oa oR cc cR B2 B6 w' := by
  obtain ⟨f1, c1, g1⟩ := h.cbox
  obtain ⟨f2, c2, g2⟩ := h.dbox
  refine ⟨⟨f1, (hP _ (Array.getElem?_eq_some_iff.1 c1).1 p2).trans c1, g1⟩, ⟨f2, (hP _ (Array.getElem?_eq_some_iff.1 c2).1 p6).trans c2, g2⟩, fun t ht => okW_keep (h.okc t ht) fun b hb => hP b (okW_lt (h.okc t ht) hb) (pc t ht b hb), opn_keep h.opc fun k ⟨cs, el, fz, hh⟩ ⟨a, ea, eb, hp⟩ => hP k (Array.getElem?_eq_some_iff.1 hh).1 (eb ▸ qc a ea hp), fun t ht => okW_keep (h.okr t ht) fun b hb => hP b (okW_lt (h.okr t ht) hb) (pr t ht b hb), opn_keep h.opr fun k ⟨cs, el, fz, hh⟩ ⟨a, ea, eb, hp⟩ => hP k (Array.getElem?_eq_some_iff.1 hh).1 (eb ▸ qr a ea hp), h.len, h.data⟩
end
section
open Go.RowKit
set_option linter.unusedSimpArgs false
set_option linter.unusedVariables false
set_option linter.unusedSectionVars false
set_option maxRecDepth 100000
theorem sl_inj {a b : Option Addr} {n m c d : Nat} (e : Value.slice a n c = .slice b m d) : a = b ∧ n = m ∧ c = d := by cases e; exact ⟨rfl, rfl, rfl⟩
theorem r5_9 {Lc R : List PX} (hd : ∀ j, (R.getD j default).1 = (Lc.getD j default).1) (hLs : ∀ t ∈ Lc, SmT t.1) : ∀ j, (R.getD j default).1.hs.length ≤ 9000000000 ∧ (R.getD j default).1.bk.length ≤ 9000000000 := fun j => by
  rw [hd j]
  by_cases hj : j < Lc.length
  · exact ⟨(hLs _ (getD_mem' hj)).l, (hLs _ (getD_mem' hj)).m⟩
  · rw [List.getD_eq_getElem?_getD, List.getElem?_eq_none (by omega)]
    exact ⟨Nat.zero_le _, Nat.zero_le _⟩
theorem cop_ge {n0 : Nat} {Lc R : List PX} {u : Value} {w : World} (h : CopyG n0 Lc R u w) : ∀ t ∈ R, ∀ b ∈ blks t, n0 ≤ b := fun t ht b hb => by
  have hp : 0 < Lc.length := by rw [← h.len]; exact List.length_pos_of_mem ht
  obtain ⟨Bd, cap, _, h1⟩ := h.own hp
  exact own_ge (h1.own t ht) (h1.ok t ht) hb
theorem cop_row {n0 : Nat} {Lc R : List PX} {oR : Option Addr} {cR : Nat} {w : World} (h : CopyG n0 Lc R (.slice oR R.length cR) w) : ∀ a, oR = some a → 0 < R.length → n0 ≤ a.block ∧ a.block ∈ hblk (.slice oR R.length cR) := fun a ha hp => by
  have hl := h.len
  obtain ⟨Bd, cap, e, h1⟩ := h.own (by omega)
  subst ha
  obtain ⟨e1, _, _⟩ := sl_inj e
  cases e1
  exact ⟨h1.ge, by rw [hblk_own hp]; exact List.mem_singleton.2 rfl⟩
/-- Behind both copies. -/
theorem copies_end {w0 wA wB w : World} {K : CfgS} {Lc R S : List PX} {oa oR oS : Option Addr} {cc cR cS B2 B5 B6 : Nat} {a : Act} {wh : Int} (hok : ∀ t ∈ Lc, okW w0 t) (ho : Opn w0 realP Lc oa cc) (h20 : Lc.length ≤ 20) (hLs : ∀ t ∈ Lc, SmT t.1) (hz : K.cn.size ≤ 9000000000000)
    (g0 : w0.heap.size ≤ B2) (gA : B2 < wA.heap.size) (gB : wA.heap.size ≤ wB.heap.size) (bel : Below w0.heap.size w0 w)
    (gR : CopyG wA.heap.size Lc R (.slice oR R.length cR) w) (gR5 : wA.heap.size ≤ B5 ∧ B5 < wB.heap.size ∧ B5 ∉ hblk (.slice oR R.length cR) ∧ ∀ t ∈ R, B5 ∉ blks t) (ltR : ∀ t ∈ R, ∀ b ∈ blks t, b < wB.heap.size) (ltR2 : ∀ a, oR = some a → 0 < R.length → a.block < wB.heap.size) (rbox : ∃ fz, w.heap[B5]? = some (.cells (cfgC K (.slice oR R.length cR)).toArray 29 fz) ∧ fzOK fz 18)
    (gS : CopyG wB.heap.size Lc S (.slice oS S.length cS) w) (gS6 : wB.heap.size ≤ B6 ∧ B6 ∉ hblk (.slice oS S.length cS) ∧ ∀ t ∈ S, B6 ∉ blks t)
    (h : TwoSt K Lc S oa oS cc cS B2 B6 w) (hA : AFr wh B2 B5 B6 [] a) :
    (Code.seq (Code.seq (regN Try.prog 4 9) (Code.block 0 (Code.loop (loopN Try.prog 4 0)))) (Code.seq (Code.seq (regN Try.prog 4 21) (Code.cond (.tmp 85) (Code.seq (regN Try.prog 4 22) Code.ret) Code.skip)) (Code.seq (Code.seq (regN Try.prog 4 23) (Code.cond (.tmp 94) (Code.seq (regN Try.prog 4 24) Code.ret) Code.skip)) (Code.seq (regN Try.prog 4 25) (Code.seq (regN Try.prog 4 26) (Code.seq (regN Try.prog 4 27) Code.ret)))))).wp Try.prog (bodyPost Try.prog Try.f4 (fun e w1 => e = .returned (.bool true) ∧ Below w0.heap.size w0 w1)) a w := by
  have s0 := bel.size
  have b2w : B2 < w.heap.size := by obtain ⟨fz, h1, _⟩ := h.cbox; exact (Array.getElem?_eq_some_iff.1 h1).1
  have b6w : B6 < w.heap.size := by obtain ⟨fz, h1, _⟩ := h.dbox; exact (Array.getElem?_eq_some_iff.1 h1).1
  have cblt : ∀ t ∈ Lc, ∀ b ∈ blks t, b < w0.heap.size := fun t ht b hb => okW_lt (hok t ht) hb
  have crow : ∀ a, oa = some a → 0 < Lc.length → a.block < w0.heap.size := fun a ea hp => by
    obtain ⟨a', e1, _, cs, el, fz, hh, _⟩ := ho.row hp
    rw [ea] at e1
    cases e1
    exact (Array.getElem?_eq_some_iff.1 hh).1
  have hF : FarT Lc S oa oS B2 B6 := by
    refine ⟨by omega, fun a ea hp => ?_, fun a ea hp => ?_, fun t ht b hb => ?_, fun t ht b hb => ?_⟩
    · have := crow a ea hp; omega
    · obtain ⟨h1, h2⟩ := cop_row gS a ea hp
      exact ⟨by omega, fun e => gS6.2.1 (e ▸ h2)⟩
    · have := cblt t ht b hb; omega
    · have := cop_ge gS t ht b hb
      exact ⟨by omega, fun e => gS6.2.2 t ht (e ▸ hb)⟩
  -- the writing
  have hLoop : (Code.seq (regN Try.prog 4 9) (Code.block 0 (Code.loop (loopN Try.prog 4 0)))).wp Try.prog (fun e a' w' => e = .normal ∧ AFr wh B2 B5 B6 [] a' ∧ TwoSt K Lc S oa oS cc cS B2 B6 w' ∧ Below w0.heap.size w0 w') a w := by
    rcases Nat.eq_zero_or_pos R.length with hn | hn
    · rw [hn] at rbox
      refine wp_mono (w_nil rbox hA) ?_
      rintro e a' w' ⟨rfl, hA', b1⟩
      exact ⟨rfl, hA', h.below b1, bel.trans (b1.mono s0)⟩
    · have hl := gR.len
      obtain ⟨Bd, cap, e, h1⟩ := gR.own (by omega)
      have eR : oR = some ⟨Bd, 0, none⟩ := (sl_inj e).1
      have eC : cR = cap := (sl_inj e).2.2
      subst eR
      subst eC
      have hW : WInv w wA.heap.size K B5 Bd cR R R w := by
        refine ⟨rbox, rfl, fun j => ⟨rfl, rfl⟩, h1.ok, h1.own, h1.row, h1.nd, fun j => rfl, ⟨fun e => gR5.2.2.1 ?_, gR5.2.2.2⟩, fun b _ _ _ _ => rfl, ⟨rfl, rfl, rfl, Nat.le_refl _⟩⟩
        rw [hblk_own hn, e]; exact List.mem_singleton.2 rfl
      refine wp_mono (w_all (r5_9 gR.data hLs) (by omega) hW hA) ?_
      rintro e a' w' ⟨rfl, hA', R', hW'⟩
      have lt2 := ltR2 _ rfl hn
      have ge2 : wA.heap.size ≤ Bd := h1.ge
      have kp : ∀ b, b < w.heap.size → (b < wA.heap.size ∨ wB.heap.size ≤ b) → w'.heap[b]? = w.heap[b]? := fun b hb hr => by
        refine hW'.keep b hb (by omega) (fun e => by subst e; change b < _ at lt2; omega) fun j hj => ?_
        by_cases hjl : j < R.length
        · have h3 := cop_ge gR _ (getD_mem' hjl) b hj
          have h4 := ltR _ (getD_mem' hjl) b hj
          omega
        · rw [List.getD_eq_getElem?_getD, List.getElem?_eq_none (by omega)] at hj
          exact absurd hj (by intro hj; cases hj)
      obtain ⟨r1, r2, r3, r4⟩ := hW'.rest
      refine ⟨rfl, hA', h.kept (fun b => b < wA.heap.size ∨ wB.heap.size ≤ b) kp (.inl gA) (.inr gS6.1) (fun t ht b hb => .inl (by have := cblt t ht b hb; omega)) (fun t ht b hb => .inr (cop_ge gS t ht b hb)) (fun a ea hp => .inl (by have := crow a ea hp; omega)) (fun a ea hp => .inr (cop_row gS a ea hp).1), bel.trans ⟨r1, r2, r3, r4, fun k hk => kp k (by omega) (.inl (by omega))⟩⟩
  refine wp_seq (wp_mono hLoop ?_)
  rintro e a9 w9 ⟨rfl, hA9, h9, bel9⟩
  have l9 : Lc.length ≤ 9000000000 := by omega
  have ag9 : AG (BfT B2 B6) [(1, wh)] [(2, 0), (6, 1)] a9 := by
    refine ⟨hA9.size, hA9.defers, fun t v hx => ?_, fun t b hx => ?_⟩
    · simp only [List.mem_cons, Prod.mk.injEq, List.not_mem_nil, or_false] at hx
      obtain ⟨rfl, rfl⟩ := hx
      exact hA9.t1
    · simp only [List.mem_cons, Prod.mk.injEq, List.not_mem_nil, or_false] at hx
      rcases hx with ⟨rfl, rfl⟩ | ⟨rfl, rfl⟩
      · exact hA9.t2
      · exact hA9.t6
  refine wp_seq (wp_mono (two_b h9 hLs l9 hz ag9) ?_)
  rintro e a10 w10 ⟨rfl, ag10, b10⟩
  have h10 := h9.below b10
  have bel10 := bel9.trans (b10.mono bel9.size)
  by_cases hv : cfgV K (poolsV (numS Lc 0)) = 0
  · by_cases h2 : 2 ≤ Lc.length
    · refine wp_seq (wp_mono (one_c h10.cbox h10.okc h10.opc hLs hz ag10 hv h2) ?_)
      rintro e a11 w11 ⟨rfl, ag11, b11⟩
      have h11 := h10.below b11
      have bel11 := bel10.trans (b11.mono bel10.size)
      refine wp_seq (wp_mono (one_d h11.cbox h11.okc h11.opc ag11 (by omega) l9) ?_)
      rintro e a12 w12 ⟨rfl, ag12, b12⟩
      have h12 := h11.below b12
      have bel12 := bel11.trans (b12.mono bel11.size)
      obtain ⟨k, hk0⟩ : ∃ k, k = pickV wh Lc.length := ⟨_, rfl⟩
      have hk : k < Lc.length := by
        rw [hk0]
        exact (@pick_fn ⟨rawOf (insC Lc oa cc)⟩ wh Lc.length (by omega) (by omega)).1
      rw [← hk0] at ag12
      refine wp_seq (wp_mono (drop_ok h12 hF hk h2 l9 ag12) ?_)
      rintro e a13 w13 ⟨rfl, hD⟩
      obtain ⟨Bn, cap, hbx, hrow⟩ := hD.box
      have bel13 : Below w0.heap.size w0 w13 := bel12.trans ⟨hD.os, hD.tape, hD.output, hD.size, fun b hb => hD.keep b (by have := bel12.size; omega) (by omega) (by omega)⟩
      have memD : ∀ t ∈ (Lc.take k ++ Lc.drop (k + 1)), t ∈ Lc := fun t ht => (List.mem_append.1 ht).elim List.mem_of_mem_take List.mem_of_mem_drop
      have hoD : Opn w13 realP (Lc.take k ++ Lc.drop (k + 1)) (some ⟨Bn, 0, none⟩) cap := by
        obtain ⟨oa', c', e, h⟩ := rowV_of (f := realP) realP16 (by decide) hrow
        cases e
        exact h
      obtain ⟨v0, hGK⟩ := cfgV_good hv
      have hv2 : cfgV K (poolsV (numS (Lc.take k ++ Lc.drop (k + 1)) 0)) = 0 := by
        rw [poolsX_drop v0 hk h2]
        exact cfgV_ok hGK
      exact one_e hbx (fun t ht => hD.ok t (memD t ht)) hoD (fun t ht => hLs t (memD t ht)) hz hD.fr hv2 (fun w' b => bel13.trans (b.mono bel13.size))
    · refine wp_seq (wp_mono (one_a h10.cbox h10.okc h10.opc hLs hz ag10 bel10 (.inr (by omega))) ?_)
      rintro e a11 w11 ⟨rfl, hfin⟩
      exact hfin
  · refine wp_seq (wp_mono (one_a h10.cbox h10.okc h10.opc hLs hz ag10 bel10 (.inl hv)) ?_)
    rintro e a11 w11 ⟨rfl, hfin⟩
    exact hfin
end
section
open Go.RowKit
set_option linter.unusedSimpArgs false
set_option linter.unusedVariables false
set_option linter.unusedSectionVars false
set_option maxRecDepth 100000
theorem copies_ok {w0 : World} {K : CfgS} {Lc : List PX} {oa : Option Addr} {cc : Nat} {wh : Int} (hok : ∀ t ∈ Lc, okW w0 t) (ho : Opn w0 realP Lc oa cc) (hle : Lc.length ≤ 9223372036854775807) :
    Calls Try.prog 4 #[.agg (cfgC K (.slice oa Lc.length cc)).toArray, .int .i64 wh] w0 (fun e w1 => e = .returned (.bool true) ∧ Below w0.heap.size w0 w1) := by
  letI : Inhabited RawG := ⟨rawOf (insC Lc oa cc)⟩
  have hps : (numS Lc 0).length = Lc.length := numS_len _ _
  have hraw : ∀ i, RawAt w0 i := one_raw hok ho
  have hw0 : WR (szP Try.prog) (fun _ => False) (fun _ => default) (hget []) w0 := wr_mk (fun b k hg => (hget_nil _ _ hg).elim) (fun b c k l hb => (hget_nil _ _ hb).elim) hraw (fun i a hc ha b k hg => (hget_nil _ _ hg).elim)
  have hv0 : VR (fun _ => False) (fun _ => default) (.agg (cfgC K (.slice (some ⟨0, 0, some 2⟩) (numS Lc 0).length 0)).toArray) (.agg (cfgC K (.slice oa Lc.length cc)).toArray) :=
    vr_aggL rfl (cfg_rel (fun v h => .scal v h) (by rw [hps]; exact vr_opq _ entQ0))
  have hR0 : RowsP (numS Lc 0) := rowsP_numS apO hok
  refine calls_of_wp Try.func4 body4L ?_
  obtain ⟨y0, hy0⟩ : ∃ y0, y0 = Value.agg (cfgC K (.slice oa Lc.length cc)).toArray := ⟨_, rfl⟩
  rw [← hy0] at hv0 ⊢
  obtain ⟨a0, ha0⟩ : ∃ a0 : Act, a0 = { tmps := #[y0, .int .i64 wh] ++ Array.replicate (Try.f4.ntmps - #[y0, .int .i64 wh].size) undef, defers := [] } := ⟨_, rfl⟩
  rw [← ha0]
  obtain ⟨az, ad, a00, a01⟩ := act_two nt4 ha0 (by decide)
  have hf0 : FR [] (fun _ => False) (fun _ => default) (mkF [(0, .agg (cfgC K (.slice (some ⟨0, 0, some 2⟩) (numS Lc 0).length 0)).toArray), (1, .int .i64 wh)] 116 0) a0 := by
    refine fr_mk az ad fun t v h => ?_
    simp only [List.mem_cons, Prod.mk.injEq, List.not_mem_nil, or_false] at h
    rcases h with ⟨rfl, rfl⟩ | ⟨rfl, rfl⟩
    · rw [a00]; exact hv0
    · rw [a01]; exact .scal _ rfl
  refine wp_seq (wp_mono (ca0 (ps := (numS Lc 0)) (cn := K.cn) (re := K.re) (co := K.co) (rs := K.rs) (dl := K.dl) (rq := K.rq) (cs := K.cs) (br := K.br) (bs := K.bs) (bm := K.bm) (by_ := K.by_) (en := K.en) (li := K.li) (he := K.he) (ct := K.ct) (bo := K.bo) (q := K.q) (wh := wh) _ _ _ _ (fun b h => h.elim) hf0 hw0) ?_)
  rintro e a1 w1 ⟨rfl, l1, D1, ρ1, t1, f1, b1, c1⟩
  refine wp_seq (wp_mono (ca1 (ps := (numS Lc 0)) (cn := K.cn) (re := K.re) (co := K.co) (rs := K.rs) (dl := K.dl) (rq := K.rq) (cs := K.cs) (br := K.br) (bs := K.bs) (bm := K.bm) (by_ := K.by_) (en := K.en) (li := K.li) (he := K.he) (ct := K.ct) (bo := K.bo) (q := K.q) (wh := wh) _ _ _ _ b1 f1 t1.wr) ?_)
  rintro e a2 w2 ⟨rfl, l2, D2, ρ2, t2, f2, b2, c2⟩
  obtain ⟨bb, h8, hb⟩ := light_ex hR0 (by rw [hps]; exact hle) (cn := K.cn) (re := K.re) (co := K.co) (rs := K.rs) (dl := K.dl) (rq := K.rq) (cs := K.cs) (br := K.br) (bs := K.bs) (bm := K.bm) (by_ := K.by_) (en := K.en) (li := K.li) (he := K.he) (ct := K.ct) (bo := K.bo) (q := K.q)
  have belT : ∀ {D' : Nat → Prop} {ρ' : Nat → Pl} {h' : HF} {w' : World}, T (szP Try.prog) (fun _ => False) (fun _ => default) (hget []) w0 D' ρ' h' w' → Below w0.heap.size w0 w' := fun t => ⟨t.os, t.tape, t.output, t.size, fun k hk => t_keep t hk fun b k hb => (hget_nil _ _ hb).elim⟩
  cases bb with
  | false =>
    refine wp_seq (wp_mono (ca3a (ps := (numS Lc 0)) (cn := K.cn) (re := K.re) (co := K.co) (rs := K.rs) (dl := K.dl) (rq := K.rq) (cs := K.cs) (br := K.br) (bs := K.bs) (bm := K.bm) (by_ := K.by_) (en := K.en) (li := K.li) (he := K.he) (ct := K.ct) (bo := K.bo) (q := K.q) (wh := wh) (b := false) h8 rfl _ _ _ _ b2 f2 t2.wr) ?_)
    rintro e a3 w3 ⟨rfl, l3, D3, ρ3, t3, f3, b3, c3⟩
    exact fin_true4 rfl f3 t3.wr (belT ((t1.trans t2).trans t3))
  | true =>
    obtain ⟨hn20, hc300, hLp⟩ := hb rfl
    rw [hps] at hn20
    have hLs : ∀ t ∈ Lc, SmT t.1 := fun t ht => by
      obtain ⟨j, hj, rfl⟩ := List.mem_iff_getElem.1 ht
      have h1 := smT_of (hLp _ (pool_mem (show j < (numS Lc 0).length by rw [hps]; exact hj)))
      rw [numS_get hj] at h1
      have e : Lc.getD j default = Lc[j] := by rw [List.getD_eq_getElem?_getD, List.getElem?_eq_getElem hj]; rfl
      rw [e] at h1
      exact ⟨h1.n, h1.h, h1.b, h1.l, h1.m⟩
    have hz9 : K.cn.size ≤ 9000000000000 := by omega
    have hl9 : Lc.length ≤ 9000000000 := by omega
    have hlm : ∀ t ∈ Lc, t.1.hs.length ≤ 9000000000 ∧ t.1.bk.length ≤ 9000000000 := fun t ht => ⟨(hLs t ht).l, (hLs t ht).m⟩
    refine wp_seq (wp_mono (ca3c (ps := (numS Lc 0)) (cn := K.cn) (re := K.re) (co := K.co) (rs := K.rs) (dl := K.dl) (rq := K.rq) (cs := K.cs) (br := K.br) (bs := K.bs) (bm := K.bm) (by_ := K.by_) (en := K.en) (li := K.li) (he := K.he) (ct := K.ct) (bo := K.bo) (q := K.q) (wh := wh) (b := true) h8 rfl _ _ _ _ b2 f2 t2.wr) ?_)
    rintro e a3 w3 ⟨rfl, l3, D3, ρ3, t3, f3, b3, c3⟩
    have hT := (t1.trans t2).trans t3
    have bel := belT hT
    have hw3 := hT.wr
    obtain ⟨oB, cB, fzB, hB, gB⟩ := box_cells (hw3.here 0 _ rfl) rfl rfl
    have g3 : w0.heap.size ≤ (ρ3 0).blk := t_new hw0 hT (b := 0) rfl (show (0 : Nat) ≠ 2 by decide) fun c l hc => (hget_nil _ _ hc).elim
    have hbox : (ABlk.cells ⟨29, cfgC K (.slice (some ⟨0, 0, some 2⟩) (numS Lc 0).length 0), 0⟩).map (imgV ρ3) = cfgC K (.slice oa Lc.length cc) := by
      show cfgC K (.slice oa (numS Lc 0).length cc) = _
      rw [hps]
    have hB' : w3.heap[(ρ3 0).blk]? = some (.cells (cfgC K (.slice oa Lc.length cc)).toArray 29 fzB) := by rw [← hbox]; exact hB
    have hB3 : (ρ3 0).blk < w3.heap.size := (Array.getElem?_eq_some_iff.1 hB').1
    have q1 := (fr_get f3 (t := 1) (v := .int .i64 wh) rfl rfl).int_inv
    have q2 : a3.tmps.getD 2 undef = .pointer (some ⟨(ρ3 0).blk, 0, none⟩) := by
      have h1 := (fr_get f3 (t := 2) (v := .pointer (some ⟨0, 0, none⟩)) rfl rfl).img rfl
      rw [h1]
      show Value.pointer (some ⟨(ρ3 0).blk, (ρ3 0).off + 0, none⟩) = _
      rw [oB]
    have hs3 : a3.tmps.size = 116 := by rw [f3.size, mkF_len]
    have hok3 : ∀ t ∈ Lc, okW w3 t := fun t ht => okW_below (hok t ht) bel
    have ho3 := opn_below ho bel
    obtain ⟨B2, hB2⟩ : ∃ B2, B2 = (ρ3 0).blk := ⟨_, rfl⟩
    rw [← hB2] at g3 hB' hB3 q2
    refine wp_seq (dcopy2_wp reg4a q2 hB' hok3 ho3 hl9 hlm (by omega) (by omega) (by omega) (by decide) (by decide) (by decide) ?_)
    intro a5 w5 R u5 B5 hd5 hz5 hg5 h55 hge5 hbox5 hcp5 hsep5 bel5
    obtain ⟨oR, cR, eu, hoR⟩ := hcp5.row
    subst eu
    have s5 := bel5.size
    have b5lt : B5 < w5.heap.size := by obtain ⟨fz, h1, _⟩ := hbox5; exact (Array.getElem?_eq_some_iff.1 h1).1
    have st5 : TwoSt K Lc R oa oR cc cR B2 B5 w5 := ⟨⟨fzB, (bel5.block _ hB3).trans hB', gB⟩, hbox5, fun t ht => okW_below (hok3 t ht) bel5, opn_below ho3 bel5, hcp5.ok, hoR, hcp5.len, hcp5.data⟩
    have ag5 : AG (BfT B2 B5) [(1, wh)] [(2, 0), (5, 1)] a5 := by
      refine ⟨hz5.trans hs3, hd5.trans f3.defers, fun t v hx => ?_, fun t b hx => ?_⟩
      · simp only [List.mem_cons, Prod.mk.injEq, List.not_mem_nil, or_false] at hx
        obtain ⟨rfl, rfl⟩ := hx
        exact (hg5 1 (by decide) (by decide) (by decide)).trans q1
      · simp only [List.mem_cons, Prod.mk.injEq, List.not_mem_nil, or_false] at hx
        rcases hx with ⟨rfl, rfl⟩ | ⟨rfl, rfl⟩
        · exact (hg5 2 (by decide) (by decide) (by decide)).trans q2
        · exact h55
    refine wp_seq (wp_mono (two_a st5 hLs hl9 hz9 ag5) ?_)
    rintro e a6 w6 ⟨rfl, ag6, bel6⟩
    have st6 := st5.below bel6
    have s6 := bel6.size
    obtain ⟨fz6, hb6, gb6⟩ := st6.cbox
    have q62 : a6.tmps.getD 2 undef = .pointer (some ⟨B2, 0, none⟩) := ag6.ptr 2 0 (List.mem_cons_self ..)
    have q65 : a6.tmps.getD 5 undef = .pointer (some ⟨B5, 0, none⟩) := ag6.ptr 5 1 (List.mem_cons_of_mem _ (List.mem_cons_self ..))
    have q61 : a6.tmps.getD 1 undef = .int .i64 wh := ag6.int 1 wh (List.mem_cons_self ..)
    have hs6 := ag6.size
    refine wp_seq (dcopy2_wp reg4b q62 hb6 st6.okc st6.opc hl9 hlm (by omega) (by omega) (by omega) (by decide) (by decide) (by decide) ?_)
    intro a8 w8 S u8 B6 hd8 hz8 hg8 h86 hge8 hbox8 hcp8 hsep8 bel8
    obtain ⟨oS, cS, eu8, hoS⟩ := hcp8.row
    subst eu8
    have b68 := bel6.trans (bel8.mono s6)
    have b2l6 : B2 < w6.heap.size := by omega
    have st8 : TwoSt K Lc S oa oS cc cS B2 B6 w8 := ⟨⟨fz6, (bel8.block _ b2l6).trans hb6, gb6⟩, hbox8, fun t ht => okW_below (st6.okc t ht) bel8, opn_below st6.opc bel8, hcp8.ok, hoS, hcp8.len, hcp8.data⟩
    have belA : Below w0.heap.size w0 w8 := ((bel.trans (bel5.mono bel.size)).trans (b68.mono (by have := bel.size; omega)))
    have gR : CopyG w3.heap.size Lc R (.slice oR R.length cR) w8 := by
      refine ⟨hcp5.len, hcp5.data, fun t ht => okW_below (hcp5.ok t ht) b68, ⟨oR, cR, rfl, opn_below hoR b68⟩, fun hp => ?_⟩
      obtain ⟨Bd, cap, e, h1⟩ := hcp5.own hp
      exact ⟨Bd, cap, e, h1.len, h1.data, fun t ht => okW_below (h1.ok t ht) b68, fun t ht => ownX_keep (h1.own t ht) fun b hb => b68.block b (okW_lt (h1.ok t ht) hb), rowAt_keep h1.row (b68.block _ (rowAt_lt h1.row)), h1.ge, h1.nd⟩
    have ltR2 : ∀ a, oR = some a → 0 < R.length → a.block < w5.heap.size := fun a ea hp => by
      obtain ⟨a', e1, _, cs, el, fz, hh, _⟩ := hoR.row hp
      rw [ea] at e1
      cases e1
      exact (Array.getElem?_eq_some_iff.1 hh).1
    have rbox8 : ∃ fz, w8.heap[B5]? = some (.cells (cfgC K (.slice oR R.length cR)).toArray 29 fz) ∧ fzOK fz 18 := by
      obtain ⟨fz, h1, h2⟩ := hbox5
      exact ⟨fz, (b68.block _ b5lt).trans h1, h2⟩
    have hA8 : AFr wh B2 B5 B6 [] a8 := ⟨hz8.trans hs6, hd8.trans ag6.defers, (hg8 1 (by decide) (by decide) (by decide)).trans q61, (hg8 2 (by decide) (by decide) (by decide)).trans q62, (hg8 5 (by decide) (by decide) (by decide)).trans q65, h86, fun t v hx => by cases hx⟩
    exact copies_end hok ho hn20 hLs hz9 g3 hB3 (by omega) belA gR ⟨hge5, by omega, hsep5.1, hsep5.2⟩ (fun t ht b hb => by have := okW_lt (hcp5.ok t ht) hb; omega) (fun a ea hp => by have := ltR2 a ea hp; omega) rbox8 hcp8 ⟨hge8, hsep8.1, hsep8.2⟩ st8 hA8
end
end Go.Proofs.Ytkdalfdfepipiaa
