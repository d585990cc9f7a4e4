/- Borders made anew; rows of one's own. Copy: the border before a round. Copy: the state after a round. Copy: the loop. -/
import Derived.Test.YtkdalfdfepipiaaB2
import Derived.KernelRfl
namespace Go.Proofs.Ytkdalfdfepipiaa
section
open Go.RowKit
set_option linter.unusedSimpArgs false
set_option linter.unusedVariables false
set_option linter.unusedSectionVars false
set_option maxRecDepth 100000
section
variable [Inhabited RawG] {ds : List Deferred} {D D' : Nat → Prop} {ρ ρ' : Nat → Pl} {a : Act} {w w' : World} {h h' : HF}
theorem mkF_len (l : List (Nat × Value)) : ∀ n i, (mkF l n i).length = n
  | 0, _ => rfl
  | n + 1, i => by simp [mkF, mkF_len l n]
theorem mkF_get (l : List (Nat × Value)) : ∀ n i t, t < n → (mkF l n i).getD t undef = slotOf l (i + t)
  | 0, _, _, h => absurd h (Nat.not_lt_zero _)
  | n + 1, i, 0, _ => rfl
  | n + 1, i, t + 1, h => by
    show (mkF l n (i + 1)).getD t undef = _
    rw [mkF_get l n (i + 1) t (by omega), show i + 1 + t = i + (t + 1) by omega]
theorem slotOf_cases : ∀ (l : List (Nat × Value)) (t : Nat), slotOf l t = topV ∨ (t, slotOf l t) ∈ l
  | [], t => .inl rfl
  | (i, v) :: r, t => by
    unfold slotOf
    by_cases h : i = t
    · subst h; simp
    · rw [if_neg (by simpa using h)]
      rcases slotOf_cases r t with h1 | h1
      · exact .inl h1
      · exact .inr (List.mem_cons_of_mem _ h1)
/-- A frame of which some slots are known. -/
theorem fr_mk {l : List (Nat × Value)} {n : Nat} (hs : a.tmps.size = n) (hd : a.defers = ds) (hv : ∀ t v, (t, v) ∈ l → VR D ρ v (a.tmps.getD t undef)) : FR ds D ρ (mkF l n 0) a := by
  refine ⟨by rw [mkF_len]; exact hs, fun t ht => ?_, hd⟩
  by_cases h : t < n
  · rw [mkF_get l n 0 t h, Nat.zero_add] at ht ⊢
    rcases slotOf_cases l t with h1 | h1
    · rw [h1] at ht; cases ht
    · exact hv t _ h1
  · have e1 : (mkF l n 0).getD t undef = undef := by
      rw [List.getD_eq_getElem?_getD, List.getElem?_eq_none (by rw [mkF_len]; omega)]; rfl
    have e2 : a.tmps.getD t undef = undef := by simp [Array.getD, show ¬ t < a.tmps.size by omega]
    rw [e1, e2]
    exact .und
theorem fr_get {fr : List Value} (hf : FR ds D ρ fr a) {t : Nat} {v : Value} (he : fr.getD t undef = v) (ht : isTop v = false) : VR D ρ v (a.tmps.getD t undef) := by
  have h1 := hf.all t
  rw [he] at h1
  exact h1 ht
/-- A heap of blocks that may be written. -/
theorem wr_mk {H : Heap} (hH : ∀ b k, hget H b = some k → D b ∧ BR D ρ (ρ b) k (szP Try.prog) w) (inj : ∀ b c k l, hget H b = some k → hget H c = some l → b ≠ c → (ρ b).blk ≠ (ρ c).blk) (raw : ∀ i, RawAt w i)
    (far : ∀ i a, rg.cells i ≠ [] → rg.adr i = some a → ∀ b k, hget H b = some k → (ρ b).blk ≠ a.block) : WR (szP Try.prog) D ρ (hget H) w :=
  ⟨fun b k hb => (hH b k hb).1, fun b k hb => (hH b k hb).2, fun b c k l hb hc hne _ => inj b c k l hb hc hne, ⟨raw, fun i a hc ha ⟨b, k, hb, _, he⟩ => far i a hc ha b k hb he⟩⟩
/-- What is not among the blocks stays. -/
theorem t_keep (hT : T (szP Try.prog) D ρ h w D' ρ' h' w') {n : Nat} (hn : n < w.heap.size) (hf : ∀ b k, h b = some k → (ρ b).blk ≠ n) : w'.heap[n]? = w.heap[n]? :=
  hT.keep n hn fun ⟨b, k, hb, _, he⟩ => hf b k hb he
/-- A block that is new. -/
theorem t_new (hw : WR (szP Try.prog) D ρ h w) (hT : T (szP Try.prog) D ρ h w D' ρ' h' w') {b : Nat} {k : ABlk} (hb : h' b = some k) (hm : k.mode ≠ 2) (hf : ∀ c l, h c = some l → c ≠ b ∧ ∃ l', h' c = some l') : w.heap.size ≤ (ρ' b).blk := by
  rcases hT.img _ ⟨b, k, hb, hm, rfl⟩ with ⟨c, l, hc, hm2, he⟩ | h1
  · exfalso
    obtain ⟨hne, l', hl'⟩ := hf c l hc
    have h2 := hT.wr.sep c b l' k hl' hb hne (.inr hm)
    rw [hT.same c (hw.dom c l hc)] at h2
    exact h2 he
  · exact h1
end
/-- The scalars of a configuration. -/
structure CfgS where
  cn : ByteArray
  re : Int
  co : Int
  rs : Int
  dl : Int
  rq : Int
  cs : Int
  br : Int
  bs : Int
  bm : Int
  by_ : Int
  en : Int
  q : Nat
  li : Int
  he : Int
  ct : Int
  bo : Int
/-- The cells of a configuration. -/
abbrev cfgC (K : CfgS) (u : Value) : List Value := [.string K.cn, u, .int .i64 K.re, .int .i64 K.co, .int .i64 K.rs, .int .i64 K.dl, .int .i64 K.rq, .int .i64 K.cs, .int .i64 K.br, .int .i64 K.bs, .int .i64 K.bm, .int .i64 K.by_, .int .i64 K.en, .float .f64 K.q, .int .i64 K.li, .int .i64 K.he, .int .i64 K.ct, .int .i64 K.bo]
/-- The blocks of a row that is not empty, of a pool. -/
def hblk (u : Value) : List Nat :=
  match u with
  | .slice (some a) (_ + 1) _ => [a.block]
  | _ => []
def blks (t : PX) : List Nat := hblk t.2.1 ++ hblk t.2.2
/-- A row of one's own. -/
def OwnV {T : Type} (n0 : Nat) (w : World) (el sz : Nat) (f : T → List Value) (l : List T) (u : Value) : Prop := 0 < l.length → ∃ B c, u = .slice (some ⟨B, 0, none⟩) l.length c ∧ n0 ≤ B ∧ RowAt w B el c sz (l.flatMap f)
structure OwnX (n0 : Nat) (w : World) (t : PX) : Prop where
  h : OwnV n0 w 9 1 hF t.1.hs t.2.1
  b : OwnV n0 w 54 2 bkV t.1.bk t.2.2
theorem rowAt_keep {w w1 : World} {B el cap sz : Nat} {cells : List Value} (h : RowAt w B el cap sz cells) (hk : w1.heap[B]? = w.heap[B]?) : RowAt w1 B el cap sz cells := by
  obtain ⟨cs, fz, h1, h2⟩ := h.ex
  exact ⟨cs, fz, hk.trans h1, h2⟩
theorem rowAt_lt {w : World} {B el cap sz : Nat} {cells : List Value} (h : RowAt w B el cap sz cells) : B < w.heap.size := by
  obtain ⟨cs, fz, h1, h2⟩ := h.ex
  exact (Array.getElem?_eq_some_iff.1 h1).1
theorem rowV_blk {T : Type} {w : World} {f : T → List Value} {l : List T} {u : Value} (h : RowV w f l u) {oa : Option Addr} {a : Addr} {n c : Nat} (e : u = .slice oa n c) (ha : oa = some a) (hp : 0 < l.length) : a.block ∈ hblk u := by
  obtain ⟨oa', c', e', _⟩ := h
  subst ha
  rw [e'] at e
  cases e
  rw [e']
  obtain ⟨m, hm⟩ : ∃ m, l.length = m + 1 := ⟨l.length - 1, by omega⟩
  rw [hm]
  simp [hblk]
theorem rowV_lt {T : Type} {w : World} {f : T → List Value} {l : List T} {u : Value} (h : RowV w f l u) {b : Nat} (hb : b ∈ hblk u) : b < w.heap.size := by
  obtain ⟨oa, c, e, ho⟩ := h
  subst e
  rcases Nat.eq_zero_or_pos l.length with h0 | hp
  · rw [h0] at hb
    cases oa <;> cases hb
  · obtain ⟨a', e1, _, cs, el, fz, hh, _⟩ := ho.row hp
    subst e1
    obtain ⟨m, hm⟩ : ∃ m, l.length = m + 1 := ⟨l.length - 1, by omega⟩
    rw [hm] at hb
    rw [List.mem_singleton.1 hb]
    exact (Array.getElem?_eq_some_iff.1 hh).1
theorem okW_lt {w : World} {t : PX} (h : okW w t) {b : Nat} (hb : b ∈ blks t) : b < w.heap.size := by
  rcases List.mem_append.1 hb with h1 | h1
  · exact rowV_lt h.h h1
  · exact rowV_lt h.b h1
/-- Where the blocks of a pool stay, the pool stays. -/
theorem okW_keep {w w1 : World} {t : PX} (h : okW w t) (hk : ∀ b ∈ blks t, w1.heap[b]? = w.heap[b]?) : okW w1 t := by
  constructor
  · obtain ⟨oa, c, e, ho⟩ := h.h
    exact ⟨oa, c, e, opn_keep ho fun k _ ⟨a, ea, eb, hp⟩ => hk k (List.mem_append.2 (.inl (eb ▸ rowV_blk h.h e ea hp)))⟩
  · obtain ⟨oa, c, e, ho⟩ := h.b
    exact ⟨oa, c, e, opn_keep ho fun k _ ⟨a, ea, eb, hp⟩ => hk k (List.mem_append.2 (.inr (eb ▸ rowV_blk h.b e ea hp)))⟩
theorem hblk_own {B n c : Nat} (h : 0 < n) : hblk (.slice (some ⟨B, 0, none⟩) n c) = [B] := by
  obtain ⟨m, rfl⟩ : ∃ m, n = m + 1 := ⟨n - 1, by omega⟩
  rfl
theorem ownX_keep {n0 : Nat} {w w1 : World} {t : PX} (h : OwnX n0 w t) (hk : ∀ b ∈ blks t, w1.heap[b]? = w.heap[b]?) : OwnX n0 w1 t := by
  constructor
  · intro hp
    obtain ⟨B, c, e, hge, hr⟩ := h.h hp
    exact ⟨B, c, e, hge, rowAt_keep hr (hk B (List.mem_append.2 (.inl (by rw [e, hblk_own hp]; exact List.mem_singleton.2 rfl))))⟩
  · intro hp
    obtain ⟨B, c, e, hge, hr⟩ := h.b hp
    exact ⟨B, c, e, hge, rowAt_keep hr (hk B (List.mem_append.2 (.inr (by rw [e, hblk_own hp]; exact List.mem_singleton.2 rfl))))⟩
/-- The rows that came in are rows of the pools. -/
theorem far_entQ {L : List PX} {w : World} (hL : ∀ t ∈ L, okW w t) {i : Nat} {a : Addr} (hc : (@rg ⟨rawOf (entQ entD entD L)⟩).cells i ≠ []) (ha : (@rg ⟨rawOf (entQ entD entD L)⟩).adr i = some a) : ∃ t ∈ L, a.block ∈ blks t := by
  change (entQ entD entD L i).2.2.2 ≠ [] at hc
  change (entQ entD entD L i).1 = some a at ha
  rcases (show i = 0 ∨ i = 1 ∨ ∃ j, i = 2 + 2 * j ∨ i = 3 + 2 * j from by
    by_cases a : i = 0
    · exact .inl a
    · by_cases b : i = 1
      · exact .inr (.inl b)
      · exact .inr (.inr ⟨(i - 2) / 2, by omega⟩)) with rfl | rfl | ⟨j, rfl | rfl⟩
  · exact absurd rfl hc
  · exact absurd rfl hc
  · rw [entQh] at hc ha
    have hj : j < L.length := by
      refine Nat.lt_of_not_le fun h => hc ?_
      rw [List.getD_eq_getElem?_getD, List.getElem?_eq_none h]; rfl
    have hm : L.getD j default ∈ L := by rw [List.getD_eq_getElem?_getD, List.getElem?_eq_getElem hj]; exact List.getElem_mem hj
    obtain ⟨oa, c, e, ho⟩ := (hL _ hm).h
    rw [e] at hc ha
    change ((L.getD j default).1.hs.flatMap hF) ≠ [] at hc
    change oa = some a at ha
    exact ⟨_, hm, List.mem_append.2 (.inl (rowV_blk (hL _ hm).h e ha (by
      cases hl : (L.getD j default).1.hs with
      | nil => rw [hl] at hc; exact absurd rfl hc
      | cons _ _ => exact Nat.succ_pos _)))⟩
  · rw [entQb] at hc ha
    have hj : j < L.length := by
      refine Nat.lt_of_not_le fun h => hc ?_
      rw [List.getD_eq_getElem?_getD, List.getElem?_eq_none h]; rfl
    have hm : L.getD j default ∈ L := by rw [List.getD_eq_getElem?_getD, List.getElem?_eq_getElem hj]; exact List.getElem_mem hj
    obtain ⟨oa, c, e, ho⟩ := (hL _ hm).b
    rw [e] at hc ha
    change ((L.getD j default).1.bk.flatMap bkV) ≠ [] at hc
    change oa = some a at ha
    exact ⟨_, hm, List.mem_append.2 (.inr (rowV_blk (hL _ hm).b e ha (by
      cases hl : (L.getD j default).1.bk with
      | nil => rw [hl] at hc; exact absurd rfl hc
      | cons _ _ => exact Nat.succ_pos _)))⟩
/-- Pools, their rows being numbers. -/
def engX (t : PX) (j : Nat) : PX := (t.1, .slice (some ⟨2 + 2 * j, 0, some 2⟩) t.1.hs.length 0, .slice (some ⟨3 + 2 * j, 0, some 2⟩) t.1.bk.length 0)
def engL (R : List PX) : List PX := (List.range R.length).map fun j => engX (R.getD j default) j
theorem engL_len (R : List PX) : (engL R).length = R.length := by simp [engL]
theorem engL_get {R : List PX} {j : Nat} (h : j < R.length) : (engL R).getD j default = engX (R.getD j default) j := by
  unfold engL
  rw [List.getD_eq_getElem?_getD, List.getElem?_map, List.getElem?_range h]; rfl
theorem getD_mem' {R : List PX} {j : Nat} (h : j < R.length) : R.getD j default ∈ R := by rw [List.getD_eq_getElem?_getD, List.getElem?_eq_getElem h]; exact List.getElem_mem h
theorem getD_set_ne' {R : List PX} {j x : Nat} {t : PX} (h : j ≠ x) : (R.set x t).getD j default = R.getD j default := by
  rw [List.getD_eq_getElem?_getD, List.getD_eq_getElem?_getD, List.getElem?_set_ne (Ne.symm h)]
theorem getD_set_eq' {R : List PX} {x : Nat} {t : PX} (h : x < R.length) : (R.set x t).getD x default = t := by
  rw [List.getD_eq_getElem?_getD, List.getElem?_set_self h]; rfl
/-- A header of the engine's, of a row of so many. -/
inductive HdK (l : Nat) (u : Value) (j c : Nat) : Value → Prop
  | nil (h : l = 0) (e : u = .slice none 0 c) : HdK l u j c (.slice none 0 c)
  | emp (h : l = 0) (a : Addr) (e : u = .slice (some a) 0 c) : HdK l u j c (.slice (some ⟨0, 0, some 0⟩) 0 0)
  | full (h : 0 < l) : HdK l u j c (.slice (some ⟨j, 0, some 2⟩) l 0)
theorem hdK_ex {T : Type} {w : World} {f : T → List Value} {l : List T} {u : Value} (h : RowV w f l u) (j : Nat) : ∃ v c, HdK l.length u j c v := by
  obtain ⟨oa, c, e, ho⟩ := h
  by_cases hl : l.length = 0
  · rw [hl] at e
    cases oa with
    | none => exact ⟨_, c, .nil hl e⟩
    | some a => exact ⟨_, c, .emp hl a e⟩
  · exact ⟨_, c, .full (by omega)⟩
theorem hdK_vr {D : Nat → Prop} {ρ : Nat → Pl} {I : Inhabited RawG} {l j c : Nat} {u v : Value} (h : HdK l u j c v) (hv : @VR I D ρ (.slice (some ⟨j, 0, some 2⟩) l 0) u) : @VR I D ρ v u := by
  cases h with
  | nil _ e => rw [e]; exact @VR.scal I _ _ _ rfl
  | emp _ a e => rw [e]; exact @VR.hollow I _ _ 0 0 0 a c
  | full _ => exact hv
end
section
open Go.RowKit
set_option linter.unusedSimpArgs false
set_option linter.unusedVariables false
set_option linter.unusedSectionVars false
set_option maxRecDepth 100000
theorem imgV_flat [Inhabited RawG] {ρ : Nat → Pl} {v : Value} (h : flat0 v = true) : imgV ρ v = v := by
  have h1 := (VR.scal (D := fun _ => True) (ρ := ρ) v h)
  refine (h1.img ?_).symm
  unfold goodV
  split <;> first | rfl | exact h
/-- The header of a new row, and its block. -/
inductive NewK {T : Type} (el : Nat) (f : T → List Value) (l : List T) (id : Nat) (cs : List Value) : Value → Heap → Prop
  | nil (h : l.length = 0) : NewK el f l id cs (.slice none 0 0) []
  | emp (h : l.length = 0) : NewK el f l id cs (.slice (some ⟨id, 0, none⟩) 0 0) []
  | full (h : 0 < l.length) (e : cs = l.flatMap f) : NewK el f l id cs (.slice (some ⟨id, 0, none⟩) l.length l.length) [(id, ⟨el, cs, 3⟩)]
theorem newK_good {T : Type} {el : Nat} {f : T → List Value} {l : List T} {id : Nat} {cs : List Value} {v : Value} {Hh : Heap} (h : NewK el f l id cs v Hh) : goodV v = true := by
  cases h <;> rfl
theorem rowV_of {T : Type} {w : World} {B el c sz : Nat} {f : T → List Value} {l : List T} (hf : ∀ t, (f t).length = sz) (hs : 0 < sz) (h : RowAt w B el c sz (l.flatMap f)) : RowV w f l (.slice (some ⟨B, 0, none⟩) l.length c) := by
  obtain ⟨cs, fz, h1, h2, h3, h4, h5⟩ := h.ex
  refine ⟨_, c, rfl, ?_, fun hp => ⟨_, rfl, rfl, cs, el, fz, h1, fun i u hu => by rw [Nat.zero_add]; exact h5 i u hu⟩⟩
  rw [flatMap_len hf, h3] at h4
  exact Nat.le_of_mul_le_mul_right h4 hs
theorem newK_row [Inhabited RawG] {T : Type} {el sz n : Nat} {f : T → List Value} {l : List T} {id : Nat} {cs : List Value} {v : Value} {Hh H1 : Heap} {D1 : Nat → Prop} {ρ1 : Nat → Pl} {w : World} (hk : NewK el f l id cs v Hh) (hsz : szP Try.prog el = sz) (hf : ∀ t, (f t).length = sz) (hs : 0 < sz) (hfl : ∀ t, ∀ u ∈ f t, flat0 u = true) (hw : WR (szP Try.prog) D1 ρ1 (hget H1) w)
    (hH : ∀ b k, hget Hh b = some k → hget H1 b = some k) (hn : ∀ k, hget H1 id = some k → k.mode ≠ 2 → n ≤ (ρ1 id).blk) : RowV w f l (imgV ρ1 v) ∧ OwnV n w el sz f l (imgV ρ1 v) ∧ ∀ b ∈ hblk (imgV ρ1 v), b = (ρ1 id).blk ∧ ∃ k, hget H1 id = some k ∧ k.mode = 3 := by
  cases hk with
  | nil h =>
    obtain rfl := List.eq_nil_of_length_eq_zero h
    exact ⟨⟨none, 0, rfl, opn_nil⟩, fun hp => absurd hp (Nat.lt_irrefl 0), fun b hb => (by cases hb)⟩
  | emp h =>
    obtain rfl := List.eq_nil_of_length_eq_zero h
    exact ⟨⟨_, _, rfl, Nat.zero_le _, fun hp => absurd hp (Nat.lt_irrefl 0)⟩, fun hp => absurd hp (Nat.lt_irrefl 0), fun b hb => (by cases hb)⟩
  | full h e =>
    have hg : hget H1 id = some ⟨el, cs, 3⟩ := hH id _ (by simp [hget])
    have hall : ∀ v ∈ cs, flat0 v = true := fun v hv => by
      rw [e] at hv
      obtain ⟨t, _, ht⟩ := List.mem_flatMap.1 hv
      exact hfl t v ht
    obtain ⟨h1, c, h2, h3⟩ := row_cells (hw.here id _ hg) (el := el) (sz := sz) (show 3 % 2 = 1 by decide) rfl hsz (fun v hv => by
      have := hall v hv
      unfold goodV
      split <;> first | rfl | exact this)
    have hm : (ABlk.cells ⟨el, cs, 3⟩).map (imgV ρ1) = l.flatMap f := by
      show cs.map (imgV ρ1) = _
      rw [← e]
      exact (List.map_congr_left fun v hv => imgV_flat (hall v hv)).trans (List.map_id _)
    rw [hm] at h3
    have hi : imgV ρ1 (.slice (some ⟨id, 0, none⟩) l.length l.length) = .slice (some ⟨(ρ1 id).blk, 0, none⟩) l.length c := by
      show Value.slice (some ⟨(ρ1 id).blk, (ρ1 id).off, none⟩) l.length ((ρ1 id).cap.getD l.length) = _
      rw [h1, h2]; rfl
    rw [hi]
    refine ⟨rowV_of hf hs h3, fun _ => ⟨_, c, rfl, hn _ hg (show (3 : Nat) ≠ 2 by decide), h3⟩, fun b hb => ⟨?_, _, hg, rfl⟩⟩
    rw [hblk_own h] at hb
    exact List.mem_singleton.1 hb
abbrev zero18 : List Value := [.string ⟨#[]⟩, .slice none 0 0, .int .i64 0, .int .i64 0, .int .i64 0, .int .i64 0, .int .i64 0, .int .i64 0, .int .i64 0, .int .i64 0, .int .i64 0, .int .i64 0, .int .i64 0, .float .f64 0, .int .i64 0, .int .i64 0, .int .i64 0, .int .i64 0]
/-- The state of Copy's loop before round x. -/
structure CpInv (n0 : Nat) (w0 : World) (K : CfgS) (Lc : List PX) (x B1 B2 Bd cap : Nat) (R : List PX) (a : Act) (w : World) : Prop where
  size : a.tmps.size = 35
  defers : a.defers = []
  t1 : a.tmps.getD 1 undef = .pointer (some ⟨B1, 0, none⟩)
  t2 : a.tmps.getD 2 undef = .pointer (some ⟨B2, 0, none⟩)
  t10 : a.tmps.getD 10 undef = .slice (some ⟨Bd, 0, none⟩) R.length cap
  t11 : a.tmps.getD 11 undef = .int .i64 (R.length : Int)
  t12 : a.tmps.getD 12 undef = .int .i64 (x : Int)
  box : ∃ fz, w.heap[B1]? = some (.cells (cfgC K (.slice (some ⟨Bd, 0, none⟩) R.length cap)).toArray 29 fz) ∧ fzOK fz 18
  res : ∃ fz, w.heap[B2]? = some (.cells zero18.toArray 29 fz) ∧ fzOK fz 18
  row : RowAt w Bd 46 cap 16 (R.flatMap realP)
  len : R.length = Lc.length
  data : ∀ j, (R.getD j default).1 = (Lc.getD j default).1
  old : ∀ j, x ≤ j → R.getD j default = Lc.getD j default
  ok : ∀ t ∈ R, okW w t
  own : ∀ j, j < x → OwnX n0 w (R.getD j default)
  nd : ((R.take x).flatMap blks).Nodup
  far : ∀ t ∈ R, ∀ b ∈ blks t, b ≠ B1 ∧ b ≠ B2 ∧ b ≠ Bd
  ge : n0 ≤ B1 ∧ n0 ≤ B2 ∧ n0 ≤ Bd ∧ B1 ≠ B2 ∧ B1 ≠ Bd ∧ B2 ≠ Bd
  bel : Below n0 w0 w
abbrev rhoC (B1 B2 Bd cap : Nat) : Nat → Pl := fun b => if b = 0 then ⟨B1, 0, none⟩ else if b = 1 then ⟨B2, 0, none⟩ else ⟨Bd, 0, some cap⟩
theorem CpInv.capn {n0 : Nat} {w0 : World} {K : CfgS} {Lc : List PX} {x B1 B2 Bd cap : Nat} {R : List PX} {a : Act} {w : World} (hI : CpInv n0 w0 K Lc x B1 B2 Bd cap R a w) : R.length ≤ cap := by
  obtain ⟨cs, fz, h1, h2, h3, h4, h5⟩ := hI.row.ex
  rw [flatMap_len realP16, h3] at h4
  exact Nat.le_of_mul_le_mul_right h4 (by decide)
theorem cfg_rel {R : Value → Value → Prop} (hs : ∀ v, flat0 v = true → R v v) {K : CfgS} {v u : Value} (h : R v u) : ∀ (i : Nat) (y : Value), (cfgC K v)[i]? = some y → ∃ z, (cfgC K u)[i]? = some z ∧ R y z := fun i y hy => by
  match i, hy with
  | 0, hy => obtain rfl := Option.some.inj hy; exact ⟨_, rfl, hs _ rfl⟩
  | 1, hy => obtain rfl := Option.some.inj hy; exact ⟨_, rfl, h⟩
  | 2, hy => obtain rfl := Option.some.inj hy; exact ⟨_, rfl, hs _ rfl⟩
  | 3, hy => obtain rfl := Option.some.inj hy; exact ⟨_, rfl, hs _ rfl⟩
  | 4, hy => obtain rfl := Option.some.inj hy; exact ⟨_, rfl, hs _ rfl⟩
  | 5, hy => obtain rfl := Option.some.inj hy; exact ⟨_, rfl, hs _ rfl⟩
  | 6, hy => obtain rfl := Option.some.inj hy; exact ⟨_, rfl, hs _ rfl⟩
  | 7, hy => obtain rfl := Option.some.inj hy; exact ⟨_, rfl, hs _ rfl⟩
  | 8, hy => obtain rfl := Option.some.inj hy; exact ⟨_, rfl, hs _ rfl⟩
  | 9, hy => obtain rfl := Option.some.inj hy; exact ⟨_, rfl, hs _ rfl⟩
  | 10, hy => obtain rfl := Option.some.inj hy; exact ⟨_, rfl, hs _ rfl⟩
  | 11, hy => obtain rfl := Option.some.inj hy; exact ⟨_, rfl, hs _ rfl⟩
  | 12, hy => obtain rfl := Option.some.inj hy; exact ⟨_, rfl, hs _ rfl⟩
  | 13, hy => obtain rfl := Option.some.inj hy; exact ⟨_, rfl, hs _ rfl⟩
  | 14, hy => obtain rfl := Option.some.inj hy; exact ⟨_, rfl, hs _ rfl⟩
  | 15, hy => obtain rfl := Option.some.inj hy; exact ⟨_, rfl, hs _ rfl⟩
  | 16, hy => obtain rfl := Option.some.inj hy; exact ⟨_, rfl, hs _ rfl⟩
  | 17, hy => obtain rfl := Option.some.inj hy; exact ⟨_, rfl, hs _ rfl⟩
  | i + 18, hy => cases hy
/-- The border before round x. -/
theorem cp_border {n0 : Nat} {w0 : World} {K : CfgS} {Lc : List PX} {x B1 B2 Bd cap : Nat} {R : List PX} {a : Act} {w : World} (hI : CpInv n0 w0 K Lc x B1 B2 Bd cap R a w) {vh vb : Value} (hx : x < R.length) (hh : @VR ⟨rawOf (entQ entD entD R)⟩ (fun b => b < 3) (rhoC B1 B2 Bd cap) vh (R.getD x default).2.1) (hb : @VR ⟨rawOf (entQ entD entD R)⟩ (fun b => b < 3) (rhoC B1 B2 Bd cap) vb (R.getD x default).2.2) :
    @FR ⟨rawOf (entQ entD entD R)⟩ [] (fun b => b < 3) (rhoC B1 B2 Bd cap) (mkF [(1, .pointer (some ⟨0, 0, none⟩)), (2, .pointer (some ⟨1, 0, none⟩)), (10, .slice (some ⟨2, 0, none⟩) R.length R.length), (11, .int .i64 (R.length : Int)), (12, .int .i64 (x : Int))] 35 0) a ∧ @WR ⟨rawOf (entQ entD entD R)⟩ (szP Try.prog) (fun b => b < 3) (rhoC B1 B2 Bd cap) (hget [(0, ⟨29, cfgC K (.slice (some ⟨2, 0, none⟩) R.length R.length), 0⟩), (2, ⟨46, ((engL R).set x ((R.getD x default).1, vh, vb)).flatMap realP, 1⟩)]) w := by
  letI : Inhabited RawG := ⟨rawOf (entQ entD entD R)⟩
  have hsl : VR (fun b => b < 3) (rhoC B1 B2 Bd cap) (.slice (some ⟨2, 0, none⟩) R.length R.length) (.slice (some ⟨Bd, 0, none⟩) R.length cap) :=
    VR.slice (D := fun b => b < 3) (ρ := rhoC B1 B2 Bd cap) 2 0 R.length R.length cap (by decide) hI.capn (fun h => by cases h) (fun c h _ => by cases h; rfl)
  constructor
  · refine fr_mk hI.size hI.defers fun t v h => ?_
    simp only [List.mem_cons, Prod.mk.injEq, List.not_mem_nil, or_false] at h
    rcases h with ⟨rfl, rfl⟩ | ⟨rfl, rfl⟩ | ⟨rfl, rfl⟩ | ⟨rfl, rfl⟩ | ⟨rfl, rfl⟩
    · rw [hI.t1]; exact VR.ptr (ρ := rhoC B1 B2 Bd cap) 0 0 (by decide)
    · rw [hI.t2]; exact VR.ptr (ρ := rhoC B1 B2 Bd cap) 1 0 (by decide)
    · rw [hI.t10]; exact hsl
    · rw [hI.t11]; exact .scal _ rfl
    · rw [hI.t12]; exact .scal _ rfl
  · refine wr_mk (fun b k hg => ?_) (fun b c k l hb hc hne => ?_) (rawL (rawAt_none _ rfl) (rawAt_none _ rfl) hI.ok) (fun i a hc ha b k hg => ?_)
    · rcases hget_cons hg with ⟨rfl, rfl⟩ | hg
      · refine ⟨by decide, ?_⟩
        obtain ⟨fz, h1, h2⟩ := hI.box
        exact br_box (p := ⟨B1, 0, none⟩) rfl rfl h1 h2 rfl (cfg_rel (fun v h => .scal v h) hsl)
      · rcases hget_cons hg with ⟨rfl, rfl⟩ | hg
        · refine ⟨by decide, ?_⟩
          refine br_row (p := ⟨Bd, 0, some cap⟩) (sz := 16) rfl rfl hI.row (by kernel_rfl) ?_ (.inl rfl) (rel_rows (fun v h => .scal v h) ?_ fun j hj => ?_)
          · rw [flatMap_len realP16, flatMap_len realP16, List.length_set, engL_len]
          · rw [List.length_set, engL_len]
          · rw [List.length_set, engL_len] at hj
            by_cases hjx : j = x
            · subst hjx
              rw [getD_set_eq' (by rw [engL_len]; exact hj)]
              exact ⟨rfl, hh, hb⟩
            · rw [getD_set_ne' hjx, engL_get hj]
              exact ⟨rfl, vr_h hI.ok j, vr_b hI.ok j⟩
        · exact (hget_nil _ _ hg).elim
    · have hb' : b = 0 ∨ b = 2 := by
        rcases hget_cons hb with ⟨rfl, _⟩ | hb
        · exact .inl rfl
        · rcases hget_cons hb with ⟨rfl, _⟩ | hb
          · exact .inr rfl
          · exact (hget_nil _ _ hb).elim
      have hc' : c = 0 ∨ c = 2 := by
        rcases hget_cons hc with ⟨rfl, _⟩ | hc
        · exact .inl rfl
        · rcases hget_cons hc with ⟨rfl, _⟩ | hc
          · exact .inr rfl
          · exact (hget_nil _ _ hc).elim
      have := hI.ge
      rcases hb' with rfl | rfl <;> rcases hc' with rfl | rfl
      · exact absurd rfl hne
      · show B1 ≠ Bd; omega
      · show Bd ≠ B1; omega
      · exact absurd rfl hne
    · obtain ⟨t, ht, hm⟩ := far_entQ hI.ok hc ha
      obtain ⟨f1, f2, f3⟩ := hI.far t ht _ hm
      rcases hget_cons hg with ⟨rfl, _⟩ | hg
      · exact Ne.symm f1
      · rcases hget_cons hg with ⟨rfl, _⟩ | hg
        · exact Ne.symm f3
        · exact (hget_nil _ _ hg).elim
end
section
open Go.RowKit
set_option linter.unusedSimpArgs false
set_option linter.unusedVariables false
set_option linter.unusedSectionVars false
set_option maxRecDepth 100000
theorem imgX_cells [Inhabited RawG] {ρ : Nat → Pl} (L : List PX) : (L.flatMap realP).map (imgV ρ) = (L.map fun t => ((t.1, imgV ρ t.2.1, imgV ρ t.2.2) : PX)).flatMap realP := by
  rw [List.map_flatMap, List.flatMap_map]
  rfl
theorem engX_good {t : PX} {j : Nat} : goodV (engX t j).2.1 = true ∧ goodV (engX t j).2.2 = true := ⟨rfl, rfl⟩
theorem realP_good {t : PX} (h1 : goodV t.2.1 = true) (h2 : goodV t.2.2 = true) : ∀ v ∈ realP t, goodV v = true := fun v hv => by
  simp only [List.mem_cons, List.not_mem_nil, or_false] at hv
  rcases hv with rfl | rfl | rfl | rfl | rfl | rfl | rfl | rfl | rfl | rfl | rfl | rfl | rfl | rfl | rfl | rfl <;> first | rfl | exact h1 | exact h2
theorem cp_after {n0 : Nat} {w0 : World} {K : CfgS} {Lc : List PX} {x B1 B2 Bd cap : Nat} {R : List PX} {a : Act} {w : World} (hI : CpInv n0 w0 K Lc x B1 B2 Bd cap R a w) (hx : x < R.length) {vh vb nh nb : Value} {Hh Hb : Heap}
    (hh : @VR ⟨rawOf (entQ entD entD R)⟩ (fun b => b < 3) (rhoC B1 B2 Bd cap) vh (R.getD x default).2.1) (hb : @VR ⟨rawOf (entQ entD entD R)⟩ (fun b => b < 3) (rhoC B1 B2 Bd cap) vb (R.getD x default).2.2)
    (kh : NewK 9 hF (R.getD x default).1.hs 963 ((R.getD x default).1.hs.map Value.string) nh Hh) (kb : NewK 54 bkV (R.getD x default).1.bk 1155 ((R.getD x default).1.bk.flatMap bkV) nb Hb)
    (hC : @CodeOK ⟨rawOf (entQ entD entD R)⟩ Try.prog (loopN Try.prog 13 0) (mkF [(1, .pointer (some ⟨0, 0, none⟩)), (2, .pointer (some ⟨1, 0, none⟩)), (10, .slice (some ⟨2, 0, none⟩) R.length R.length), (11, .int .i64 (R.length : Int)), (12, .int .i64 (x : Int))] 35 0) [(0, ⟨29, cfgC K (.slice (some ⟨2, 0, none⟩) R.length R.length), 0⟩), (2, ⟨46, ((engL R).set x ((R.getD x default).1, vh, vb)).flatMap realP, 1⟩)] 3 ⟨.normal, mkF [(1, .pointer (some ⟨0, 0, none⟩)), (2, .pointer (some ⟨1, 0, none⟩)), (10, .slice (some ⟨2, 0, none⟩) R.length R.length), (11, .int .i64 (R.length : Int)), (12, .int .i64 ((x + 1 : Nat) : Int))] 35 0, (0, ⟨29, cfgC K (.slice (some ⟨2, 0, none⟩) R.length R.length), 0⟩) :: (2, ⟨46, ((engL R).set x ((R.getD x default).1, nh, nb)).flatMap realP, 1⟩) :: (Hh ++ Hb), 1731, []⟩) :
    (loopN Try.prog 13 0).wp Try.prog (fun e a' w' => e = .normal ∧ ∃ R' : List PX, R'.length = R.length ∧ CpInv n0 w0 K Lc (x + 1) B1 B2 Bd cap R' a' w') a w := by
  letI : Inhabited RawG := ⟨rawOf (entQ entD entD R)⟩
  obtain ⟨hf, hw⟩ := cp_border hI hx hh hb
  refine wp_mono (hC _ _ a w (fun b h => h) hf hw) ?_
  rintro e a' w' ⟨rfl, hle, D1, ρ1, hT, hf1, hb1, hc1⟩
  have hw1 := hT.wr
  have hge := hI.ge
  have e0 : ρ1 0 = ⟨B1, 0, none⟩ := hT.same 0 (show (0 : Nat) < 3 by decide)
  have e1 : ρ1 1 = ⟨B2, 0, none⟩ := hT.same 1 (show (1 : Nat) < 3 by decide)
  have e2 : ρ1 2 = ⟨Bd, 0, some cap⟩ := hT.same 2 (show (2 : Nat) < 3 by decide)
  obtain ⟨H', hH'⟩ : ∃ H' : Heap, H' = (0, ⟨29, cfgC K (.slice (some ⟨2, 0, none⟩) R.length R.length), 0⟩) :: (2, ⟨46, ((engL R).set x ((R.getD x default).1, nh, nb)).flatMap realP, 1⟩) :: (Hh ++ Hb) := ⟨_, rfl⟩
  have fA : (∀ b k, hget Hh b = some k → hget H' b = some k) ∧ (∀ b k, hget Hb b = some k → hget H' b = some k) := by
    rw [hH']
    constructor <;> intro b k hg <;> cases kh <;> cases kb <;> first | exact (hget_nil _ _ hg).elim | (rcases hget_cons hg with ⟨rfl, rfl⟩ | hg <;> first | rfl | exact (hget_nil _ _ hg).elim)
  have hT' : T (szP Try.prog) (fun b => b < 3) (rhoC B1 B2 Bd cap) (hget [(0, ⟨29, cfgC K (.slice (some ⟨2, 0, none⟩) R.length R.length), 0⟩), (2, ⟨46, ((engL R).set x ((R.getD x default).1, vh, vb)).flatMap realP, 1⟩)]) w D1 ρ1 (hget H') w' := by rw [hH']; exact hT
  have hw' : WR (szP Try.prog) D1 ρ1 (hget H') w' := hT'.wr
  have g0 : hget H' 0 = some ⟨29, cfgC K (.slice (some ⟨2, 0, none⟩) R.length R.length), 0⟩ := by rw [hH']; rfl
  have g2 : hget H' 2 = some ⟨46, ((engL R).set x ((R.getD x default).1, nh, nb)).flatMap realP, 1⟩ := by rw [hH']; rfl
  have inH : ∀ c l, hget [(0, ⟨29, cfgC K (.slice (some ⟨2, 0, none⟩) R.length R.length), 0⟩), (2, ⟨46, ((engL R).set x ((R.getD x default).1, vh, vb)).flatMap realP, 1⟩)] c = some l → (c = 0 ∨ c = 2) := fun c l hc => by
    rcases hget_cons hc with ⟨rfl, _⟩ | hc
    · exact .inl rfl
    · rcases hget_cons hc with ⟨rfl, _⟩ | hc
      · exact .inr rfl
      · exact (hget_nil _ _ hc).elim
  have fresh : ∀ id, id ≠ 0 → id ≠ 2 → ∀ k, hget H' id = some k → k.mode ≠ 2 → w.heap.size ≤ (ρ1 id).blk := fun id n1 n2 k hk hm =>
    t_new hw hT' hk hm fun c l hc => by
      rcases inH c l hc with rfl | rfl
      · exact ⟨Ne.symm n1, _, g0⟩
      · exact ⟨Ne.symm n2, _, g2⟩
  have keep : ∀ b, b < w.heap.size → b ≠ B1 → b ≠ Bd → w'.heap[b]? = w.heap[b]? := fun b h1 h2 h3 =>
    t_keep hT' h1 fun c k hc => by
      rcases inH c k hc with rfl | rfl
      · exact Ne.symm h2
      · exact Ne.symm h3
  have hB1 : B1 < w.heap.size := by obtain ⟨fz, h1, _⟩ := hI.box; exact (Array.getElem?_eq_some_iff.1 h1).1
  have hB2 : B2 < w.heap.size := by obtain ⟨fz, h1, _⟩ := hI.res; exact (Array.getElem?_eq_some_iff.1 h1).1
  have hBd : Bd < w.heap.size := rowAt_lt hI.row
  have keepX : ∀ t ∈ R, ∀ b ∈ blks t, w'.heap[b]? = w.heap[b]? := fun t ht b hb => by
    obtain ⟨f1, f2, f3⟩ := hI.far t ht b hb
    exact keep b (okW_lt (hI.ok t ht) hb) f1 f3
  obtain ⟨rh1, rh2, rh3⟩ := newK_row (n := w.heap.size) (sz := 1) kh (by kernel_rfl) (fun _ => rfl) (by decide) (fun t u hu => by simp at hu; subst hu; rfl) hw' fA.1 (fresh 963 (by decide) (by decide))
  obtain ⟨rb1, rb2, rb3⟩ := newK_row (n := w.heap.size) (sz := 2) kb (by kernel_rfl) (fun _ => rfl) (by decide) (fun t u hu => by simp at hu; (try rcases hu with rfl | rfl) <;> rfl) hw' fA.2 (fresh 1155 (by decide) (by decide))
  have hn0 : n0 ≤ w.heap.size := by omega
  have ownMono : ∀ {T : Type} {el sz : Nat} {f : T → List Value} {l : List T} {u : Value}, OwnV w.heap.size w' el sz f l u → OwnV n0 w' el sz f l u := fun h hp => by
    obtain ⟨B, c, h1, h2, h3⟩ := h hp
    exact ⟨B, c, h1, by omega, h3⟩
  obtain ⟨N, hN⟩ : ∃ N : PX, N = ((R.getD x default).1, imgV ρ1 nh, imgV ρ1 nb) := ⟨_, rfl⟩
  have newB : ∀ b ∈ blks N, w.heap.size ≤ b := fun b hb => by
    rw [hN] at hb
    rcases List.mem_append.1 hb with hb | hb
    · obtain ⟨h1, k, h2, h3⟩ := rh3 b hb
      rw [h1]; exact fresh 963 (by decide) (by decide) k h2 (by rw [h3]; decide)
    · obtain ⟨h1, k, h2, h3⟩ := rb3 b hb
      rw [h1]; exact fresh 1155 (by decide) (by decide) k h2 (by rw [h3]; decide)
  have okN : okW w' N := by rw [hN]; exact ⟨rh1, rb1⟩
  have mem' : ∀ t ∈ R.set x N, t ∈ R ∨ t = N := fun t ht => List.mem_or_eq_of_mem_set ht
  refine ⟨rfl, R.set x N, by simp, ?_⟩
  have len' : (R.set x N).length = R.length := by simp
  constructor
  · rw [hf1.size, mkF_len]
  · exact hf1.defers
  · have h1 := (fr_get hf1 (t := 1) rfl rfl).img rfl
    rw [h1]
    show Value.pointer (some ⟨(ρ1 0).blk, (ρ1 0).off + 0, none⟩) = _
    rw [e0]
  · have h1 := (fr_get hf1 (t := 2) rfl rfl).img rfl
    rw [h1]
    show Value.pointer (some ⟨(ρ1 1).blk, (ρ1 1).off + 0, none⟩) = _
    rw [e1]
  · have h1 := (fr_get hf1 (t := 10) rfl rfl).img rfl
    rw [h1, len']
    show Value.slice (some ⟨(ρ1 2).blk, (ρ1 2).off, none⟩) R.length ((ρ1 2).cap.getD R.length) = _
    rw [e2]; rfl
  · rw [len']
    exact (fr_get hf1 (t := 11) rfl rfl).int_inv
  · exact (fr_get hf1 (t := 12) rfl rfl).int_inv
  · obtain ⟨_, _, fz, h1, h2⟩ := box_cells (hw'.here 0 _ g0) rfl rfl
    rw [e0] at h1
    refine ⟨fz, ?_, h2⟩
    rw [h1, len']
    have : (ABlk.cells ⟨29, cfgC K (.slice (some ⟨2, 0, none⟩) R.length R.length), 0⟩).map (imgV ρ1) = cfgC K (.slice (some ⟨Bd, 0, none⟩) R.length cap) := by
      have e3 : imgV ρ1 (.slice (some ⟨2, 0, none⟩) R.length R.length) = .slice (some ⟨Bd, 0, none⟩) R.length cap := by
        show Value.slice (some ⟨(ρ1 2).blk, (ρ1 2).off, none⟩) R.length ((ρ1 2).cap.getD R.length) = _
        rw [e2]; rfl
      show cfgC K (imgV ρ1 (.slice (some ⟨2, 0, none⟩) R.length R.length)) = _
      rw [e3]
    rw [this]
  · obtain ⟨fz, h1, h2⟩ := hI.res
    exact ⟨fz, (keep B2 hB2 (by omega) (by omega)).trans h1, h2⟩
  · have hgood : ∀ v ∈ ((engL R).set x ((R.getD x default).1, nh, nb)).flatMap realP, goodV v = true := fun v hv => by
      obtain ⟨t, ht, hv⟩ := List.mem_flatMap.1 hv
      rcases List.mem_or_eq_of_mem_set ht with ht | rfl
      · obtain ⟨j, _, rfl⟩ := List.mem_map.1 ht
        exact realP_good rfl rfl v hv
      · exact realP_good (newK_good kh) (newK_good kb) v hv
    obtain ⟨_, c, h1, h2⟩ := row_cells (hw'.here 2 _ g2) (el := 46) (sz := 16) rfl rfl (by kernel_rfl) hgood
    rw [e2] at h1 h2
    cases h1
    have : (ABlk.cells ⟨46, ((engL R).set x ((R.getD x default).1, nh, nb)).flatMap realP, 1⟩).map (imgV ρ1) = (R.set x N).flatMap realP := by
      show (((engL R).set x ((R.getD x default).1, nh, nb)).flatMap realP).map (imgV ρ1) = _
      rw [imgX_cells]
      congr 1
      apply List.ext_getElem (by simp [engL_len])
      intro j h3 h4
      have hj : j < R.length := by simpa using h4
      by_cases hjx : j = x
      · subst hjx
        rw [List.getElem_map, List.getElem_set_self, List.getElem_set_self, hN]
      · rw [List.getElem_map, List.getElem_set_ne (Ne.symm hjx), List.getElem_set_ne (Ne.symm hjx)]
        have e4 : (engL R)[j]'(by rw [engL_len]; exact hj) = engX (R.getD j default) j := by
          have := engL_get hj
          rwa [List.getD_eq_getElem?_getD, List.getElem?_eq_getElem (by rw [engL_len]; exact hj)] at this
        rw [e4]
        have e5 : R[j] = R.getD j default := by rw [List.getD_eq_getElem?_getD, List.getElem?_eq_getElem hj]; rfl
        rw [e5]
        have v1 := (vr_h (E0 := entD) (E1 := entD) (D := D1) (ρ := ρ1) hI.ok j).img rfl
        have v2 := (vr_b (E0 := entD) (E1 := entD) (D := D1) (ρ := ρ1) hI.ok j).img rfl
        show ((R.getD j default).1, imgV ρ1 (.slice (some ⟨2 + 2 * j, 0, some 2⟩) (R.getD j default).1.hs.length 0), imgV ρ1 (.slice (some ⟨3 + 2 * j, 0, some 2⟩) (R.getD j default).1.bk.length 0)) = R.getD j default
        rw [← v1, ← v2]
    rw [this] at h2
    exact h2
  · rw [len', hI.len]
  · intro j
    by_cases hjx : j = x
    · subst hjx
      rw [getD_set_eq' hx, hN]
      exact hI.data j
    · rw [getD_set_ne' hjx]; exact hI.data j
  · intro j hj
    rw [getD_set_ne' (by omega)]
    exact hI.old j (by omega)
  · intro t ht
    rcases mem' t ht with ht | rfl
    · exact okW_keep (hI.ok t ht) (keepX t ht)
    · exact okN
  · intro j hj
    by_cases hjx : j = x
    · subst hjx
      rw [getD_set_eq' hx, hN]
      exact ⟨ownMono rh2, ownMono rb2⟩
    · rw [getD_set_ne' hjx]
      exact ownX_keep (hI.own j (by omega)) (keepX _ (getD_mem' (by omega)))
  · have e6 : (R.set x N).take (x + 1) = R.take x ++ [N] := by
      rw [List.take_add_one, List.getElem?_set_self hx, List.take_set_of_le (Nat.le_refl x)]; rfl
    rw [e6, List.flatMap_append, List.flatMap_singleton]
    refine List.nodup_append.2 ⟨hI.nd, ?_, fun b1 hb1 b2 hb2 => ?_⟩
    · rw [hN]
      refine List.nodup_append.2 ⟨?_, ?_, fun b1 hb1 b2 hb2 => ?_⟩
      · cases kh <;> first | exact List.nodup_nil | (rename_i h _; show (hblk (Value.slice (some ⟨(ρ1 963).blk, (ρ1 963).off, none⟩) _ _)).Nodup; unfold hblk; split <;> simp)
      · cases kb <;> first | exact List.nodup_nil | (rename_i h _; show (hblk (Value.slice (some ⟨(ρ1 1155).blk, (ρ1 1155).off, none⟩) _ _)).Nodup; unfold hblk; split <;> simp)
      · obtain ⟨h1, k1, h2, h3⟩ := rh3 b1 hb1
        obtain ⟨h4, k2, h5, h6⟩ := rb3 b2 hb2
        rw [h1, h4]
        exact hw'.sep 963 1155 k1 k2 h2 h5 (by decide) (.inl (by rw [h3]; decide))
    · obtain ⟨t, ht, hm⟩ := List.mem_flatMap.1 hb1
      have h1 := okW_lt (hI.ok t (List.mem_of_mem_take ht)) hm
      have h2 := newB b2 hb2
      omega
  · intro t ht b hb
    rcases mem' t ht with ht | rfl
    · exact hI.far t ht b hb
    · have := newB b hb
      omega
  · exact hI.ge
  · refine hI.bel.trans ⟨hT'.os, hT'.tape, hT'.output, hT'.size, fun k hk => ?_⟩
    exact keep k (by omega) (by omega) (by omega)
end
section
open Go.RowKit
set_option linter.unusedSimpArgs false
set_option linter.unusedVariables false
set_option linter.unusedSectionVars false
set_option maxRecDepth 100000
theorem flat_congr {T U : Type} {f : T → List Value} {g : U → List Value} [Inhabited T] [Inhabited U] {A : List T} {B : List U} (hl : A.length = B.length) (h : ∀ j, j < A.length → f (A.getD j default) = g (B.getD j default)) : A.flatMap f = B.flatMap g := by
  rw [flat_range A f, flat_range B g, ← hl, List.flatMap_def, List.flatMap_def]
  congr 1
  exact List.map_congr_left fun j hj => h j (List.mem_range.1 hj)
theorem row_img [Inhabited RawG] {ρ : Nat → Pl} {E R : List PX} (hl : E.length = R.length) (h : ∀ j, j < R.length → realP ((E.getD j default).1, imgV ρ (E.getD j default).2.1, imgV ρ (E.getD j default).2.2) = realP (R.getD j default)) : (E.flatMap realP).map (imgV ρ) = R.flatMap realP := by
  rw [imgX_cells]
  refine flat_congr (by simpa using hl) fun j hj => ?_
  have hj' : j < R.length := by simpa [hl] using hj
  rw [← h j hj']
  congr 1
  rw [List.getD_eq_getElem?_getD, List.getElem?_map, List.getD_eq_getElem?_getD, List.getElem?_eq_getElem (by omega)]; rfl
/-- The end of the loop changes nothing. -/
theorem cp_fin {n0 : Nat} {w0 : World} {K : CfgS} {Lc : List PX} {x B1 B2 Bd cap : Nat} {R : List PX} {a : Act} {w : World} (hI : CpInv n0 w0 K Lc x B1 B2 Bd cap R a w) (hx : x = R.length) : (loopN Try.prog 13 0).wp Try.prog (fun e a' w' => e = .exit 0 ∧ CpInv n0 w0 K Lc x B1 B2 Bd cap R a' w') a w := by
  letI : Inhabited RawG := ⟨rawOf (entQ entD entD R)⟩
  have hsl : VR (fun b => b < 3) (rhoC B1 B2 Bd cap) (.slice (some ⟨2, 0, none⟩) R.length R.length) (.slice (some ⟨Bd, 0, none⟩) R.length cap) :=
    VR.slice (D := fun b => b < 3) (ρ := rhoC B1 B2 Bd cap) 2 0 R.length R.length cap (by decide) hI.capn (fun h => by cases h) (fun c h _ => by cases h; rfl)
  have hge := hI.ge
  have hf : FR [] (fun b => b < 3) (rhoC B1 B2 Bd cap) (mkF [(1, .pointer (some ⟨0, 0, none⟩)), (2, .pointer (some ⟨1, 0, none⟩)), (10, .slice (some ⟨2, 0, none⟩) R.length R.length), (11, .int .i64 (R.length : Int)), (12, .int .i64 (x : Int))] 35 0) a := by
    refine fr_mk hI.size hI.defers fun t v h => ?_
    simp only [List.mem_cons, Prod.mk.injEq, List.not_mem_nil, or_false] at h
    rcases h with ⟨rfl, rfl⟩ | ⟨rfl, rfl⟩ | ⟨rfl, rfl⟩ | ⟨rfl, rfl⟩ | ⟨rfl, rfl⟩
    · rw [hI.t1]; exact VR.ptr (ρ := rhoC B1 B2 Bd cap) 0 0 (by decide)
    · rw [hI.t2]; exact VR.ptr (ρ := rhoC B1 B2 Bd cap) 1 0 (by decide)
    · rw [hI.t10]; exact hsl
    · rw [hI.t11]; exact .scal _ rfl
    · rw [hI.t12]; exact .scal _ rfl
  have hw : WR (szP Try.prog) (fun b => b < 3) (rhoC B1 B2 Bd cap) (hget []) w :=
    wr_mk (fun b k hg => (hget_nil _ _ hg).elim) (fun b c k l hb => (hget_nil _ _ hb).elim) (rawL (rawAt_none _ rfl) (rawAt_none _ rfl) hI.ok) (fun i a hc ha b k hg => (hget_nil _ _ hg).elim)
  have hC := cp_end (E := []) (p := default) (n := R.length) (x := x) (jh := 0) (jb := 0) (ch := 0) (cb := 0) (cn := K.cn) (re := K.re) (co := K.co) (rs := K.rs) (dl := K.dl) (rq := K.rq) (cs := K.cs) (br := K.br) (bs := K.bs) (bm := K.bm) (by_ := K.by_) (en := K.en) (li := K.li) (he := K.he) (ct := K.ct) (bo := K.bo) (q := K.q) hx
  refine wp_mono (hC _ _ a w (fun b h => h) hf hw) ?_
  rintro e a' w' ⟨rfl, hle, D1, ρ1, hT, hf1, hb1, hc1⟩
  have e0 : ρ1 0 = ⟨B1, 0, none⟩ := hT.same 0 (show (0 : Nat) < 3 by decide)
  have e1 : ρ1 1 = ⟨B2, 0, none⟩ := hT.same 1 (show (1 : Nat) < 3 by decide)
  have e2 : ρ1 2 = ⟨Bd, 0, some cap⟩ := hT.same 2 (show (2 : Nat) < 3 by decide)
  have keep : ∀ b, b < w.heap.size → w'.heap[b]? = w.heap[b]? := fun b h1 => t_keep hT h1 fun c k hc => (hget_nil _ _ hc).elim
  have hB1 : B1 < w.heap.size := by obtain ⟨fz, h1, _⟩ := hI.box; exact (Array.getElem?_eq_some_iff.1 h1).1
  have hB2 : B2 < w.heap.size := by obtain ⟨fz, h1, _⟩ := hI.res; exact (Array.getElem?_eq_some_iff.1 h1).1
  have hBd : Bd < w.heap.size := rowAt_lt hI.row
  have keepX : ∀ t ∈ R, ∀ b ∈ blks t, w'.heap[b]? = w.heap[b]? := fun t ht b hb => keep b (okW_lt (hI.ok t ht) hb)
  refine ⟨rfl, ?_⟩
  constructor
  · rw [hf1.size, mkF_len]
  · exact hf1.defers
  · have h1 := (fr_get hf1 (t := 1) rfl rfl).img rfl
    rw [h1]
    show Value.pointer (some ⟨(ρ1 0).blk, (ρ1 0).off + 0, none⟩) = _
    rw [e0]
  · have h1 := (fr_get hf1 (t := 2) rfl rfl).img rfl
    rw [h1]
    show Value.pointer (some ⟨(ρ1 1).blk, (ρ1 1).off + 0, none⟩) = _
    rw [e1]
  · have h1 := (fr_get hf1 (t := 10) rfl rfl).img rfl
    rw [h1]
    show Value.slice (some ⟨(ρ1 2).blk, (ρ1 2).off, none⟩) R.length ((ρ1 2).cap.getD R.length) = _
    rw [e2]; rfl
  · exact (fr_get hf1 (t := 11) rfl rfl).int_inv
  · exact (fr_get hf1 (t := 12) rfl rfl).int_inv
  · obtain ⟨fz, h1, h2⟩ := hI.box
    exact ⟨fz, (keep B1 hB1).trans h1, h2⟩
  · obtain ⟨fz, h1, h2⟩ := hI.res
    exact ⟨fz, (keep B2 hB2).trans h1, h2⟩
  · exact rowAt_keep hI.row (keep Bd hBd)
  · exact hI.len
  · exact hI.data
  · exact hI.old
  · exact fun t ht => okW_keep (hI.ok t ht) (keepX t ht)
  · exact fun j hj => ownX_keep (hI.own j hj) (keepX _ (getD_mem' (by omega)))
  · exact hI.nd
  · exact hI.far
  · exact hI.ge
  · exact hI.bel.trans ⟨hT.os, hT.tape, hT.output, hT.size, fun k hk => keep k (by omega)⟩
/-- A round. -/
theorem cp_step {n0 : Nat} {w0 : World} {K : CfgS} {Lc : List PX} {x B1 B2 Bd cap : Nat} {R : List PX} {a : Act} {w : World} (hI : CpInv n0 w0 K Lc x B1 B2 Bd cap R a w) (hx : x < R.length) (h9 : R.length ≤ 9000000000) (hl : (R.getD x default).1.hs.length ≤ 9000000000 ∧ (R.getD x default).1.bk.length ≤ 9000000000) :
    (loopN Try.prog 13 0).wp Try.prog (fun e a' w' => e = .normal ∧ ∃ R' : List PX, R'.length = R.length ∧ CpInv n0 w0 K Lc (x + 1) B1 B2 Bd cap R' a' w') a w := by
  letI : Inhabited RawG := ⟨rawOf (entQ entD entD R)⟩
  obtain ⟨vh, ch, kh⟩ := hdK_ex (hI.ok _ (getD_mem' hx)).h (2 + 2 * x)
  obtain ⟨vb, cb, kb⟩ := hdK_ex (hI.ok _ (getD_mem' hx)).b (3 + 2 * x)
  have hh : VR (fun b => b < 3) (rhoC B1 B2 Bd cap) vh (R.getD x default).2.1 := hdK_vr kh (vr_h hI.ok x)
  have hb : VR (fun b => b < 3) (rhoC B1 B2 Bd cap) vb (R.getD x default).2.2 := hdK_vr kb (vr_b hI.ok x)
  cases kh with
  | nil hzh eh =>
    cases kb with
    | nil hzb eb => exact cp_after hI hx hh hb (.nil hzh) (.nil hzb) (by have h := cp_nn (E := (engL R).set x ((R.getD x default).1, .slice none 0 ch, .slice none 0 cb)) (p := (R.getD x default).1) (n := R.length) (x := x) (jh := 2 + 2 * x) (jb := 3 + 2 * x) (ch := ch) (cb := cb) (cn := K.cn) (re := K.re) (co := K.co) (rs := K.rs) (dl := K.dl) (rq := K.rq) (cs := K.cs) (br := K.br) (bs := K.bs) (bm := K.bm) (by_ := K.by_) (en := K.en) (li := K.li) (he := K.he) (ct := K.ct) (bo := K.bo) (q := K.q) (by rw [List.length_set, engL_len]; exact hx) (by rw [List.length_set, engL_len]) h9 (getD_set_eq' (by rw [engL_len]; exact hx)); rw [List.set_set] at h; exact h)
    | emp hzb ab eb => exact cp_after hI hx hh hb (.nil hzh) (.emp hzb) (by have h := cp_ne (E := (engL R).set x ((R.getD x default).1, .slice none 0 ch, .slice (some ⟨0, 0, some 0⟩) 0 0)) (p := (R.getD x default).1) (n := R.length) (x := x) (jh := 2 + 2 * x) (jb := 3 + 2 * x) (ch := ch) (cb := 0) (cn := K.cn) (re := K.re) (co := K.co) (rs := K.rs) (dl := K.dl) (rq := K.rq) (cs := K.cs) (br := K.br) (bs := K.bs) (bm := K.bm) (by_ := K.by_) (en := K.en) (li := K.li) (he := K.he) (ct := K.ct) (bo := K.bo) (q := K.q) (by rw [List.length_set, engL_len]; exact hx) (by rw [List.length_set, engL_len]) h9 (getD_set_eq' (by rw [engL_len]; exact hx)); rw [List.set_set] at h; exact h)
    | full hpb => exact cp_after hI hx hh hb (.nil hzh) (.full hpb rfl) (by have h := cp_nf (E := (engL R).set x ((R.getD x default).1, .slice none 0 ch, .slice (some ⟨3 + 2 * x, 0, some 2⟩) (R.getD x default).1.bk.length 0)) (p := (R.getD x default).1) (n := R.length) (x := x) (jh := 2 + 2 * x) (jb := 3 + 2 * x) (ch := ch) (cb := 0) (cn := K.cn) (re := K.re) (co := K.co) (rs := K.rs) (dl := K.dl) (rq := K.rq) (cs := K.cs) (br := K.br) (bs := K.bs) (bm := K.bm) (by_ := K.by_) (en := K.en) (li := K.li) (he := K.he) (ct := K.ct) (bo := K.bo) (q := K.q) (by rw [List.length_set, engL_len]; exact hx) (by rw [List.length_set, engL_len]) h9 (getD_set_eq' (by rw [engL_len]; exact hx)) (cells_b hI.ok x) hpb hl.2; rw [List.set_set] at h; exact h)
  | emp hzh ah eh =>
    cases kb with
    | nil hzb eb => exact cp_after hI hx hh hb (.emp hzh) (.nil hzb) (by have h := cp_en (E := (engL R).set x ((R.getD x default).1, .slice (some ⟨0, 0, some 0⟩) 0 0, .slice none 0 cb)) (p := (R.getD x default).1) (n := R.length) (x := x) (jh := 2 + 2 * x) (jb := 3 + 2 * x) (ch := 0) (cb := cb) (cn := K.cn) (re := K.re) (co := K.co) (rs := K.rs) (dl := K.dl) (rq := K.rq) (cs := K.cs) (br := K.br) (bs := K.bs) (bm := K.bm) (by_ := K.by_) (en := K.en) (li := K.li) (he := K.he) (ct := K.ct) (bo := K.bo) (q := K.q) (by rw [List.length_set, engL_len]; exact hx) (by rw [List.length_set, engL_len]) h9 (getD_set_eq' (by rw [engL_len]; exact hx)); rw [List.set_set] at h; exact h)
    | emp hzb ab eb => exact cp_after hI hx hh hb (.emp hzh) (.emp hzb) (by have h := cp_ee (E := (engL R).set x ((R.getD x default).1, .slice (some ⟨0, 0, some 0⟩) 0 0, .slice (some ⟨0, 0, some 0⟩) 0 0)) (p := (R.getD x default).1) (n := R.length) (x := x) (jh := 2 + 2 * x) (jb := 3 + 2 * x) (ch := 0) (cb := 0) (cn := K.cn) (re := K.re) (co := K.co) (rs := K.rs) (dl := K.dl) (rq := K.rq) (cs := K.cs) (br := K.br) (bs := K.bs) (bm := K.bm) (by_ := K.by_) (en := K.en) (li := K.li) (he := K.he) (ct := K.ct) (bo := K.bo) (q := K.q) (by rw [List.length_set, engL_len]; exact hx) (by rw [List.length_set, engL_len]) h9 (getD_set_eq' (by rw [engL_len]; exact hx)); rw [List.set_set] at h; exact h)
    | full hpb => exact cp_after hI hx hh hb (.emp hzh) (.full hpb rfl) (by have h := cp_ef (E := (engL R).set x ((R.getD x default).1, .slice (some ⟨0, 0, some 0⟩) 0 0, .slice (some ⟨3 + 2 * x, 0, some 2⟩) (R.getD x default).1.bk.length 0)) (p := (R.getD x default).1) (n := R.length) (x := x) (jh := 2 + 2 * x) (jb := 3 + 2 * x) (ch := 0) (cb := 0) (cn := K.cn) (re := K.re) (co := K.co) (rs := K.rs) (dl := K.dl) (rq := K.rq) (cs := K.cs) (br := K.br) (bs := K.bs) (bm := K.bm) (by_ := K.by_) (en := K.en) (li := K.li) (he := K.he) (ct := K.ct) (bo := K.bo) (q := K.q) (by rw [List.length_set, engL_len]; exact hx) (by rw [List.length_set, engL_len]) h9 (getD_set_eq' (by rw [engL_len]; exact hx)) (cells_b hI.ok x) hpb hl.2; rw [List.set_set] at h; exact h)
  | full hph =>
    cases kb with
    | nil hzb eb => exact cp_after hI hx hh hb (.full hph (flatMap_one _).symm) (.nil hzb) (by have h := cp_fn (E := (engL R).set x ((R.getD x default).1, .slice (some ⟨2 + 2 * x, 0, some 2⟩) (R.getD x default).1.hs.length 0, .slice none 0 cb)) (p := (R.getD x default).1) (n := R.length) (x := x) (jh := 2 + 2 * x) (jb := 3 + 2 * x) (ch := 0) (cb := cb) (cn := K.cn) (re := K.re) (co := K.co) (rs := K.rs) (dl := K.dl) (rq := K.rq) (cs := K.cs) (br := K.br) (bs := K.bs) (bm := K.bm) (by_ := K.by_) (en := K.en) (li := K.li) (he := K.he) (ct := K.ct) (bo := K.bo) (q := K.q) (by rw [List.length_set, engL_len]; exact hx) (by rw [List.length_set, engL_len]) h9 (getD_set_eq' (by rw [engL_len]; exact hx)) (cells_h hI.ok x) hph hl.1; rw [List.set_set] at h; exact h)
    | emp hzb ab eb => exact cp_after hI hx hh hb (.full hph (flatMap_one _).symm) (.emp hzb) (by have h := cp_fe (E := (engL R).set x ((R.getD x default).1, .slice (some ⟨2 + 2 * x, 0, some 2⟩) (R.getD x default).1.hs.length 0, .slice (some ⟨0, 0, some 0⟩) 0 0)) (p := (R.getD x default).1) (n := R.length) (x := x) (jh := 2 + 2 * x) (jb := 3 + 2 * x) (ch := 0) (cb := 0) (cn := K.cn) (re := K.re) (co := K.co) (rs := K.rs) (dl := K.dl) (rq := K.rq) (cs := K.cs) (br := K.br) (bs := K.bs) (bm := K.bm) (by_ := K.by_) (en := K.en) (li := K.li) (he := K.he) (ct := K.ct) (bo := K.bo) (q := K.q) (by rw [List.length_set, engL_len]; exact hx) (by rw [List.length_set, engL_len]) h9 (getD_set_eq' (by rw [engL_len]; exact hx)) (cells_h hI.ok x) hph hl.1; rw [List.set_set] at h; exact h)
    | full hpb => exact cp_after hI hx hh hb (.full hph (flatMap_one _).symm) (.full hpb rfl) (by have h := cp_ff (E := (engL R).set x ((R.getD x default).1, .slice (some ⟨2 + 2 * x, 0, some 2⟩) (R.getD x default).1.hs.length 0, .slice (some ⟨3 + 2 * x, 0, some 2⟩) (R.getD x default).1.bk.length 0)) (p := (R.getD x default).1) (n := R.length) (x := x) (jh := 2 + 2 * x) (jb := 3 + 2 * x) (ch := 0) (cb := 0) (cn := K.cn) (re := K.re) (co := K.co) (rs := K.rs) (dl := K.dl) (rq := K.rq) (cs := K.cs) (br := K.br) (bs := K.bs) (bm := K.bm) (by_ := K.by_) (en := K.en) (li := K.li) (he := K.he) (ct := K.ct) (bo := K.bo) (q := K.q) (by rw [List.length_set, engL_len]; exact hx) (by rw [List.length_set, engL_len]) h9 (getD_set_eq' (by rw [engL_len]; exact hx)) (cells_h hI.ok x) hph hl.1 (cells_b hI.ok x) hpb hl.2; rw [List.set_set] at h; exact h)
/-- The loop. -/
theorem cp_rounds {n0 : Nat} {w0 : World} {K : CfgS} {Lc : List PX} {B1 B2 Bd cap : Nat} (h9 : Lc.length ≤ 9000000000) (hl : ∀ t ∈ Lc, t.1.hs.length ≤ 9000000000 ∧ t.1.bk.length ≤ 9000000000) : ∀ (m x : Nat) (R : List PX) (a : Act) (w : World), x + m = Lc.length → CpInv n0 w0 K Lc x B1 B2 Bd cap R a w →
    Code.rounds Try.prog (loopN Try.prog 13 0) (fun e a' w' => e = .exit 0 ∧ ∃ R' : List PX, CpInv n0 w0 K Lc Lc.length B1 B2 Bd cap R' a' w') (m + 1) a w
  | 0, x, R, a, w, hx, hI => by
    have e : x = R.length := by rw [hI.len]; omega
    refine wp_mono (cp_fin hI e) ?_
    rintro e1 a1 w1 ⟨rfl, h1⟩
    have hx' : x = Lc.length := by omega
    exact ⟨rfl, R, hx' ▸ h1⟩
  | m + 1, x, R, a, w, hx, hI => by
    have hxR : x < R.length := by rw [hI.len]; omega
    have hd := hI.old x (Nat.le_refl x)
    refine wp_mono (cp_step hI hxR (by rw [hI.len]; exact h9) (by rw [hd]; exact hl _ (getD_mem' (by omega)))) ?_
    rintro e1 a1 w1 ⟨rfl, R', h1, h2⟩
    exact cp_rounds h9 hl m (x + 1) R' a1 w1 (by omega) h2
end
end Go.Proofs.Ytkdalfdfepipiaa
