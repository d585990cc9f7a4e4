/-
  The engine, ninth part: calls.
-/
import Derived.Test.YtbmgigbcilgieaaX8
namespace Go.Proofs.Ytbmgigbcilgieaa
open Go.RowKit
set_option linter.unusedVariables false

section
variable {P : Program} {D D0 D1 D2 : Nat → Prop} {ρ ρ0 ρ1 ρ2 : Nat → Pl} {h : HF} {w w1 : World} {H H0 H1 H2 : Heap} {r : Nat → Option Nat} {o : Oper} {ev : Operand → Value}

theorem renBlk_spec {k k' : ABlk} (hk : renBlk r k = some k') : k'.elem = k.elem ∧ k'.mode = k.mode ∧ k'.cells.length = k.cells.length ∧ (k.mode = 2 → k' = k) ∧
    (k.mode ≠ 2 → ∀ (i : Nat) (v' : Value), k'.cells[i]? = some v' → ∃ v, k.cells[i]? = some v ∧ ((v' = v ∧ flat0 v = true) ∨ ren r 3 v = some v')) := by
  unfold renBlk at hk
  split at hk
  · rename_i hm
    cases hk
    exact ⟨rfl, rfl, rfl, fun _ => rfl, fun hn => absurd hm hn⟩
  · rename_i hm
    split at hk
    · rename_i hf
      cases hk
      exact ⟨rfl, rfl, rfl, fun _ => rfl, fun _ i v' hv => ⟨v', hv, .inl ⟨rfl, List.all_eq_true.1 hf _ (List.mem_of_getElem? hv)⟩⟩⟩
    · split at hk
      · rename_i cs hcs
        cases hk
        obtain ⟨h1, h2⟩ := renL_spec hcs
        refine ⟨rfl, rfl, h1, fun h => absurd h hm, fun _ i v' hv => ?_⟩
        have hi : i < k.cells.length := by have := (List.getElem?_eq_some_iff.1 hv).1; simp only at this; omega
        obtain ⟨v2, hv2, hr2⟩ := h2 i k.cells[i] (by simp [hi])
        simp only at hv
        rw [hv] at hv2
        cases hv2
        exact ⟨k.cells[i], by simp [hi], .inr hr2⟩
      · cases hk
theorem renHeap_spec : ∀ {H H2 : Heap}, renHeap r H = some H2 → ∀ b' k', hget H2 b' = some k' → ∃ b k, hget H b = some k ∧ r b = some b' ∧ renBlk r k = some k'
  | [], H2, hr, b', k', hg => by
    simp only [renHeap, Option.some.injEq] at hr
    subst hr
    cases hg
  | (b0, k0) :: t, H2, hr, b', k', hg => by
    simp only [renHeap] at hr
    split at hr
    · rename_i hn
      obtain ⟨b, k, h1, h2, h3⟩ := renHeap_spec hr b' k' hg
      refine ⟨b, k, ?_, h2, h3⟩
      have : b0 ≠ b := by rintro rfl; rw [hn] at h2; cases h2
      simp [hget, this, h1]
    · rename_i b0' hb0
      split at hr
      · rename_i k0' t' hk0 ht
        cases hr
        simp only [hget] at hg
        split at hg
        · rename_i he
          cases hg
          have : b0' = b' := by simpa using he
          subst this
          exact ⟨b0, k0, by simp [hget], hb0, hk0⟩
        · rename_i he
          obtain ⟨b, k, h1, h2, h3⟩ := renHeap_spec ht b' k' hg
          refine ⟨b, k, ?_, h2, h3⟩
          have : b0 ≠ b := by rintro rfl; rw [hb0] at h2; cases h2; simp at he
          simp [hget, this, h1]
      · cases hr

theorem T.rename (hw : WR (szP P) D0 ρ0 (hget H0) w) (ht : T (szP P) D0 ρ0 (hget H0) w D1 ρ1 (hget H1) w1) (hren : renHeap r H1 = some H2) (hD2 : ∀ b, D0 b → D2 b) (hρ2 : ∀ b, D0 b → ρ2 b = ρ0 b)
    (hr : ∀ b b', D1 b → r b = some b' → D2 b' ∧ ρ2 b' = ρ1 b) (hold : ∀ b b', D0 b → r b = some b' → b' = b) : T (szP P) D0 ρ0 (hget H0) w D2 ρ2 (hget H2) w1 := by
  have back := fun b' k' => renHeap_spec hren b' k'
  refine ⟨hD2, hρ2, ⟨fun b' k' hb => ?_, fun b' k' hb => ?_, fun b' c' k' l' hb hc hne hm => ?_⟩, ht.os, ht.tape, ht.output, ht.size, ht.keep, fun n ⟨b', k', hb, hm, he⟩ => ?_, fun b' k' hb hm => ?_⟩
  · obtain ⟨b, k, h1, h2, h3⟩ := back b' k' hb
    exact (hr b b' (ht.wr.dom b k h1) h2).1
  · obtain ⟨b, k, h1, h2, h3⟩ := back b' k' hb
    obtain ⟨e1, e2⟩ := hr b b' (ht.wr.dom b k h1) h2
    obtain ⟨s1, s2, s3, s4, s5⟩ := renBlk_spec h3
    obtain ⟨cs, fz, c1, c2, c3, c4, c5, c6⟩ := (ht.wr.here b k h1).has
    rw [e2]
    by_cases hm : k.mode = 2
    · have := s4 hm
      subst this
      have h0 := ht.ro b k' h1 hm
      have hsame := ht.same b (hw.dom b k' h0)
      obtain ⟨cs0, fz0, d1, d2, d3, d4, d5, d6⟩ := (hw.here b k' h0).has
      have hni : ¬ Img ρ0 (hget H0) (ρ0 b).blk := by
        rintro ⟨c, l, hc, hlm, he⟩
        have hne : b ≠ c := by rintro rfl; rw [h0] at hc; cases hc; exact hlm hm
        exact hw.sep b c k' l h0 hc hne (.inr hlm) he.symm
      have hk := ht.keep _ (hw.lt h0) hni
      rw [hsame] at c1 ⊢
      rw [hk, d1] at c1
      cases c1
      rw [hsame] at c3 c4 c5
      refine ⟨cs, fz, hk.trans d1, fun i v hv => ?_, c3, c4, c5, c6⟩
      obtain ⟨u, hu, hvr⟩ := d2 i v hv
      exact ⟨u, hu, hvr.mono hD2 hρ2⟩
    · refine ⟨cs, fz, by rw [s1]; exact c1, fun i v' hv' => ?_, fun hm0 => ?_, fun hm1 => ?_, fun hm2 => ?_, by rw [s2]; exact c6⟩
      · obtain ⟨v, hv, hcase⟩ := s5 hm i v' hv'
        obtain ⟨u, hu, hvr⟩ := c2 i v hv
        refine ⟨u, hu, ?_⟩
        rcases hcase with ⟨rfl, hf⟩ | hrn
        · rw [hvr.flat0_eq hf]; exact .scal _ hf
        · exact ren_vr hr 3 _ _ _ hvr hrn
      · rw [s3]; exact c3 (by rw [← s2]; exact hm0)
      · rw [s3, s1]; exact c4 (by rw [← s2]; exact hm1)
      · exact c5 (by rw [← s2]; exact hm2)
  · obtain ⟨b, k, h1, h2, h3⟩ := back b' k' hb
    obtain ⟨c, l, g1, g2, g3⟩ := back c' l' hc
    rw [(hr b b' (ht.wr.dom b k h1) h2).2, (hr c c' (ht.wr.dom c l g1) g2).2]
    refine ht.wr.sep b c k l h1 g1 (by rintro rfl; rw [h2] at g2; cases g2; exact hne rfl) ?_
    rw [← (renBlk_spec h3).2.1, ← (renBlk_spec g3).2.1]
    exact hm
  · obtain ⟨b, k, h1, h2, h3⟩ := back b' k' hb
    rw [(hr b b' (ht.wr.dom b k h1) h2).2] at he
    exact ht.img n ⟨b, k, h1, by rw [← (renBlk_spec h3).2.1]; exact hm, he⟩
  · obtain ⟨b, k, h1, h2, h3⟩ := back b' k' hb
    obtain ⟨s1, s2, s3, s4, s5⟩ := renBlk_spec h3
    have hm' : k.mode = 2 := by rw [← s2]; exact hm
    have h0 := ht.ro b k h1 hm'
    rw [hold b b' (hw.dom b k h0) h2, s4 hm']
    exact h0
end

/-! ### The call -/
def vidsL (f : Value → List Nat) : List Value → List Nat
  | [] => []
  | v :: r => f v ++ vidsL f r
def vids : Nat → Value → List Nat
  | 0, _ => []
  | n + 1, v =>
    match v with
    | .pointer (some a) => [a.block]
    | .slice (some ⟨b, _, none⟩) _ _ => [b]
    | .agg xs => vidsL (vids n) xs.toList
    | .tuple xs => vidsL (vids n) xs.toList
    | .func _ f c => vidsL (vids n) f.toList ++ vidsL (vids n) c.toList
    | _ => []
def kids (k : ABlk) : List Nat := if k.mode = 2 then [] else if k.cells.all flat0 then [] else vidsL (vids 3) k.cells
def memN : Nat → List Nat → Bool
  | _, [] => false
  | b, c :: r => b == c || memN b r
/-- What can be come to, the last first. -/
def reach (H : Heap) : Nat → List Nat → List Nat → List Nat
  | 0, _, seen => seen
  | _, [], seen => seen
  | n + 1, b :: r, seen => if memN b seen then reach H n r seen else match hget H b with
    | some k => reach H n (kids k ++ r) (b :: seen)
    | none => reach H n r seen
def restrict (H : Heap) (l : List Nat) : Heap :=
  match H with
  | [] => []
  | (b, k) :: t => if memN b l then (b, k) :: restrict t l else restrict t l
def idxIn : List Nat → Nat → Option Nat
  | [], _ => none
  | c :: r, b => if c == b then some 0 else (idxIn r b).map (· + 1)
def heapSet : Heap → List (Nat × Option ABlk)
  | [] => []
  | (b, k) :: t => (b, some k) :: heapSet t
def heapDel (H2 : Heap) : Heap → List (Nat × Option ABlk)
  | [] => []
  | (b, _) :: t => match hget H2 b with
    | some _ => heapDel H2 t
    | none => (b, none) :: heapDel H2 t
def ids : Heap → List Nat
  | [] => []
  | (b, _) :: t => b :: ids t
def filterGe (lo : Nat) : List Nat → List Nat
  | [] => []
  | b :: t => if lo ≤ b then b :: filterGe lo t else filterGe lo t
def fuelR : Nat := 4096
/-- The numbers that new blocks of a callee are given: those that the result or an old block leads to. -/
def survivors (H1 : Heap) (v : Value) (old : List Nat) (lo : Nat) : List Nat := (filterGe lo (reach H1 fuelR (vids 4 v ++ old) [])).reverse
def renOf (S : List Nat) (lo nid b : Nat) : Option Nat := if b < lo then some b else (idxIn S b).map (· + nid)

abbrev CallF := FuncId → List Value → Heap → Nat → Option (Value × Heap)
def aCallAt (call : CallF) (g : FuncId) (av : List Value) (H : Heap) (nid lo : Nat) : Option Did :=
  let Hs := restrict H (reach H fuelR (vidsL (vids 4) av) [])
  match call g av Hs lo with
  | some (v, H1) =>
    let S := survivors H1 v (ids Hs) lo
    match ren (renOf S lo nid) 4 v, renHeap (renOf S lo nid) H1 with
    | some v', some H2 => some ⟨v', ids Hs, heapSet H2 ++ heapDel H2 Hs, List.range' nid S.length⟩
    | _, _ => none
  | none => none
def enters (P : Program) (g : FuncId) : Bool :=
  match P.funcs[g]? with
  | some fn => fn.body.isSome && !(fn.name == "runtime.NumGoroutine")
  | none => false
def aCallOp (P : Program) (call : CallF) (ev : Operand → Value) (H : Heap) (o : Oper) (nid lo : Nat) : Option Did :=
  match o.op with
  | .call { callee := .value f, args := as, argTypes := _ } => match ev f with
    | .func (.func g) first captured => if enters P g then aCallAt call g (first.toList ++ as.toList.map ev ++ captured.toList) H nid lo else none
    | _ => none
  | _ => none

def CallSpec (P : Program) (call : CallF) : Prop :=
  ∀ g av Hs lo v H1, call g av Hs lo = some (v, H1) → ∀ (D : Nat → Prop) (ρ : Nat → Pl) (w : World) (args : Array Value), (∀ b, D b → b < lo) → args.size = av.length → (∀ i, VR D ρ (av.getD i undef) (args.getD i undef)) → WR (szP P) D ρ (hget Hs) w →
    Calls P g args w (fun e w1 => ∃ u, e = .returned u ∧ ∃ D1 ρ1, T (szP P) D ρ (hget Hs) w D1 ρ1 (hget H1) w1 ∧ VR D1 ρ1 v u ∧ ∀ b, D1 b → D b ∨ lo ≤ b)

/-- As OpOK, where all numbers in use are below lo. -/
def OpOKL (P : Program) (lo : Nat) (o : Oper) (ev : Operand → Value) (h : HF) (d : Did) : Prop :=
  ∀ (D : Nat → Prop) (ρ : Nat → Pl) (w : World) (a : Act), (∀ b, D b → b < lo) → (∀ x ∈ o.op.operands, VR D ρ (ev x) (a.eval x)) → WR (szP P) D ρ h w → (∀ b ∈ d.nw, ¬ D b) →
    Gives P o a w (fun u w' => ∃ D' ρ', T (szP P) D ρ h w D' ρ' (updf h d.wr) w' ∧ VR D' ρ' d.v u ∧ ∀ b, D' b → D b ∨ b ∈ d.nw)
theorem OpOK.toL {P : Program} {lo : Nat} {o : Oper} {ev : Operand → Value} {h : HF} {d : Did} (H : OpOK P o ev h d) : OpOKL P lo o ev h d := fun D ρ w a _ => H D ρ w a

section
variable {P : Program} {D D0 D1 D2 : Nat → Prop} {ρ ρ0 ρ1 ρ2 : Nat → Pl} {h : HF} {w w1 : World} {H H0 H1 H2 : Heap} {r : Nat → Option Nat} {o : Oper} {ev : Operand → Value} {d : Did}
theorem hget_restrict {l : List Nat} : ∀ {H : Heap} {b : Nat} {k : ABlk}, hget (restrict H l) b = some k → hget H b = some k
  | [], b, k, hb => by cases hb
  | (c, k0) :: t, b, k, hb => by
    simp only [restrict] at hb
    split at hb
    · simp only [hget] at hb ⊢
      split at hb
      · rename_i he; rw [if_pos he]; exact hb
      · rename_i he; rw [if_neg he]; exact hget_restrict hb
    · rename_i hn
      have h1 := hget_restrict hb
      have hm : memN b l = true := by
        clear h1 hn
        revert hb
        have : ∀ {H : Heap}, hget (restrict H l) b = some k → memN b l = true := by
          intro H
          induction H with
          | nil => intro hb; cases hb
          | cons p t ih =>
            obtain ⟨c, k0⟩ := p
            intro hb
            simp only [restrict] at hb
            split at hb
            · rename_i hm
              simp only [hget] at hb
              split at hb
              · rename_i he
                have : c = b := by simpa using he
                rw [← this]; exact hm
              · exact ih hb
            · exact ih hb
        exact this
      simp only [hget]
      rw [if_neg (by
        intro he
        have : c = b := by simpa using he
        subst this
        exact hn hm)]
      exact h1
theorem mem_ids : ∀ {H : Heap} {b : Nat} {k : ABlk}, hget H b = some k → b ∈ ids H
  | [], b, k, hb => by cases hb
  | (c, k0) :: t, b, k, hb => by
    simp only [hget] at hb
    split at hb
    · rename_i he
      have : c = b := by simpa using he
      simp [ids, this]
    · simp [ids, mem_ids hb]
theorem idxIn_spec : ∀ {S : List Nat} {b i : Nat}, idxIn S b = some i → S[i]? = some b
  | [], b, i, hb => by cases hb
  | c :: t, b, i, hb => by
    simp only [idxIn] at hb
    split at hb
    · rename_i he
      cases hb
      have : c = b := by simpa using he
      simp [this]
    · obtain ⟨j, hj, rfl⟩ := Option.map_eq_some_iff.1 hb
      simpa using idxIn_spec hj
theorem updf_none_del : ∀ {l : Heap} {h : HF} {b : Nat}, hget l b = none → updf h (heapDel H2 l) b = h b
  | [], h, b, _ => rfl
  | (c, k) :: t, h, b, hb => by
    simp only [hget] at hb
    split at hb
    · cases hb
    · rename_i he
      have hne : b ≠ c := by rintro rfl; simp at he
      simp only [heapDel]
      split
      · exact updf_none_del hb
      · simp only [updf, upd, if_neg hne]
        exact updf_none_del hb
theorem updf_del : ∀ {l : Heap} {h : HF} {b : Nat} {k : ABlk}, hget H2 b = none → updf h (heapDel H2 l) b = some k → hget l b = none ∧ h b = some k
  | [], h, b, k, _, hk => ⟨rfl, hk⟩
  | (c, k0) :: t, h, b, k, h2, hk => by
    simp only [heapDel] at hk
    split at hk
    · rename_i k1 hk1
      obtain ⟨a1, a2⟩ := updf_del h2 hk
      have : c ≠ b := by rintro rfl; rw [h2] at hk1; cases hk1
      exact ⟨by simp [hget, this, a1], a2⟩
    · simp only [updf, upd] at hk
      split at hk
      · cases hk
      · rename_i hne
        obtain ⟨a1, a2⟩ := updf_del h2 hk
        exact ⟨by simp [hget, Ne.symm hne, a1], a2⟩
theorem updf_set : ∀ {l : Heap} {t : List (Nat × Option ABlk)} {h : HF} {b : Nat}, updf h (heapSet l ++ t) b = match hget l b with | some k => some k | none => updf h t b
  | [], t, h, b => rfl
  | (c, k) :: l, t, h, b => by
    simp only [heapSet, List.cons_append, updf, upd, hget]
    by_cases hb : b = c
    · subst hb; simp
    · have : (c == b) = false := by simpa using Ne.symm hb
      simp only [this, if_neg hb]
      exact updf_set

theorem run_enters {g : FuncId} (hg : enters P g = true) (args : Array Value) (w : World) : (callFunc g args).run P w = .ok (.enter g args) w := by
  unfold enters at hg
  split at hg
  · rename_i fn hfn
    simp only [Bool.and_eq_true, Bool.not_eq_true'] at hg
    have hb : fn.body ≠ none := by intro e; rw [e] at hg; cases hg.1
    have hn : fn.name ≠ "runtime.NumGoroutine" := by simpa using hg.2
    simp [callFunc, program, Sem.run_bind, Sem.run, hfn, hn, hb]
  · cases hg

theorem aCallOp_ok {call : CallF} (hc : CallSpec P call) {nid lo : Nat} (hd : aCallOp P call ev H o nid lo = some d) (hr : ∀ b ∈ d.rd, h b = hget H b) : OpOKL P lo o ev h d := by
  unfold aCallOp at hd
  split at hd
  case h_2 => cases hd
  rename_i f as ats ho
  split at hd
  case h_2 => cases hd
  rename_i g first captured hf
  split at hd
  case isFalse => cases hd
  rename_i hent
  unfold aCallAt at hd
  dsimp only at hd
  generalize hHs : restrict H (reach H fuelR (vidsL (vids 4) (first.toList ++ as.toList.map ev ++ captured.toList)) []) = Hs at hd
  split at hd
  case h_2 => cases hd
  rename_i v H1 hcall
  generalize hS : survivors H1 v (ids Hs) lo = S at hd
  split at hd
  case h_2 => cases hd
  rename_i v' H2 hv' hH2
  cases hd
  intro D ρ w a hlo hv hw hn
  have hsub : ∀ b k, hget Hs b = some k → h b = some k := by
    intro b k hb
    rw [hr b (mem_ids hb)]
    subst hHs
    exact hget_restrict hb
  have hws : WR (szP P) D ρ (hget Hs) w := hw.less hsub
  have h1 := hv f (by simp [ho, Op.operands, Call.operands])
  rw [hf] at h1
  obtain ⟨first', captured', h2, s1, s2, g1, g2⟩ := h1.func_inv
  have hexec : (execOp a.eval o).run P w = .ok (.enter g (first' ++ as.map a.eval ++ captured')) w := by
    simp only [execOp, ho, resolve, h2, Deferred.ofValue, Sem.run_bind, Sem.run_pure, Result.andThen_ok, invoke]
    exact run_enters hent _ w
  have hav : ∀ i, VR D ρ ((first.toList ++ as.toList.map ev ++ captured.toList).getD i undef) ((first' ++ as.map a.eval ++ captured').getD i undef) := by
    intro i
    rw [List.getD_eq_getElem?_getD, Array.getD_eq_getD_getElem?]
    by_cases i1 : i < first.size
    · have := g1 i
      rw [Array.getD_eq_getD_getElem?, Array.getD_eq_getD_getElem?] at this
      rw [List.append_assoc, List.getElem?_append_left (by simpa using i1), Array.append_assoc, Array.getElem?_append_left (by omega), Array.getElem?_toList]
      exact this
    · by_cases i2 : i - first.size < as.size
      · have := map_vr (D := D) (ρ := ρ) (xs := as) (f := ev) (g := a.eval) (fun x hx => hv x (by simp [ho, Op.operands, Call.operands, hx])) (i - first.size)
        rw [Array.getD_eq_getD_getElem?, Array.getD_eq_getD_getElem?] at this
        rw [List.append_assoc, List.getElem?_append_right (by simpa using i1), List.getElem?_append_left (by simpa using i2), Array.append_assoc, Array.getElem?_append_right (by omega), Array.getElem?_append_left (by simp; omega), ← s1]
        simpa using this
      · have := g2 (i - first.size - as.size)
        rw [Array.getD_eq_getD_getElem?, Array.getD_eq_getD_getElem?] at this
        rw [List.append_assoc, List.getElem?_append_right (by simpa using i1), List.getElem?_append_right (by simpa using i2), Array.append_assoc, Array.getElem?_append_right (by omega), Array.getElem?_append_right (by simp; omega), ← s1]
        simpa using this
  have hC := hc g _ Hs lo v H1 hcall D ρ w (first' ++ as.map a.eval ++ captured') hlo (by simp [s1, s2]) hav hws
  unfold Gives
  rw [hexec]
  refine hC.mono fun e w1 ⟨u, he, D1, ρ1, hT, hV, hD1⟩ => ⟨u, he, ?_⟩
  have hnS : ∀ c, nid ≤ c ∧ c - nid < S.length → ¬ D c := fun c hc' => hn c (by simp only [List.mem_range'_1]; omega)
  have hrr : ∀ b b', D1 b → renOf S lo nid b = some b' → (D b' ∨ b' ∈ List.range' nid S.length) ∧ (if hc : nid ≤ b' ∧ b' - nid < S.length then ρ1 (S[b' - nid]'hc.2) else ρ b') = ρ1 b := by
    intro b b' hb hrb
    unfold renOf at hrb
    split at hrb
    · rename_i hlt
      cases hrb
      have hDb : D b := (hD1 b hb).resolve_right (by omega)
      refine ⟨.inl hDb, ?_⟩
      rw [dif_neg (fun hc' => hnS b hc' hDb)]
      exact (hT.same b hDb).symm
    · obtain ⟨i, hi, rfl⟩ := Option.map_eq_some_iff.1 hrb
      have hSi := idxIn_spec hi
      obtain ⟨hlt, hSb⟩ := List.getElem?_eq_some_iff.1 hSi
      refine ⟨.inr (by simp only [List.mem_range'_1]; omega), ?_⟩
      rw [dif_pos ⟨by omega, by omega⟩]
      congr 1
      rw [← hSb]
      congr 1
      omega
  have hR := T.rename (P := P) (D2 := fun b => D b ∨ b ∈ List.range' nid S.length) (ρ2 := fun c => if hc : nid ≤ c ∧ c - nid < S.length then ρ1 (S[c - nid]'hc.2) else ρ c) hws hT hH2 (fun b hb => .inl hb)
    (fun b hb => dif_neg fun hc' => hnS b hc' hb) hrr (fun b b' hb hrb => by
      unfold renOf at hrb
      rw [if_pos (hlo b hb)] at hrb
      cases hrb; rfl)
  have hF := T.frame (h' := updf h (heapSet H2 ++ heapDel H2 Hs)) hw hR hsub (fun b k hb => by
    rw [updf_set] at hb
    split at hb
    · rename_i k2 hk2; cases hb; exact .inl hk2
    · rename_i hk2
      obtain ⟨a1, a2⟩ := updf_del hk2 hb
      exact .inr ⟨a2, a1, hk2⟩)
  exact ⟨_, _, hF, ren_vr hrr 4 _ _ _ hV hv', fun b hb => hb⟩

/-- All operations. -/
def aOp (P : Program) (call : CallF) (ev : Operand → Value) (H : Heap) (o : Oper) (nid lo : Nat) : Option Did :=
  match aCallOp P call ev H o nid lo with
  | some d => some d
  | none => aOpM P ev H o nid
theorem aOp_ok {call : CallF} (hc : CallSpec P call) {nid lo : Nat} (hd : aOp P call ev H o nid lo = some d) (hr : ∀ b ∈ d.rd, h b = hget H b) : OpOKL P lo o ev h d := by
  unfold aOp at hd
  split at hd
  · rename_i d' hd'
    cases hd
    exact aCallOp_ok hc hd' hr
  · exact (aOpM_ok hd hr).toL
end
end Go.Proofs.Ytbmgigbcilgieaa
