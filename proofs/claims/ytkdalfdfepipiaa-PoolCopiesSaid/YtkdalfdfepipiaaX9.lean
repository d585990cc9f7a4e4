/-
  The engine, ninth part: calls.
-/
import Derived.Test.YtkdalfdfepipiaaX8
namespace Go.Proofs.Ytkdalfdfepipiaa
set_option linter.unusedSectionVars false
open Go.RowKit
set_option linter.unusedVariables false
variable [Inhabited RawG]

section
variable {P : Program} {D D0 D1 D2 : Nat → Prop} {ρ ρ0 ρ1 ρ2 : Nat → Pl} {h : HF} {w w1 : World} {H H0 H1 H2 : Heap} {r : Nat → Option Nat} {o : Oper} {ev : Operand → Value}

theorem renBlk_spec {k k' : ABlk} (hk : renBlk r k = some k') : k'.elem = k.elem ∧ k'.mode = k.mode ∧ k'.cells.length = k.cells.length ∧
    (∀ (i : Nat) (v' : Value), k'.cells[i]? = some v' → ∃ v, k.cells[i]? = some v ∧ ((v' = v ∧ (flat0 v = true ∨ 2 ≤ k.mode)) ∨ ren r 3 v = some v')) ∧ (2 ≤ k.mode → k.mode ≤ 4 → k' = k) := by
  unfold renBlk at hk
  split at hk
  · rename_i hm
    cases hk
    exact ⟨rfl, rfl, rfl, fun i v' hv => ⟨v', hv, .inl ⟨rfl, .inr (by omega)⟩⟩, fun _ _ => rfl⟩
  · rename_i hm
    split at hk
    · rename_i hf
      cases hk
      exact ⟨rfl, rfl, rfl, fun i v' hv => ⟨v', hv, .inl ⟨rfl, .inl (List.all_eq_true.1 hf _ (List.mem_of_getElem? hv))⟩⟩, fun _ _ => rfl⟩
    · split at hk
      · rename_i cs hcs
        cases hk
        obtain ⟨h1, h2⟩ := renL_spec hcs
        refine ⟨rfl, rfl, h1, fun i v' hv => ?_, fun h h' => absurd (show k.mode = 2 ∨ k.mode = 3 ∨ k.mode = 4 by omega) hm⟩
        have hi : i < k.cells.length := by have := (List.getElem?_eq_some_iff.1 hv).1; simp only at this; omega
        obtain ⟨v2, hv2, hr2⟩ := h2 i k.cells[i] (by simp [hi])
        simp only at hv
        rw [hv] at hv2
        cases hv2
        exact ⟨k.cells[i], by simp [hi], .inr hr2⟩
      · cases hk
theorem renHeap_spec : ∀ {H H2 : Heap}, renHeap r H = some H2 → ∀ b' k', hget H2 b' = some k' → ∃ b k, hget H b = some k ∧ r b = some b' ∧ renBlk r k = some k'
  | [], H2, hr, b', k', hg => by
    simp only [renHeap, Option.some.injEq] at hr
    subst hr
    cases hg
  | (b0, k0) :: t, H2, hr, b', k', hg => by
    simp only [renHeap] at hr
    split at hr
    · rename_i hn
      obtain ⟨b, k, h1, h2, h3⟩ := renHeap_spec hr b' k' hg
      refine ⟨b, k, ?_, h2, h3⟩
      have : b0 ≠ b := by rintro rfl; rw [hn] at h2; cases h2
      simp [hget, this, h1]
    · rename_i b0' hb0
      split at hr
      · rename_i k0' t' hk0 ht
        cases hr
        simp only [hget] at hg
        split at hg
        · rename_i he
          cases hg
          have : b0' = b' := by simpa using he
          subst this
          exact ⟨b0, k0, by simp [hget], hb0, hk0⟩
        · rename_i he
          obtain ⟨b, k, h1, h2, h3⟩ := renHeap_spec ht b' k' hg
          refine ⟨b, k, ?_, h2, h3⟩
          have : b0 ≠ b := by rintro rfl; rw [hb0] at h2; cases h2; simp at he
          simp [hget, this, h1]
      · cases hr
/-- A block under new numbers. -/
theorem BR.ren {k k' : ABlk} {p : Pl} (hb : BR D0 ρ0 p k (szP P) w) (hk : renBlk r k = some k') (hr : ∀ b b', D0 b → r b = some b' → D2 b' ∧ ρ2 b' = ρ0 b) : BR D2 ρ2 p k' (szP P) w := by
  obtain ⟨s1, s2, s3, s4, s5⟩ := renBlk_spec hk
  by_cases hm4 : k.mode = 4
  · have e := s5 (by omega) (by omega)
    subst e
    exact ⟨fun h => absurd hm4 h, hb.isMap⟩
  obtain ⟨cs, fz, c1, c2, c3, c4, c5, c6⟩ := hb.has hm4
  refine .of ⟨cs, fz, by rw [s1]; exact c1, fun i v' hv' => ?_, fun hm0 => ?_, fun hm1 => ?_, fun hm2 => c5 (by rw [← s2]; exact hm2), by rw [s2]; exact c6.1, fun hm3 => ?_⟩
  · obtain ⟨v, hv, hcase⟩ := s4 i v' hv'
    obtain ⟨u, hu, hvr⟩ := c2 i v hv
    refine ⟨u, hu, ?_⟩
    rcases hcase with ⟨rfl, hf⟩ | hrn
    · have hf : clo0 v' = true := hf.elim clo0_of fun h3m => c6.2 h3m v' (List.mem_of_getElem? hv)
      exact hvr.clo hf
    · exact ren_vr hr 3 _ _ _ hvr hrn
  · rw [s3]; exact c3 (by rw [← s2]; exact hm0)
  · rw [s3, s1]; exact c4 (by rw [← s2]; exact hm1)
  · have h2 : 2 ≤ k.mode := by rw [← s2]; exact hm3
    rw [s5 h2 (by have := c6.1; omega)]
    exact c6.2 h2
theorem img_ren (hw : WR (szP P) D0 ρ0 (hget H0) w) (hren : renHeap r H0 = some H2) (hr : ∀ b b', D0 b → r b = some b' → D2 b' ∧ ρ2 b' = ρ0 b) {n : Nat} (hi : Img ρ2 (hget H2) n) : Img ρ0 (hget H0) n := by
  obtain ⟨b', k', hb, hm, he⟩ := hi
  obtain ⟨b, k, h1, h2, h3⟩ := renHeap_spec hren b' k' hb
  rw [(hr b b' (hw.dom b k h1) h2).2] at he
  exact ⟨b, k, h1, by rw [← (renBlk_spec h3).2.1]; exact hm, he⟩
/-- A heap under new numbers. -/
theorem WR.ren (hw : WR (szP P) D0 ρ0 (hget H0) w) (hren : renHeap r H0 = some H2) (hr : ∀ b b', D0 b → r b = some b' → D2 b' ∧ ρ2 b' = ρ0 b) : WR (szP P) D2 ρ2 (hget H2) w := by
  have back := fun b' k' => renHeap_spec hren b' k'
  refine ⟨fun b' k' hb => ?_, fun b' k' hb => ?_, fun b' c' k' l' hb hc hne hm => ?_, hw.raw.less fun n hi => img_ren hw hren hr hi⟩
  · obtain ⟨b, k, h1, h2, h3⟩ := back b' k' hb
    exact (hr b b' (hw.dom b k h1) h2).1
  · obtain ⟨b, k, h1, h2, h3⟩ := back b' k' hb
    rw [(hr b b' (hw.dom b k h1) h2).2]
    exact (hw.here b k h1).ren h3 hr
  · obtain ⟨b, k, h1, h2, h3⟩ := back b' k' hb
    obtain ⟨c, l, g1, g2, g3⟩ := back c' l' hc
    rw [(hr b b' (hw.dom b k h1) h2).2, (hr c c' (hw.dom c l g1) g2).2]
    refine hw.sep b c k l h1 g1 (by rintro rfl; rw [h2] at g2; cases g2; exact hne rfl) ?_
    rw [← (renBlk_spec h3).2.1, ← (renBlk_spec g3).2.1]
    exact hm

theorem T.rename (hw : WR (szP P) D0 ρ0 (hget H0) w) (ht : T (szP P) D0 ρ0 (hget H0) w D1 ρ1 (hget H1) w1) (hren : renHeap r H1 = some H2) (hD2 : ∀ b, D0 b → D2 b) (hρ2 : ∀ b, D0 b → ρ2 b = ρ0 b)
    (hr : ∀ b b', D1 b → r b = some b' → D2 b' ∧ ρ2 b' = ρ1 b) (hold : ∀ b b', D0 b → r b = some b' → b' = b) : T (szP P) D0 ρ0 (hget H0) w D2 ρ2 (hget H2) w1 := by
  refine ⟨hD2, hρ2, ht.wr.ren hren hr, ht.os, ht.tape, ht.output, ht.size, ht.keep, fun n hi => ht.img n (img_ren ht.wr hren hr hi), fun b' k' hb hm => ?_⟩
  obtain ⟨b, k, h1, h2, h3⟩ := renHeap_spec hren b' k' hb
  obtain ⟨s1, s2, s3, s4, s5⟩ := renBlk_spec h3
  have hm' : k.mode = 2 := by rw [← s2]; exact hm
  have h0 := ht.ro b k h1 hm'
  rw [hold b b' (hw.dom b k h0) h2, s5 (by omega) (by omega)]
  exact h0
/-- What a callee does under numbers of its own, under the caller's. -/
theorem T.rename2 {Dc : Nat → Prop} {ρc : Nat → Pl} {Hc : Heap} {r0 : Nat → Option Nat} (hw : WR (szP P) D0 ρ0 (hget H0) w) (hin : renHeap r0 H0 = some Hc) (hr0 : ∀ b b', D0 b → r0 b = some b' → Dc b' ∧ ρc b' = ρ0 b)
    (ht : T (szP P) Dc ρc (hget Hc) w D1 ρ1 (hget H1) w1) (hren : renHeap r H1 = some H2) (hD2 : ∀ b, D0 b → D2 b) (hρ2 : ∀ b, D0 b → ρ2 b = ρ0 b)
    (hr : ∀ b b', D1 b → r b = some b' → D2 b' ∧ ρ2 b' = ρ1 b) (hold : ∀ b c b', r0 b = some c → r c = some b' → b' = b) : T (szP P) D0 ρ0 (hget H0) w D2 ρ2 (hget H2) w1 := by
  have hwc := hw.ren hin hr0
  refine ⟨hD2, hρ2, ht.wr.ren hren hr, ht.os, ht.tape, ht.output, ht.size, fun k hk hn => ht.keep k hk fun hi => hn (img_ren hw hin hr0 hi), fun n hi => ?_, fun b' k' hb hm => ?_⟩
  · rcases ht.img n (img_ren ht.wr hren hr hi) with h | h
    · exact .inl (img_ren hw hin hr0 h)
    · exact .inr h
  · obtain ⟨b, k, h1, h2, h3⟩ := renHeap_spec hren b' k' hb
    obtain ⟨s1, s2, s3, s4, s5⟩ := renBlk_spec h3
    have hm' : k.mode = 2 := by rw [← s2]; exact hm
    have h0 := ht.ro b k h1 hm'
    rw [s5 (by omega) (by omega)]
    obtain ⟨b0, k0, g1, g2, g3⟩ := renHeap_spec hin b k h0
    obtain ⟨t1, t2, t3, t4, t5⟩ := renBlk_spec g3
    have hm0 : k0.mode = 2 := by rw [← t2]; exact hm'
    rw [hold b0 b b' g2 h2, t5 (by omega) (by omega)]
    exact g1
end

/-! ### The call -/
def vidsL (f : Value → List Nat) : List Value → List Nat
  | [] => []
  | v :: r => f v ++ vidsL f r
def vids : Nat → Value → List Nat
  | 0, _ => []
  | n + 1, v =>
    match v with
    | .pointer (some ⟨b, _, none⟩) => [b]
    | .slice (some ⟨b, _, none⟩) _ _ => [b]
    | .map (some b) => [b]
    | .agg xs => vidsL (vids n) xs.toList
    | .tuple xs => vidsL (vids n) xs.toList
    | .func _ f c => vidsL (vids n) f.toList ++ vidsL (vids n) c.toList
    | _ => []
def kids (k : ABlk) : List Nat := if k.mode = 2 ∨ k.mode = 3 ∨ k.mode = 4 then [] else if k.cells.all flat0 then [] else vidsL (vids 3) k.cells
def memN : Nat → List Nat → Bool
  | _, [] => false
  | b, c :: r => b == c || memN b r
/-- What can be come to, the last first. -/
def reach (H : Heap) : Nat → List Nat → List Nat → List Nat
  | 0, _, seen => seen
  | _, [], seen => seen
  | n + 1, b :: r, seen => if memN b seen then reach H n r seen else match hget H b with
    | some k => reach H n (kids k ++ r) (b :: seen)
    | none => reach H n r seen
def restrict (H : Heap) (l : List Nat) : Heap :=
  match H with
  | [] => []
  | (b, k) :: t => if memN b l then (b, k) :: restrict t l else restrict t l
def idxIn : List Nat → Nat → Option Nat
  | [], _ => none
  | c :: r, b => if c == b then some 0 else (idxIn r b).map (· + 1)
def heapSet : Heap → List (Nat × Option ABlk)
  | [] => []
  | (b, k) :: t => (b, some k) :: heapSet t
def heapDel (H2 : Heap) : Heap → List (Nat × Option ABlk)
  | [] => []
  | (b, _) :: t => match hget H2 b with
    | some _ => heapDel H2 t
    | none => (b, none) :: heapDel H2 t
def ids : Heap → List Nat
  | [] => []
  | (b, _) :: t => b :: ids t
def filterGe (lo : Nat) : List Nat → List Nat
  | [] => []
  | b :: t => if lo ≤ b then b :: filterGe lo t else filterGe lo t
def fuelR : Nat := 4096
/-- The numbers that new blocks of a callee are given: those that the result or an old block leads to. -/
def survivors (H1 : Heap) (v : Value) (old : List Nat) (lo : Nat) : List Nat := (filterGe lo (reach H1 fuelR (vids 4 v ++ old) [])).reverse
def renOf (S : List Nat) (lo nid b : Nat) : Option Nat := if b < lo then some b else (idxIn S b).map (· + nid)
/-- A callee's numbers, as the caller has them: M: those that came in. -/
def backOf (M S : List Nat) (nid b : Nat) : Option Nat := if b < M.length then M[b]? else (idxIn S b).map (· + nid)
def upTo : Nat → List Nat → List Nat
  | _, [] => []
  | i, _ :: r => i :: upTo (i + 1) r

abbrev CallF := FuncId → List Value → Heap → Nat → Option (Value × Heap)
def aCallAt (call : CallF) (g : FuncId) (av : List Value) (H : Heap) (nid : Nat) : Option Did :=
  let Hs := restrict H (reach H fuelR (vidsL (vids 4) av) [])
  let M := ids Hs
  match renL (ren (idxIn M) 4) av, renHeap (idxIn M) Hs with
  | some avc, some Hc =>
    match call g avc Hc M.length with
    | some (v, H1) =>
      let S := survivors H1 v (upTo 0 M) M.length
      match ren (backOf M S nid) 4 v, renHeap (backOf M S nid) H1 with
      | some v', some H2 => some ⟨v', M, heapSet H2 ++ heapDel H2 Hs, List.range' nid S.length⟩
      | _, _ => none
    | none => none
  | _, _ => none
def enters (P : Program) (g : FuncId) : Bool :=
  match P.funcs[g]? with
  | some fn => fn.body.isSome && !(fn.name == "runtime.NumGoroutine")
  | none => false
def aCallOp (P : Program) (call : CallF) (ev : Operand → Value) (H : Heap) (o : Oper) (nid lo : Nat) : Option Did :=
  match o.op with
  | .call { callee := .value f, args := as, argTypes := _ } => match ev f with
    | .func (.func g) first captured => if enters P g then aCallAt call g (first.toList ++ as.toList.map ev ++ captured.toList) H nid else none
    | _ => none
  | _ => none

def CallSpec (P : Program) (call : CallF) : Prop :=
  ∀ g av Hs lo v H1, call g av Hs lo = some (v, H1) → ∀ (D : Nat → Prop) (ρ : Nat → Pl) (w : World) (args : Array Value), (∀ b, D b → b < lo) → args.size = av.length → (∀ i, VR D ρ (av.getD i undef) (args.getD i undef)) → WR (szP P) D ρ (hget Hs) w →
    Calls P g args w (fun e w1 => ∃ u, e = .returned u ∧ ∃ D1 ρ1, T (szP P) D ρ (hget Hs) w D1 ρ1 (hget H1) w1 ∧ VR D1 ρ1 v u ∧ ∀ b, D1 b → D b ∨ lo ≤ b)

/-- What a call with these values, from this heap, yields. -/
def CallOK (P : Program) (g : FuncId) (av : List Value) (Hs : Heap) (lo : Nat) (v : Value) (H1 : Heap) : Prop :=
  ∀ (D : Nat → Prop) (ρ : Nat → Pl) (w : World) (args : Array Value), (∀ b, D b → b < lo) → args.size = av.length → (∀ i, VR D ρ (av.getD i undef) (args.getD i undef)) → WR (szP P) D ρ (hget Hs) w →
    Calls P g args w (fun e w1 => ∃ u, e = .returned u ∧ ∃ D1 ρ1, T (szP P) D ρ (hget Hs) w D1 ρ1 (hget H1) w1 ∧ VR D1 ρ1 v u ∧ ∀ b, D1 b → D b ∨ lo ≤ b)
/-- What a call's operation calls, with what, from which heap, under the callee's numbers. -/
def callArgs (P : Program) (ev : Operand → Value) (H : Heap) (o : Oper) : Option (FuncId × List Value × Heap × Nat) :=
  match o.op with
  | .call { callee := .value f, args := as, argTypes := _ } => match ev f with
    | .func (.func g) first captured => if enters P g then
        match renL (ren (idxIn (ids (restrict H (reach H fuelR (vidsL (vids 4) (first.toList ++ as.toList.map ev ++ captured.toList)) [])))) 4) (first.toList ++ as.toList.map ev ++ captured.toList),
          renHeap (idxIn (ids (restrict H (reach H fuelR (vidsL (vids 4) (first.toList ++ as.toList.map ev ++ captured.toList)) [])))) (restrict H (reach H fuelR (vidsL (vids 4) (first.toList ++ as.toList.map ev ++ captured.toList)) [])) with
        | some avc, some Hc => some (g, avc, Hc, (ids (restrict H (reach H fuelR (vidsL (vids 4) (first.toList ++ as.toList.map ev ++ captured.toList)) []))).length)
        | _, _ => none
      else none
    | _ => none
  | _ => none

/-- As OpOK, where all numbers in use are below lo. -/
def OpOKL (P : Program) (lo : Nat) (o : Oper) (ev : Operand → Value) (h : HF) (d : Did) : Prop :=
  ∀ (D : Nat → Prop) (ρ : Nat → Pl) (w : World) (a : Act), (∀ b, D b → b < lo) → (∀ x ∈ o.op.operands, VR D ρ (ev x) (a.eval x)) → WR (szP P) D ρ h w → (∀ b ∈ d.nw, ¬ D b) →
    Gives P o a w (fun u w' => ∃ D' ρ', T (szP P) D ρ h w D' ρ' (updf h d.wr) w' ∧ VR D' ρ' d.v u ∧ ∀ b, D' b → D b ∨ b ∈ d.nw)
theorem OpOK.toL {P : Program} {lo : Nat} {o : Oper} {ev : Operand → Value} {h : HF} {d : Did} (H : OpOK P o ev h d) : OpOKL P lo o ev h d := fun D ρ w a _ => H D ρ w a

section
variable {P : Program} {D D0 D1 D2 : Nat → Prop} {ρ ρ0 ρ1 ρ2 : Nat → Pl} {h : HF} {w w1 : World} {H H0 H1 H2 : Heap} {r : Nat → Option Nat} {o : Oper} {ev : Operand → Value} {d : Did}
theorem hget_restrict {l : List Nat} : ∀ {H : Heap} {b : Nat} {k : ABlk}, hget (restrict H l) b = some k → hget H b = some k
  | [], b, k, hb => by cases hb
  | (c, k0) :: t, b, k, hb => by
    simp only [restrict] at hb
    split at hb
    · simp only [hget] at hb ⊢
      split at hb
      · rename_i he; rw [if_pos he]; exact hb
      · rename_i he; rw [if_neg he]; exact hget_restrict hb
    · rename_i hn
      have h1 := hget_restrict hb
      have hm : memN b l = true := by
        clear h1 hn
        revert hb
        have : ∀ {H : Heap}, hget (restrict H l) b = some k → memN b l = true := by
          intro H
          induction H with
          | nil => intro hb; cases hb
          | cons p t ih =>
            obtain ⟨c, k0⟩ := p
            intro hb
            simp only [restrict] at hb
            split at hb
            · rename_i hm
              simp only [hget] at hb
              split at hb
              · rename_i he
                have : c = b := by simpa using he
                rw [← this]; exact hm
              · exact ih hb
            · exact ih hb
        exact this
      simp only [hget]
      rw [if_neg (by
        intro he
        have : c = b := by simpa using he
        subst this
        exact hn hm)]
      exact h1
theorem mem_ids : ∀ {H : Heap} {b : Nat} {k : ABlk}, hget H b = some k → b ∈ ids H
  | [], b, k, hb => by cases hb
  | (c, k0) :: t, b, k, hb => by
    simp only [hget] at hb
    split at hb
    · rename_i he
      have : c = b := by simpa using he
      simp [ids, this]
    · simp [ids, mem_ids hb]
theorem idxIn_spec : ∀ {S : List Nat} {b i : Nat}, idxIn S b = some i → S[i]? = some b
  | [], b, i, hb => by cases hb
  | c :: t, b, i, hb => by
    simp only [idxIn] at hb
    split at hb
    · rename_i he
      cases hb
      have : c = b := by simpa using he
      simp [this]
    · obtain ⟨j, hj, rfl⟩ := Option.map_eq_some_iff.1 hb
      simpa using idxIn_spec hj
theorem updf_none_del : ∀ {l : Heap} {h : HF} {b : Nat}, hget l b = none → updf h (heapDel H2 l) b = h b
  | [], h, b, _ => rfl
  | (c, k) :: t, h, b, hb => by
    simp only [hget] at hb
    split at hb
    · cases hb
    · rename_i he
      have hne : b ≠ c := by rintro rfl; simp at he
      simp only [heapDel]
      split
      · exact updf_none_del hb
      · simp only [updf, upd, if_neg hne]
        exact updf_none_del hb
theorem updf_del : ∀ {l : Heap} {h : HF} {b : Nat} {k : ABlk}, hget H2 b = none → updf h (heapDel H2 l) b = some k → hget l b = none ∧ h b = some k
  | [], h, b, k, _, hk => ⟨rfl, hk⟩
  | (c, k0) :: t, h, b, k, h2, hk => by
    simp only [heapDel] at hk
    split at hk
    · rename_i k1 hk1
      obtain ⟨a1, a2⟩ := updf_del h2 hk
      have : c ≠ b := by rintro rfl; rw [h2] at hk1; cases hk1
      exact ⟨by simp [hget, this, a1], a2⟩
    · simp only [updf, upd] at hk
      split at hk
      · cases hk
      · rename_i hne
        obtain ⟨a1, a2⟩ := updf_del h2 hk
        exact ⟨by simp [hget, Ne.symm hne, a1], a2⟩
theorem updf_set : ∀ {l : Heap} {t : List (Nat × Option ABlk)} {h : HF} {b : Nat}, updf h (heapSet l ++ t) b = match hget l b with | some k => some k | none => updf h t b
  | [], t, h, b => rfl
  | (c, k) :: l, t, h, b => by
    simp only [heapSet, List.cons_append, updf, upd, hget]
    by_cases hb : b = c
    · subst hb; simp
    · have : (c == b) = false := by simpa using Ne.symm hb
      simp only [this, if_neg hb]
      exact updf_set

theorem run_enters {g : FuncId} (hg : enters P g = true) (args : Array Value) (w : World) : (callFunc g args).run P w = .ok (.enter g args) w := by
  unfold enters at hg
  split at hg
  · rename_i fn hfn
    simp only [Bool.and_eq_true, Bool.not_eq_true'] at hg
    have hb : fn.body ≠ none := by intro e; rw [e] at hg; cases hg.1
    have hn : fn.name ≠ "runtime.NumGoroutine" := by simpa using hg.2
    simp [callFunc, program, Sem.run_bind, Sem.run, hfn, hn, hb]
  · cases hg

theorem renL_getD {D : Nat → Prop} {ρ : Nat → Pl} {f : Value → Option Value} {av avc : List Value} {args : Array Value} (hl : renL f av = some avc) (hsz : args.size = av.length) (hav : ∀ i, VR D ρ (av.getD i undef) (args.getD i undef)) {Dc : Nat → Prop} {ρc : Nat → Pl}
    (hf : ∀ v u v', VR D ρ v u → f v = some v' → VR Dc ρc v' u) : args.size = avc.length ∧ ∀ i, VR Dc ρc (avc.getD i undef) (args.getD i undef) := by
  obtain ⟨h1, h2⟩ := renL_spec hl
  refine ⟨by omega, fun i => ?_⟩
  by_cases hi : i < av.length
  · obtain ⟨v', hv', hfv⟩ := h2 i av[i] (by simp [hi])
    have := hav i
    rw [List.getD_eq_getElem?_getD, List.getElem?_eq_getElem hi] at this
    rw [List.getD_eq_getElem?_getD, hv']
    exact hf _ _ _ this hfv
  · rw [List.getD_eq_getElem?_getD, List.getElem?_eq_none (by omega), Array.getD_eq_getD_getElem?, Array.getElem?_eq_none (by omega)]
    exact .und
theorem aCallOp_ok' {call : CallF} {nid lo : Nat} (hc : ∀ g av Hs l v H1, callArgs P ev H o = some (g, av, Hs, l) → call g av Hs l = some (v, H1) → CallOK P g av Hs l v H1) (hd : aCallOp P call ev H o nid lo = some d) (hr : ∀ b ∈ d.rd, h b = hget H b) : OpOKL P lo o ev h d := by
  unfold aCallOp at hd
  split at hd
  case h_2 => cases hd
  rename_i f as ats ho
  split at hd
  case h_2 => cases hd
  rename_i g first captured hf
  split at hd
  case isFalse => cases hd
  rename_i hent
  have hcA : ∀ avc Hc, renL (ren (idxIn (ids (restrict H (reach H fuelR (vidsL (vids 4) (first.toList ++ as.toList.map ev ++ captured.toList)) [])))) 4) (first.toList ++ as.toList.map ev ++ captured.toList) = some avc → renHeap (idxIn (ids (restrict H (reach H fuelR (vidsL (vids 4) (first.toList ++ as.toList.map ev ++ captured.toList)) [])))) (restrict H (reach H fuelR (vidsL (vids 4) (first.toList ++ as.toList.map ev ++ captured.toList)) [])) = some Hc →
      callArgs P ev H o = some (g, avc, Hc, (ids (restrict H (reach H fuelR (vidsL (vids 4) (first.toList ++ as.toList.map ev ++ captured.toList)) []))).length) := by
    intro avc Hc e1 e2
    unfold callArgs
    simp only [ho, hf, hent, if_true, e1, e2]
  unfold aCallAt at hd
  dsimp only at hd
  generalize hHs : restrict H (reach H fuelR (vidsL (vids 4) (first.toList ++ as.toList.map ev ++ captured.toList)) []) = Hs at hd hcA
  generalize hM : ids Hs = M at hd hcA
  split at hd
  case h_2 => cases hd
  rename_i avc Hc havc hHc
  have hcA := hcA avc Hc havc hHc
  split at hd
  case h_2 => cases hd
  rename_i v H1 hcall
  generalize hS : survivors H1 v (upTo 0 M) M.length = S at hd
  split at hd
  case h_2 => cases hd
  rename_i v' H2 hv' hH2
  cases hd
  intro D ρ w a hlo hv hw hn
  have hsub : ∀ b k, hget Hs b = some k → h b = some k := by
    intro b k hb
    rw [hr b (hM ▸ mem_ids hb)]
    subst hHs
    exact hget_restrict hb
  have hws : WR (szP P) D ρ (hget Hs) w := hw.less hsub
  have h1 := hv f (by simp [ho, Op.operands, Call.operands])
  rw [hf] at h1
  obtain ⟨first', captured', h2, s1, s2, g1, g2⟩ := h1.func_inv
  have hexec : (execOp a.eval o).run P w = .ok (.enter g (first' ++ as.map a.eval ++ captured')) w := by
    simp only [execOp, ho, resolve, h2, Deferred.ofValue, Sem.run_bind, Sem.run_pure, Result.andThen_ok, invoke]
    exact run_enters hent _ w
  have hav : ∀ i, VR D ρ ((first.toList ++ as.toList.map ev ++ captured.toList).getD i undef) ((first' ++ as.map a.eval ++ captured').getD i undef) := by
    intro i
    rw [List.getD_eq_getElem?_getD, Array.getD_eq_getD_getElem?]
    by_cases i1 : i < first.size
    · have := g1 i
      rw [Array.getD_eq_getD_getElem?, Array.getD_eq_getD_getElem?] at this
      rw [List.append_assoc, List.getElem?_append_left (by simpa using i1), Array.append_assoc, Array.getElem?_append_left (by omega), Array.getElem?_toList]
      exact this
    · by_cases i2 : i - first.size < as.size
      · have := map_vr (D := D) (ρ := ρ) (xs := as) (f := ev) (g := a.eval) (fun x hx => hv x (by simp [ho, Op.operands, Call.operands, hx])) (i - first.size)
        rw [Array.getD_eq_getD_getElem?, Array.getD_eq_getD_getElem?] at this
        rw [List.append_assoc, List.getElem?_append_right (by simpa using i1), List.getElem?_append_left (by simpa using i2), Array.append_assoc, Array.getElem?_append_right (by omega), Array.getElem?_append_left (by simp; omega), ← s1]
        simpa using this
      · have := g2 (i - first.size - as.size)
        rw [Array.getD_eq_getD_getElem?, Array.getD_eq_getD_getElem?] at this
        rw [List.append_assoc, List.getElem?_append_right (by simpa using i1), List.getElem?_append_right (by simpa using i2), Array.append_assoc, Array.getElem?_append_right (by omega), Array.getElem?_append_right (by simp; omega), ← s1]
        simpa using this
  -- under the callee's numbers
  have hr0 : ∀ b b', D b → idxIn M b = some b' → (b' < M.length ∧ D (M.getD b' 0)) ∧ ρ (M.getD b' 0) = ρ b := by
    intro b b' hb hi
    have h3 := idxIn_spec hi
    obtain ⟨h4, h5⟩ := List.getElem?_eq_some_iff.1 h3
    have h6 : M.getD b' 0 = b := by rw [List.getD_eq_getElem?_getD, h3]; rfl
    rw [h6]
    exact ⟨⟨h4, hb⟩, rfl⟩
  have hwc : WR (szP P) (fun b => b < M.length ∧ D (M.getD b 0)) (fun b => ρ (M.getD b 0)) (hget Hc) w := hws.ren hHc hr0
  obtain ⟨hszc, havc'⟩ := renL_getD (Dc := fun b => b < M.length ∧ D (M.getD b 0)) (ρc := fun b => ρ (M.getD b 0)) (args := first' ++ as.map a.eval ++ captured') havc (by simp [s1, s2]) hav (fun v u v' hvr hf => ren_vr hr0 4 _ _ _ hvr hf)
  have hC := hc g _ Hc _ v H1 hcA hcall (fun b => b < M.length ∧ D (M.getD b 0)) (fun b => ρ (M.getD b 0)) w (first' ++ as.map a.eval ++ captured') (fun b hb => hb.1) hszc havc' hwc
  unfold Gives
  rw [hexec]
  refine hC.mono fun e w1 ⟨u, he, D1, ρ1, hT, hV, hD1⟩ => ⟨u, he, ?_⟩
  have hnS : ∀ c, nid ≤ c ∧ c - nid < S.length → ¬ D c := fun c hc' => hn c (by simp only [List.mem_range'_1]; omega)
  have hrr : ∀ b b', D1 b → backOf M S nid b = some b' → (D b' ∨ b' ∈ List.range' nid S.length) ∧ (if hc : nid ≤ b' ∧ b' - nid < S.length then ρ1 (S[b' - nid]'hc.2) else ρ b') = ρ1 b := by
    intro b b' hb hrb
    unfold backOf at hrb
    split at hrb
    · rename_i hlt
      have hDb : b < M.length ∧ D (M.getD b 0) := (hD1 b hb).resolve_right (by omega)
      have h6 : M.getD b 0 = b' := by rw [List.getD_eq_getElem?_getD, hrb]; rfl
      rw [h6] at hDb
      refine ⟨.inl hDb.2, ?_⟩
      rw [dif_neg (fun hc' => hnS b' hc' hDb.2)]
      have := hT.same b ⟨hlt, by rw [h6]; exact hDb.2⟩
      rw [this]
      simp only [h6]
    · obtain ⟨i, hi, rfl⟩ := Option.map_eq_some_iff.1 hrb
      have hSi := idxIn_spec hi
      obtain ⟨hlt, hSb⟩ := List.getElem?_eq_some_iff.1 hSi
      refine ⟨.inr (by simp only [List.mem_range'_1]; omega), ?_⟩
      rw [dif_pos ⟨by omega, by omega⟩]
      congr 1
      rw [← hSb]
      congr 1
      omega
  have hR := T.rename2 (P := P) (D2 := fun b => D b ∨ b ∈ List.range' nid S.length) (ρ2 := fun c => if hc : nid ≤ c ∧ c - nid < S.length then ρ1 (S[c - nid]'hc.2) else ρ c) hws hHc hr0 hT hH2 (fun b hb => .inl hb)
    (fun b hb => dif_neg fun hc' => hnS b hc' hb) hrr (fun b c b' hbc hcb => by
      have h3 := idxIn_spec hbc
      obtain ⟨h4, _⟩ := List.getElem?_eq_some_iff.1 h3
      unfold backOf at hcb
      rw [if_pos h4, h3] at hcb
      cases hcb; rfl)
  have hF := T.frame (h' := updf h (heapSet H2 ++ heapDel H2 Hs)) hw hR hsub (fun b k hb => by
    rw [updf_set] at hb
    split at hb
    · rename_i k2 hk2; cases hb; exact .inl hk2
    · rename_i hk2
      obtain ⟨a1, a2⟩ := updf_del hk2 hb
      exact .inr ⟨a2, a1, hk2⟩)
  exact ⟨_, _, hF, ren_vr hrr 4 _ _ _ hV hv', fun b hb => hb⟩

/-- All operations. -/
theorem aCallOp_ok {call : CallF} (hc : CallSpec P call) {nid lo : Nat} (hd : aCallOp P call ev H o nid lo = some d) (hr : ∀ b ∈ d.rd, h b = hget H b) : OpOKL P lo o ev h d :=
  aCallOp_ok' (fun g av Hs l v H1 _ hcall => hc g av Hs l v H1 hcall) hd hr
def aOp (P : Program) (call : CallF) (ev : Operand → Value) (H : Heap) (o : Oper) (nid lo : Nat) : Option Did :=
  match aCallOp P call ev H o nid lo with
  | some d => some d
  | none => aOpM P ev H o nid
theorem aOp_ok {call : CallF} (hc : CallSpec P call) {nid lo : Nat} (hd : aOp P call ev H o nid lo = some d) (hr : ∀ b ∈ d.rd, h b = hget H b) : OpOKL P lo o ev h d := by
  unfold aOp at hd
  split at hd
  · rename_i d' hd'
    cases hd
    exact aCallOp_ok hc hd' hr
  · exact (aOpM_ok hd hr).toL
end
end Go.Proofs.Ytkdalfdfepipiaa
