/-
  The engine, eighth part: all operations but calls; numbers of blocks given anew.
-/
import Derived.Test.YtbmgigbcilgieaaX7
namespace Go.Proofs.Ytbmgigbcilgieaa
open Go.RowKit
set_option linter.unusedVariables false

def aMem (P : Program) (ev : Operand → Value) (H : Heap) (o : Oper) (nid : Nat) : Option Did :=
  match o.op with
  | .load t x => aLoad P ev H t x
  | .store t x y => aStore P ev H t x y
  | .alloc t => aAlloc P t nid
  | .box t x => aBox ev t x nid
  | .move x => some ⟨ev x, [], [], []⟩
  | .assign x => some ⟨ev x, [], [], []⟩
  | .pick c x y => aPick ev c x y
  | .nilCheck x => aNilCheck ev x
  | .fieldAddr s x f => aFieldAddr P ev s x f
  | .indexAddr t x ix => aIndexAddr P ev t x ix
  | .extract x i => aExtract ev x i
  | .field t x f => aField P ev t x f
  | .makeFunc fn f c => some ⟨.func fn (f.map ev) (c.map ev), [], [], []⟩
  | .slice t x lo hi mx => aSlice P ev H t x lo hi mx
  | .build t parts => aBuild P ev t parts
  | .buildSlice t len parts => aBuildSlice P ev t len parts nid
  | .makeSlice t l c => aMakeSlice P ev t l c nid
  | .binOp op t x y _ => aNil P ev op t x y
  | .convert src dst x => aConvert P ev H src dst x nid
  | .call { callee := .builtin .len, args := ⟨[x]⟩, argTypes := ⟨[t]⟩ } => aLen P ev t x
  | .call { callee := .builtin .clear, args := ⟨[x]⟩, argTypes := ⟨[t]⟩ } => aClear P ev H t x
  | .call { callee := .builtin .append, args := ⟨[s, x]⟩, argTypes := ⟨[t, tx]⟩ } => aAppend P ev H t tx s x nid
  | _ => none
def isSelect : Op → Bool
  | .select .. => true
  | _ => false
def aOpM (P : Program) (ev : Operand → Value) (H : Heap) (o : Oper) (nid : Nat) : Option Did :=
  if (o.op.operands.all fun x => flat (ev x)) = true ∧ isSelect o.op = false then
    match peval P (execOp ev o) with
    | some (.value v) => if flat v = true then some ⟨v, [], [], []⟩ else aMem P ev H o nid
    | _ => aMem P ev H o nid
  else aMem P ev H o nid

section
variable {P : Program} {h : HF} {o : Oper} {ev : Operand → Value} {H : Heap} {d : Did} {nid : Nat}
theorem aMem_ok (hd : aMem P ev H o nid = some d) (hr : ∀ b ∈ d.rd, h b = hget H b) : OpOK P o ev h d := by
  unfold aMem at hd
  split at hd
  · rename_i ho; exact aLoad_ok ho hd hr
  · rename_i ho; exact aStore_ok ho hd hr
  · rename_i ho; exact aAlloc_ok ho hd
  · rename_i ho; exact aBox_ok ho hd
  · rename_i ho; cases hd; exact aMove_ok (.inl ho)
  · rename_i ho; cases hd; exact aMove_ok (.inr ho)
  · rename_i ho; exact aPick_ok ho hd
  · rename_i ho; exact aNilCheck_ok ho hd
  · rename_i ho; exact aFieldAddr_ok ho hd
  · rename_i ho; exact aIndexAddr_ok ho hd
  · rename_i ho; exact aExtract_ok ho hd
  · rename_i ho; exact aField_ok ho hd
  · rename_i ho; cases hd; exact aMakeFunc_ok ho
  · rename_i ho; exact aSlice_ok ho hd hr
  · rename_i ho; exact aBuild_ok ho hd
  · rename_i ho; exact aBuildSlice_ok ho hd
  · rename_i ho; exact aMakeSlice_ok ho hd
  · rename_i ho; exact aNil_ok ho hd
  · rename_i ho; exact aConvert_ok ho hd hr
  · rename_i ho; exact aLen_ok ho hd
  · rename_i ho; exact aClear_ok ho hd hr
  · rename_i ho; exact aAppend_ok ho hd hr
  · cases hd
theorem aOpM_ok (hd : aOpM P ev H o nid = some d) (hr : ∀ b ∈ d.rd, h b = hget H b) : OpOK P o ev h d := by
  unfold aOpM at hd
  split at hd
  · rename_i hc
    split at hd
    · rename_i v hv
      split at hd
      · rename_i hf
        cases hd
        exact opOK_flat (fun cs b e => by have := hc.2; rw [e] at this; cases this) hc.1 hv hf
      · exact aMem_ok hd hr
    · exact aMem_ok hd hr
  · exact aMem_ok hd hr
end

/-! ### Numbers given anew -/
def renL (f : Value → Option Value) : List Value → Option (List Value)
  | [] => some []
  | v :: r => match f v, renL f r with
    | some v', some r' => some (v' :: r')
    | _, _ => none
def ren (r : Nat → Option Nat) : Nat → Value → Option Value
  | 0, v => if flat0 v then some v else none
  | n + 1, v =>
    match v with
    | .pointer (some ⟨b, o, none⟩) => (r b).map fun b' => .pointer (some ⟨b', o, none⟩)
    | .slice (some ⟨b, o, none⟩) l c => (r b).map fun b' => .slice (some ⟨b', o, none⟩) l c
    | .slice (some ⟨b, o, some 0⟩) l c => some (.slice (some ⟨0, 0, some 0⟩) l c)
    | .slice (some ⟨b, o, some 1⟩) l c => some (.slice (some ⟨0, 0, some 1⟩) l c)
    | .agg xs => (renL (ren r n) xs.toList).map fun ys => .agg ys.toArray
    | .tuple xs => (renL (ren r n) xs.toList).map fun ys => .tuple ys.toArray
    | .func fn f c => match renL (ren r n) f.toList, renL (ren r n) c.toList with
      | some f', some c' => some (.func fn f'.toArray c'.toArray)
      | _, _ => none
    | v => if flat0 v then some v else none

section
variable {D D' : Nat → Prop} {ρ ρ' : Nat → Pl} {r : Nat → Option Nat}
theorem renL_spec {f : Value → Option Value} : ∀ {l l' : List Value}, renL f l = some l' → l'.length = l.length ∧ ∀ (i : Nat) (v : Value), l[i]? = some v → ∃ v', l'[i]? = some v' ∧ f v = some v'
  | [], l', h => by simp only [renL, Option.some.injEq] at h; subst h; exact ⟨rfl, fun i v hv => by simp at hv⟩
  | v :: t, l', h => by
    simp only [renL] at h
    split at h
    · rename_i v' t' hv ht
      cases h
      obtain ⟨h1, h2⟩ := renL_spec ht
      refine ⟨by simp [h1], fun i x hx => ?_⟩
      cases i with
      | zero => simp only [List.getElem?_cons_zero, Option.some.injEq] at hx; subst hx; exact ⟨v', rfl, hv⟩
      | succ i => simpa using h2 i x (by simpa using hx)
    · cases h
theorem renL_vr {f : Value → Option Value} {xs ys : Array Value} {l' : List Value} (hl : renL f xs.toList = some l') (hs : xs.size = ys.size) (hg : ∀ i, VR D ρ (xs.getD i undef) (ys.getD i undef))
    (hf : ∀ v u v', VR D ρ v u → f v = some v' → VR D' ρ' v' u) : l'.toArray.size = ys.size ∧ ∀ i, VR D' ρ' (l'.toArray.getD i undef) (ys.getD i undef) := by
  obtain ⟨h1, h2⟩ := renL_spec hl
  have h1' : l'.length = xs.size := by simpa using h1
  refine ⟨by simpa [h1'] using hs, fun i => ?_⟩
  by_cases hi : i < xs.size
  · obtain ⟨v', hv', hfv⟩ := h2 i xs[i] (by simp [hi])
    obtain ⟨hi2, rfl⟩ := List.getElem?_eq_some_iff.1 hv'
    have := hg i
    simp only [Array.getD, hi, hs ▸ hi, dite_true, Array.getInternal_eq_getElem] at this
    simp only [Array.getD, List.size_toArray, hi2, hs ▸ hi, dite_true, Array.getInternal_eq_getElem, List.getElem_toArray]
    exact hf _ _ _ this hfv
  · simp only [Array.getD, List.size_toArray, show ¬ i < l'.length by omega, show ¬ i < ys.size by omega, dite_false]
    exact .und
theorem ren_vr (hr : ∀ b b', D b → r b = some b' → D' b' ∧ ρ' b' = ρ b) : ∀ (n : Nat) (v u v' : Value), VR D ρ v u → ren r n v = some v' → VR D' ρ' v' u := by
  intro n
  induction n with
  | zero =>
    intro v u v' hv hn
    simp only [ren] at hn
    split at hn
    · rename_i hf
      cases hn
      rw [hv.flat0_eq hf]
      exact .scal _ hf
    · cases hn
  | succ n ih =>
    intro v u v' hv hn
    unfold ren at hn
    split at hn
    · rename_i b o
      obtain ⟨b', hb', rfl⟩ := Option.map_eq_some_iff.1 hn
      obtain ⟨hD, rfl⟩ := hv.ptr_inv
      obtain ⟨h1, h2⟩ := hr b b' hD hb'
      rw [← h2]
      exact .ptr b' o h1
    · rename_i b o l c
      obtain ⟨b', hb', rfl⟩ := Option.map_eq_some_iff.1 hn
      obtain ⟨hD, cap', rfl, h3, h4, h5⟩ := hv.slice_inv
      obtain ⟨h1, h2⟩ := hr b b' hD hb'
      rw [← h2] at h4 h5 ⊢
      exact .slice b' o l c cap' h1 h3 h4 h5
    · cases hn
      obtain ⟨rfl, a, cap', rfl⟩ := hv.hollow_inv
      exact .hollow _ _ _ _ _
    · cases hn
      obtain ⟨rfl, rfl, a, rfl⟩ := hv.none0_inv
      exact .none0 _ _ _
    · rename_i xs
      obtain ⟨l', hl', rfl⟩ := Option.map_eq_some_iff.1 hn
      obtain ⟨ys, rfl, hs, hg⟩ := hv.agg_inv
      obtain ⟨h1, h2⟩ := renL_vr hl' hs hg (fun v u v' => ih v u v')
      exact .agg _ _ h1 h2
    · rename_i xs
      obtain ⟨l', hl', rfl⟩ := Option.map_eq_some_iff.1 hn
      obtain ⟨ys, rfl, hs, hg⟩ := hv.tuple_inv
      obtain ⟨h1, h2⟩ := renL_vr hl' hs hg (fun v u v' => ih v u v')
      exact .tuple _ _ h1 h2
    · rename_i fn f c
      split at hn
      · rename_i f' c' hf hc
        cases hn
        obtain ⟨g, k, rfl, s1, s2, g1, g2⟩ := hv.func_inv
        obtain ⟨h1, h2⟩ := renL_vr hf s1 g1 (fun v u v' => ih v u v')
        obtain ⟨h3, h4⟩ := renL_vr hc s2 g2 (fun v u v' => ih v u v')
        exact .func _ _ _ _ _ h1 h3 h2 h4
      · cases hn
    · split at hn
      · rename_i hf
        cases hn
        rw [hv.flat0_eq hf]
        exact .scal _ hf
      · cases hn
end

/-- A block's cells under their new numbers. -/
def renBlk (r : Nat → Option Nat) (k : ABlk) : Option ABlk :=
  if k.mode = 2 then some k
  else if k.cells.all flat0 then some k
  else match renL (ren r 3) k.cells with
    | some cs => some { k with cells := cs }
    | none => none
def renHeap (r : Nat → Option Nat) : Heap → Option Heap
  | [] => some []
  | (b, k) :: t => match r b with
    | none => renHeap r t
    | some b' => match renBlk r k, renHeap r t with
      | some k', some t' => some ((b', k') :: t')
      | _, _ => none
end Go.Proofs.Ytbmgigbcilgieaa
