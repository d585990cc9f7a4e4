/-
  The engine, eighth part: all operations but calls; numbers of blocks given anew.
-/
import Derived.Test.YtkdalfdfepipiaaXM
namespace Go.Proofs.Ytkdalfdfepipiaa
set_option linter.unusedSectionVars false
open Go.RowKit
set_option linter.unusedVariables false
variable [Inhabited RawG]

/-! ### Structs compared -/
def eqFs (P : Program) (eq : TypeId → Value → Value → Option Bool) (xs ys : Array Value) : List Field → Option Bool
  | [] => some true
  | f :: r =>
    if f.name = "_" then eqFs P eq xs ys r
    else match peval P (part f.type xs f.offset), peval P (part f.type ys f.offset) with
      | some u, some v => match eq f.type u v, eqFs P eq xs ys r with
        | some b, some c => some (b && c)
        | _, _ => none
      | _, _ => none
def eqS (P : Program) : Nat → TypeId → Value → Value → Option Bool
  | 0, _, _, _ => none
  | d + 1, t, x, y =>
    match P.underlying t, x, y with
    | some .bool, .bool a, .bool b => some (a == b)
    | some (.int _), .int k a, .int k' b => if k = k' then some (a == b) else none
    | some .string, .string a, .string b => some (a == b)
    | some (.float _), .float k a, .float k' b => if k = k' then some (Op.floatEq k a b) else none
    | some (.struct fs), .agg xs, .agg ys => if P.stoodInHeld t = true then none else eqFs P (eqS P d) xs ys fs.toList
    | _, _, _ => none
theorem eqFs_spec {P : Program} {d : Nat} {eq : TypeId → Value → Value → Option Bool} (he : ∀ t x y b, eq t x y = some b → ∀ w, (Op.equalIn d t x y).run P w = .ok b w) {xs ys : Array Value} (w : World) :
    ∀ (l : List Field) (b : Bool), eqFs P eq xs ys l = some b →
      (forIn l ((none, ()) : Option Bool × PUnit) (fun f r => do
        if f.name ≠ "_" then
          if !(← Op.equalIn d f.type (← part f.type xs f.offset) (← part f.type ys f.offset)) then return ForInStep.done (some false, ())
          else pure (ForInStep.yield (none, ()))
        else pure (ForInStep.yield (none, ()))) : Sem (Option Bool × PUnit)).run P w = .ok (if b = true then (none, ()) else (some false, ())) w
  | [], b, h => by cases h; simp
  | f :: r, b, h => by
    simp only [eqFs] at h
    rw [List.forIn_cons]
    split at h
    · rename_i hn
      have := eqFs_spec he w r b h
      simp only [hn, ne_eq, not_true_eq_false, if_false, pure_bind]
      exact this
    · rename_i hn
      split at h
      case h_2 => cases h
      rename_i u v hu hv
      split at h
      case h_2 => cases h
      rename_i b1 c1 hb hc
      cases h
      have := eqFs_spec he w r c1 hc
      simp only [hn, ne_eq, not_false_eq_true, if_true, bind_assoc, Sem.run_bind, run_of_peval hu w, run_of_peval hv w, Result.andThen_ok, he _ _ _ _ hb w]
      cases b1 with
      | false => simp
      | true => simpa using this
theorem eqS_spec {P : Program} (k : Nat) : ∀ (d : Nat) (t : TypeId) (x y : Value) (b : Bool), eqS P d t x y = some b → ∀ w, (Op.equalIn (d + k) t x y).run P w = .ok b w
  | 0, _, _, _, _, h, _ => by cases h
  | d + 1, t, x, y, b, h, w => by
    rw [Nat.add_right_comm]
    unfold eqS at h
    unfold Op.equalIn
    split at h
    · rename_i a c hu; cases h; simp [Sem.run_bind, run_underlying hu w]
    · rename_i k a k' c hu
      split at h
      · rename_i hk; subst hk; cases h; simp [Sem.run_bind, run_underlying hu w]
      · cases h
    · rename_i a c hu; cases h; simp [Sem.run_bind, run_underlying hu w]
    · rename_i k a k' c hu
      split at h
      · rename_i hk; subst hk; cases h; simp [Sem.run_bind, run_underlying hu w]
      · cases h
    · rename_i fs xs ys hu
      split at h
      · cases h
      rename_i hst
      have := eqFs_spec (eqS_spec k d) w fs.toList b h
      simp only [Sem.run_bind, run_underlying hu w, Result.andThen_ok, program, Sem.run, hst]
      rw [← Array.forIn_toList]
      rw [if_neg (by simp)]
      simp only [Sem.run_bind]
      rw [this]
      cases b <;> simp [Sem.run]
    · cases h
theorem eqS_deep {P : Program} {d n : Nat} (hn : d ≤ n) {t : TypeId} {x y : Value} {b : Bool} (h : eqS P d t x y = some b) (w : World) : (Op.equalIn n t x y).run P w = .ok b w := by
  have := eqS_spec (n - d) d t x y b h w
  rwa [Nat.add_sub_cancel' hn] at this
def aEq (P : Program) (ev : Operand → Value) (op : BinOp) (t : TypeId) (x y : Operand) : Option Did :=
  match ev x, ev y with
  | .agg xs, .agg ys =>
    if flat1 (.agg xs) = true ∧ flat1 (.agg ys) = true ∧ P.eqGuardType P.depth t = false then
      match eqS P 20 t (.agg xs) (.agg ys) with
      | some b => match op with
        | .eql => some ⟨.bool b, [], [], []⟩
        | .neq => some ⟨.bool (!b), [], [], []⟩
        | _ => none
      | none => none
    else none
  | _, _ => none
theorem aEq_ok {P : Program} {h : HF} {o : Oper} {ev : Operand → Value} {d : Did} {op : BinOp} {t yt : TypeId} {x y : Operand} (ho : o.op = .binOp op t x y yt) (hd : aEq P ev op t x y = some d) : OpOK P o ev h d := by
  unfold aEq at hd
  split at hd
  case h_2 => cases hd
  rename_i xs ys hx hy
  split at hd
  case isFalse => cases hd
  rename_i hc
  obtain ⟨f1, f2, hg⟩ := hc
  split at hd
  case h_2 => cases hd
  rename_i b hb
  have key : ∀ (D : Nat → Prop) (ρ : Nat → Pl) (w : World) (a : Act), (∀ x ∈ o.op.operands, VR D ρ (ev x) (a.eval x)) →
      a.eval x = .agg xs ∧ a.eval y = .agg ys ∧ (eqGuard op t x y (.agg xs) (.agg ys)).run P w = .ok () w ∧ (Op.equal t (.agg xs) (.agg ys)).run P w = .ok b w := by
    intro D ρ w a hv
    have h1 := hv x (by simp [ho, Op.operands])
    have h2 := hv y (by simp [ho, Op.operands])
    rw [hx] at h1
    rw [hy] at h2
    refine ⟨h1.flat1_eq f1, h2.flat1_eq f2, ?_, ?_⟩
    · unfold eqGuard
      cases op <;> simp [Sem.run_bind, program, Sem.run, hg]
    · exact eqS_deep (by decide : 20 ≤ 10000) hb w
  split at hd
  · cases hd
    refine opOK_still fun D ρ w a hv hw => ⟨.bool b, ?_, .scal _ rfl⟩
    obtain ⟨e1, e2, e3, e4⟩ := key D ρ w a hv
    have h3 : binOp .eql t (.agg xs) (.agg ys) = (do pure (.bool (← Op.equal t (.agg xs) (.agg ys)))) := rfl
    simp [execOp, ho, e1, e2, Sem.run_bind, e3, h3, e4]
  · cases hd
    refine opOK_still fun D ρ w a hv hw => ⟨.bool (!b), ?_, .scal _ rfl⟩
    obtain ⟨e1, e2, e3, e4⟩ := key D ρ w a hv
    have h3 : binOp .neq t (.agg xs) (.agg ys) = (do pure (.bool (!(← Op.equal t (.agg xs) (.agg ys))))) := rfl
    simp [execOp, ho, e1, e2, Sem.run_bind, e3, h3, e4]
  · cases hd

def aMem (P : Program) (ev : Operand → Value) (H : Heap) (o : Oper) (nid : Nat) : Option Did :=
  match o.op with
  | .load t x => aLoad P ev H t x
  | .store t x y => aStore P ev H t x y
  | .alloc t => aAlloc P t nid
  | .box t x => aBox ev t x nid
  | .move x => some ⟨ev x, [], [], []⟩
  | .assign x => some ⟨ev x, [], [], []⟩
  | .pick c x y => aPick ev c x y
  | .nilCheck x => aNilCheck ev x
  | .fieldAddr s x f => aFieldAddr P ev s x f
  | .indexAddr t x ix => aIndexAddr P ev t x ix
  | .extract x i => aExtract ev x i
  | .field t x f => aField P ev t x f
  | .makeMap t none => some ⟨.map (some nid), [], [(nid, some ⟨t, [], 4⟩)], [nid]⟩
  | .mapEntry t m k => aMapEntry P ev H t m k
  | .entryStore t m s x => aEntryStore P ev H t m s x
  | .mapUpdate t m k x => aMapUpdate P ev H t m k x
  | .lookup t m k c => aLookup P ev H t m k c
  | .makeFunc fn f c => some ⟨.func fn (f.map ev) (c.map ev), [], [], []⟩
  | .slice t x lo hi mx => aSlice P ev H t x lo hi mx
  | .build t parts => aBuild P ev t parts
  | .buildSlice t len parts => aBuildSlice P ev t len parts nid
  | .makeSlice t l c => aMakeSlice P ev t l c nid
  | .binOp op t x y _ => match aNil P ev op t x y with
    | some d => some d
    | none => aEq P ev op t x y
  | .convert src dst x => aConvert P ev H src dst x nid
  | .call { callee := .builtin .len, args := ⟨[x]⟩, argTypes := ⟨[t]⟩ } => aLen P ev t x
  | .call { callee := .builtin .clear, args := ⟨[x]⟩, argTypes := ⟨[t]⟩ } => aClear P ev H t x
  | .call { callee := .builtin .append, args := ⟨[s, x]⟩, argTypes := ⟨[t, tx]⟩ } => aAppend P ev H t tx s x nid
  | _ => none
def isSelect : Op → Bool
  | .select .. => true
  | _ => false
def isAggOp (ev : Operand → Value) : Op → Bool
  | .binOp _ _ x _ _ => match ev x with
    | .agg _ => true
    | _ => false
  | _ => false
def aOpM (P : Program) (ev : Operand → Value) (H : Heap) (o : Oper) (nid : Nat) : Option Did :=
  if isAggOp ev o.op = true then aMem P ev H o nid
  else if (o.op.operands.all fun x => flat (ev x)) = true ∧ isSelect o.op = false then
    match peval P (execOp ev o) with
    | some (.value v) => if flat v = true then some ⟨v, [], [], []⟩ else aMem P ev H o nid
    | _ => aMem P ev H o nid
  else aMem P ev H o nid

section
variable {P : Program} {h : HF} {o : Oper} {ev : Operand → Value} {H : Heap} {d : Did} {nid : Nat}
theorem aMem_ok (hd : aMem P ev H o nid = some d) (hr : ∀ b ∈ d.rd, h b = hget H b) : OpOK P o ev h d := by
  unfold aMem at hd
  split at hd
  · rename_i ho; exact aLoad_ok ho hd hr
  · rename_i ho; exact aStore_ok ho hd hr
  · rename_i ho; exact aAlloc_ok ho hd
  · rename_i ho; exact aBox_ok ho hd
  · rename_i ho; cases hd; exact aMove_ok (.inl ho)
  · rename_i ho; cases hd; exact aMove_ok (.inr ho)
  · rename_i ho; exact aPick_ok ho hd
  · rename_i ho; exact aNilCheck_ok ho hd
  · rename_i ho; exact aFieldAddr_ok ho hd
  · rename_i ho; exact aIndexAddr_ok ho hd
  · rename_i ho; exact aExtract_ok ho hd
  · rename_i ho; exact aField_ok ho hd
  · rename_i ho; cases hd; exact aMakeMap_ok ho
  · rename_i ho; exact aMapEntry_ok ho hd hr
  · rename_i ho; exact aEntryStore_ok ho hd hr
  · rename_i ho; exact aMapUpdate_ok ho hd hr
  · rename_i ho; exact aLookup_ok ho hd hr
  · rename_i ho; cases hd; exact aMakeFunc_ok ho
  · rename_i ho; exact aSlice_ok ho hd hr
  · rename_i ho; exact aBuild_ok ho hd
  · rename_i ho; exact aBuildSlice_ok ho hd
  · rename_i ho; exact aMakeSlice_ok ho hd
  · rename_i ho
    split at hd
    · rename_i d0 hd0; cases hd; exact aNil_ok ho hd0
    · exact aEq_ok ho hd
  · rename_i ho; exact aConvert_ok ho hd hr
  · rename_i ho; exact aLen_ok ho hd
  · rename_i ho; exact aClear_ok ho hd hr
  · rename_i ho; exact aAppend_ok ho hd hr
  · cases hd
theorem aOpM_ok (hd : aOpM P ev H o nid = some d) (hr : ∀ b ∈ d.rd, h b = hget H b) : OpOK P o ev h d := by
  unfold aOpM at hd
  split at hd
  · exact aMem_ok hd hr
  split at hd
  · rename_i hc
    split at hd
    · rename_i v hv
      split at hd
      · rename_i hf
        cases hd
        exact opOK_flat (fun cs b e => by have := hc.2; rw [e] at this; cases this) hc.1 hv hf
      · exact aMem_ok hd hr
    · exact aMem_ok hd hr
  · exact aMem_ok hd hr
end

/-! ### Numbers given anew -/
def renL (f : Value → Option Value) : List Value → Option (List Value)
  | [] => some []
  | v :: r => match f v, renL f r with
    | some v', some r' => some (v' :: r')
    | _, _ => none
def ren (r : Nat → Option Nat) : Nat → Value → Option Value
  | 0, v => if flat0 v then some v else none
  | n + 1, v =>
    match v with
    | .pointer (some ⟨b, o, none⟩) => (r b).map fun b' => .pointer (some ⟨b', o, none⟩)
    | .slice (some ⟨b, o, none⟩) l c => (r b).map fun b' => .slice (some ⟨b', o, none⟩) l c
    | .slice (some ⟨b, o, some 0⟩) l c => some (.slice (some ⟨0, 0, some 0⟩) l c)
    | .slice (some ⟨b, o, some 1⟩) l c => some (.slice (some ⟨0, 0, some 1⟩) l c)
    | .slice (some ⟨b, o, some 2⟩) l c => some (.slice (some ⟨b, o, some 2⟩) l c)
    | .pointer (some ⟨b, o, some 2⟩) => some (.pointer (some ⟨b, o, some 2⟩))
    | .map (some b) => (r b).map fun b' => .map (some b')
    | .agg xs => (renL (ren r n) xs.toList).map fun ys => .agg ys.toArray
    | .tuple xs => (renL (ren r n) xs.toList).map fun ys => .tuple ys.toArray
    | .func fn f c => match renL (ren r n) f.toList, renL (ren r n) c.toList with
      | some f', some c' => some (.func fn f'.toArray c'.toArray)
      | _, _ => none
    | v => if flat0 v then some v else none

section
variable {D D' : Nat → Prop} {ρ ρ' : Nat → Pl} {r : Nat → Option Nat}
theorem renL_spec {f : Value → Option Value} : ∀ {l l' : List Value}, renL f l = some l' → l'.length = l.length ∧ ∀ (i : Nat) (v : Value), l[i]? = some v → ∃ v', l'[i]? = some v' ∧ f v = some v'
  | [], l', h => by simp only [renL, Option.some.injEq] at h; subst h; exact ⟨rfl, fun i v hv => by simp at hv⟩
  | v :: t, l', h => by
    simp only [renL] at h
    split at h
    · rename_i v' t' hv ht
      cases h
      obtain ⟨h1, h2⟩ := renL_spec ht
      refine ⟨by simp [h1], fun i x hx => ?_⟩
      cases i with
      | zero => simp only [List.getElem?_cons_zero, Option.some.injEq] at hx; subst hx; exact ⟨v', rfl, hv⟩
      | succ i => simpa using h2 i x (by simpa using hx)
    · cases h
theorem renL_vr {f : Value → Option Value} {xs ys : Array Value} {l' : List Value} (hl : renL f xs.toList = some l') (hs : xs.size = ys.size) (hg : ∀ i, VR D ρ (xs.getD i undef) (ys.getD i undef))
    (hf : ∀ v u v', VR D ρ v u → f v = some v' → VR D' ρ' v' u) : l'.toArray.size = ys.size ∧ ∀ i, VR D' ρ' (l'.toArray.getD i undef) (ys.getD i undef) := by
  obtain ⟨h1, h2⟩ := renL_spec hl
  have h1' : l'.length = xs.size := by simpa using h1
  refine ⟨by simpa [h1'] using hs, fun i => ?_⟩
  by_cases hi : i < xs.size
  · obtain ⟨v', hv', hfv⟩ := h2 i xs[i] (by simp [hi])
    obtain ⟨hi2, rfl⟩ := List.getElem?_eq_some_iff.1 hv'
    have := hg i
    simp only [Array.getD, hi, hs ▸ hi, dite_true, Array.getInternal_eq_getElem] at this
    simp only [Array.getD, List.size_toArray, hi2, hs ▸ hi, dite_true, Array.getInternal_eq_getElem, List.getElem_toArray]
    exact hf _ _ _ this hfv
  · simp only [Array.getD, List.size_toArray, show ¬ i < l'.length by omega, show ¬ i < ys.size by omega, dite_false]
    exact .und
theorem ren_vr (hr : ∀ b b', D b → r b = some b' → D' b' ∧ ρ' b' = ρ b) : ∀ (n : Nat) (v u v' : Value), VR D ρ v u → ren r n v = some v' → VR D' ρ' v' u := by
  intro n
  induction n with
  | zero =>
    intro v u v' hv hn
    simp only [ren] at hn
    split at hn
    · rename_i hf
      cases hn
      rw [hv.flat0_eq hf]
      exact .scal _ hf
    · cases hn
  | succ n ih =>
    intro v u v' hv hn
    unfold ren at hn
    split at hn
    · rename_i b o
      obtain ⟨b', hb', rfl⟩ := Option.map_eq_some_iff.1 hn
      obtain ⟨hD, rfl⟩ := hv.ptr_inv
      obtain ⟨h1, h2⟩ := hr b b' hD hb'
      rw [← h2]
      exact .ptr b' o h1
    · rename_i b o l c
      obtain ⟨b', hb', rfl⟩ := Option.map_eq_some_iff.1 hn
      obtain ⟨hD, cap', rfl, h3, h4, h5⟩ := hv.slice_inv
      obtain ⟨h1, h2⟩ := hr b b' hD hb'
      rw [← h2] at h4 h5 ⊢
      exact .slice b' o l c cap' h1 h3 h4 h5
    · cases hn
      obtain ⟨rfl, a, cap', rfl⟩ := hv.hollow_inv
      exact .hollow _ _ _ _ _
    · cases hn
      obtain ⟨rfl, rfl, a, rfl⟩ := hv.none0_inv
      exact .none0 _ _ _
    · cases hn
      obtain ⟨h1, rfl, rfl⟩ := hv.opq_inv
      exact .opq _ _ _ h1
    · cases hn
      obtain ⟨a, ha, rfl⟩ := hv.opp_inv
      exact .opp _ _ a ha
    · rename_i b
      obtain ⟨b', hb', rfl⟩ := Option.map_eq_some_iff.1 hn
      obtain ⟨hD, rfl⟩ := hv.map_inv
      obtain ⟨h1, h2⟩ := hr b b' hD hb'
      rw [← h2]
      exact .map b' h1
    · rename_i xs
      obtain ⟨l', hl', rfl⟩ := Option.map_eq_some_iff.1 hn
      obtain ⟨ys, rfl, hs, hg⟩ := hv.agg_inv
      obtain ⟨h1, h2⟩ := renL_vr hl' hs hg (fun v u v' => ih v u v')
      exact .agg _ _ h1 h2
    · rename_i xs
      obtain ⟨l', hl', rfl⟩ := Option.map_eq_some_iff.1 hn
      obtain ⟨ys, rfl, hs, hg⟩ := hv.tuple_inv
      obtain ⟨h1, h2⟩ := renL_vr hl' hs hg (fun v u v' => ih v u v')
      exact .tuple _ _ h1 h2
    · rename_i fn f c
      split at hn
      · rename_i f' c' hf hc
        cases hn
        obtain ⟨g, k, rfl, s1, s2, g1, g2⟩ := hv.func_inv
        obtain ⟨h1, h2⟩ := renL_vr hf s1 g1 (fun v u v' => ih v u v')
        obtain ⟨h3, h4⟩ := renL_vr hc s2 g2 (fun v u v' => ih v u v')
        exact .func _ _ _ _ _ h1 h3 h2 h4
      · cases hn
    · split at hn
      · rename_i hf
        cases hn
        rw [hv.flat0_eq hf]
        exact .scal _ hf
      · cases hn
end

/-- A block's cells under their new numbers. -/
def renBlk (r : Nat → Option Nat) (k : ABlk) : Option ABlk :=
  if k.mode = 2 ∨ k.mode = 3 ∨ k.mode = 4 then some k
  else if k.cells.all flat0 then some k
  else match renL (ren r 3) k.cells with
    | some cs => some { k with cells := cs }
    | none => none
def renHeap (r : Nat → Option Nat) : Heap → Option Heap
  | [] => some []
  | (b, k) :: t => match r b with
    | none => renHeap r t
    | some b' => match renBlk r k, renHeap r t with
      | some k', some t' => some ((b', k') :: t')
      | _, _ => none
end Go.Proofs.Ytkdalfdfepipiaa
