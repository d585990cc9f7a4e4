/- The engine: a map that counts texts. -/
import Derived.Test.YtkdalfdfepipiaaX11
namespace Go.Proofs.Ytkdalfdfepipiaa
set_option linter.unusedSectionVars false
open Go.RowKit
set_option linter.unusedVariables false
variable [Inhabited RawG]
/-- The cells of a map from texts to counts. -/
def mapV : List (ByteArray × Int) → List Value
  | [] => []
  | t :: r => .string t.1 :: .int .i64 t.2 :: mapV r
/-- Its entries. -/
def entV : List (ByteArray × Int) → Nat → List MapEntry
  | [], _ => []
  | t :: r, n => ⟨.string t.1, .int .i64 t.2, n⟩ :: entV r (n + 1)
/-- Where a text lies in it, with its count. -/
def fndV (x : ByteArray) : List (ByteArray × Int) → Option (Nat × Int)
  | [] => none
  | t :: r => if x = t.1 then some (0, t.2) else (fndV x r).map fun p => (p.1 + 1, p.2)
theorem entL_mapV : ∀ (l : List (ByteArray × Int)) (n : Nat), entL (mapV l) n = entV l n
  | [], n => rfl
  | t :: r, n => by rw [mapV, entL, entL_mapV r (n + 1)]; rfl
theorem entV_len : ∀ (l : List (ByteArray × Int)) (n : Nat), (entV l n).length = l.length
  | [], n => rfl
  | t :: r, n => by rw [entV, List.length_cons, entV_len r, List.length_cons]
theorem entV_snoc : ∀ (l : List (ByteArray × Int)) (t : ByteArray × Int) (n : Nat), entV (l ++ [t]) n = entV l n ++ [⟨.string t.1, .int .i64 t.2, n + l.length⟩]
  | [], t, n => rfl
  | k :: r, t, n => by rw [List.cons_append, entV, entV_snoc r t (n + 1)]; simp [entV]; omega
theorem cellsOf_entV : ∀ (l : List (ByteArray × Int)) (n : Nat), cellsOf (entV l n) = mapV l
  | [], n => rfl
  | t :: r, n => by rw [entV, cellsOf, cellsOf_entV r]; rfl
theorem entV_get : ∀ (l : List (ByteArray × Int)) (n j : Nat) (t : ByteArray × Int), l[j]? = some t → (entV l n)[j]? = some ⟨.string t.1, .int .i64 t.2, n + j⟩
  | [], n, j, t, h => by simp at h
  | k :: r, n, 0, t, h => by simp at h; subst h; rfl
  | k :: r, n, j + 1, t, h => by
    simp only [entV, List.getElem?_cons_succ] at h ⊢
    rw [entV_get r (n + 1) j t h]
    congr 2
    omega
theorem entV_set : ∀ (l : List (ByteArray × Int)) (n j : Nat) (t : ByteArray × Int), (entV l n).modify j (fun e => { e with key := .string t.1, val := .int .i64 t.2 }) = entV (l.set j t) n
  | [], n, j, t => by simp [entV]
  | k :: r, n, 0, t => by simp [entV]
  | k :: r, n, j + 1, t => by
    simp only [entV, List.set_cons_succ, List.modify_succ_cons]
    rw [entV_set r (n + 1) j t]
theorem ba_eq (x k : ByteArray) : (x == k) = true ↔ x = k := by
  obtain ⟨a⟩ := x
  obtain ⟨b⟩ := k
  show (a == b) = true ↔ _
  simp
theorem ba_ne {x k : ByteArray} (h : x ≠ k) : (x == k) = false := by
  rw [← Bool.not_eq_true, ba_eq]; exact h
theorem find_entV (x : ByteArray) : ∀ (l : List (ByteArray × Int)) (n i : Nat), Instr.findNow .string (.string x) (entV l n) i = some ((fndV x l).map fun p => (i + p.1, .int .i64 p.2))
  | [], n, i => rfl
  | t :: r, n, i => by
    by_cases e : x = t.1
    · have h1 : (x == t.1) = true := (ba_eq _ _).2 e
      simp [entV, Instr.findNow, Instr.sameNow, fndV, e, (ba_eq t.1 t.1).2 rfl]
    · simp only [entV, Instr.findNow, Instr.sameNow, ba_ne e, fndV, if_neg e]
      rw [find_entV x r (n + 1) (i + 1)]
      cases fndV x r with
      | none => rfl
      | some p => simp; omega
theorem fndV_get {x : ByteArray} : ∀ {l : List (ByteArray × Int)} {j : Nat} {v : Int}, fndV x l = some (j, v) → l[j]? = some (x, v)
  | [], j, v, h => by cases h
  | t :: r, j, v, h => by
    unfold fndV at h
    split at h
    · rename_i e
      cases h
      simp [e]
    · obtain ⟨p, hp, he⟩ := Option.map_eq_some_iff.1 h
      cases he
      simpa using fndV_get (l := r) (j := p.1) (v := p.2) hp
theorem fndV_set {x : ByteArray} {w : Int} : ∀ {l : List (ByteArray × Int)} {j : Nat} {v : Int}, fndV x l = some (j, v) → fndV x (l.set j (x, w)) = some (j, w)
  | [], j, v, h => by cases h
  | t :: r, j, v, h => by
    unfold fndV at h
    split at h
    · rename_i e
      cases h
      simp [fndV]
    · rename_i e
      obtain ⟨p, hp, he⟩ := Option.map_eq_some_iff.1 h
      cases he
      simp only [List.set_cons_succ, fndV, if_neg e]
      rw [fndV_set (l := r) (j := p.1) (v := p.2) hp]
      rfl
theorem fndV_snoc {x : ByteArray} {w : Int} : ∀ {l : List (ByteArray × Int)}, fndV x l = none → fndV x (l ++ [(x, w)]) = some (l.length, w)
  | [], h => by simp [fndV]
  | t :: r, h => by
    unfold fndV at h
    split at h
    · cases h
    · rename_i e
      simp only [List.cons_append, fndV, if_neg e, List.length_cons]
      rw [fndV_snoc (l := r) (by simpa using h)]
      rfl
section
variable {P : Program} {ev : Operand → Value} {H : Heap}
theorem peval_bind {α β : Type} {s : Sem α} {f : α → Sem β} {a : α} (h : peval P s = some a) : peval P (s.bind f) = peval P (f a) := by
  induction s with
  | pure b => simp only [peval, Option.some.injEq] at h; subst h; rfl
  | program k ih => simp only [peval] at h; simp only [Sem.bind, peval]; exact ih _ h
  | mark m k ih => simp only [peval] at h; simp only [Sem.bind, peval]; exact ih h
  | _ => simp [peval] at h
theorem findK {kt : TypeId} {l : List (ByteArray × Int)} {x : ByteArray} (hk : peval P (underlying kt) = some .string) : peval P (Instr.findKey kt (.string x) (entL (mapV l) 0)) = some ((fndV x l).map fun p => (p.1, .int .i64 p.2)) := by
  unfold Instr.findKey
  refine (peval_bind hk).trans ?_
  rw [entL_mapV, find_entV]
  simp only [Nat.zero_add]
  rfl
/-- What is known of the map's type. -/
structure MapT (P : Program) (t kt el : TypeId) : Prop where
  u : peval P (underlying t) = some (.map kt el)
  k : peval P (underlying kt) = some .string
  c : ∀ e x, peval P (Instr.checkKey e 10000 kt (.string x)) = some ()
  z : peval P (zeroValue el) = some (.int .i64 0)
variable {t kt el tb : TypeId} {m k y : Operand} {b : Nat} {x : ByteArray} {l : List (ByteArray × Int)}
theorem lookV (hT : MapT P t kt el) (hm : ev m = .map (some b)) (hk : ev k = .string x) (hH : hget H b = some ⟨tb, mapV l, 4⟩) : aLookup P ev H t m k false = some ⟨.int .i64 (((fndV x l).map (·.2)).getD 0), [b], [], []⟩ := by
  unfold aLookup
  rw [hm]
  simp only [hH, hT.u, hk, hT.c, findK hT.k]
  cases fndV x l with
  | none => simp [flat0, hT.z]
  | some p => simp [flat0]
theorem updV_new (hT : MapT P t kt el) (hm : ev m = .map (some b)) (hk : ev k = .string x) (hH : hget H b = some ⟨tb, mapV l, 4⟩) {v : Int} (hy : ev y = .int .i64 v) (hf : fndV x l = none) : aMapUpdate P ev H t m k y = some ⟨undef, [b], [(b, some ⟨tb, mapV (l ++ [(x, v)]), 4⟩)], []⟩ := by
  unfold aMapUpdate
  rw [hm]
  simp only [hH, hT.u, hk, hT.c, findK hT.k, hf, hy]
  rw [entL_mapV, entV_len, ← cellsOf_entV (l ++ [(x, v)]) 0, entV_snoc]
  simp [flat0]
theorem updV_old (hT : MapT P t kt el) (hm : ev m = .map (some b)) (hk : ev k = .string x) (hH : hget H b = some ⟨tb, mapV l, 4⟩) {v w : Int} {j : Nat} (hy : ev y = .int .i64 v) (hf : fndV x l = some (j, w)) : aMapUpdate P ev H t m k y = some ⟨undef, [b], [(b, some ⟨tb, mapV (l.set j (x, v)), 4⟩)], []⟩ := by
  have hg := entV_get l 0 j _ (fndV_get hf)
  have hs : peval P (Instr.keyThatStays (.string x) (.string x)) = some (.string x) := by
    unfold Instr.keyThatStays
    have : Instr.sameBits 10000 (.string x) (.string x) = true := (ba_eq x x).2 rfl
    rw [this]; rfl
  unfold aMapUpdate
  rw [hm]
  simp only [hH, hT.u, hk, hT.c, findK hT.k, hf, hy, Option.map_some]
  rw [entL_mapV, hg]
  simp only [Option.map_some, Option.getD_some, hs, entV_set l 0 j (x, v), cellsOf_entV]
  simp [flat0]
end
end Go.Proofs.Ytkdalfdfepipiaa
