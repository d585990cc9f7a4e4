/-
  An engine that carries a program's text out on values whose addresses are numbers of its own; first part: what such a value, such a heap says of a world.
-/
import Derived.Below
import Derived.Laws.OwnMore
import Derived.Deep.MidRow
import Derived.ArgAppend
import Derived.WalkKit
import Derived.KernelRfl
import Derived.Orders
namespace Go.Proofs.Ytkdalfdfepipiaa
set_option linter.unusedSectionVars false
open Go.RowKit
set_option linter.unusedVariables false

/-- Slices that came in, of which nothing is asked but what their cells say: where each lies, how long it is, what its cells are for the engine. The engine names slice i by the address (i, 0, some 2). -/
structure RawG where
  adr : Nat → Option Addr
  len : Nat → Nat
  cap : Nat → Nat
  cells : Nat → List Value
instance : Inhabited RawG := ⟨⟨fun _ => none, fun _ => 0, fun _ => 0, fun _ => []⟩⟩
def rg [Inhabited RawG] : RawG := default

/-- Where a block of the engine's lies: block, offset, and (of a row that grew) how many elements it bears. -/
structure Pl where
  blk : Nat
  off : Nat
  cap : Option Nat
  deriving Inhabited

def flat0 : Value → Bool
  | .bool _ | .int _ _ | .float _ _ | .complex _ _ _ | .string _ | .pointer none | .slice none _ _ | .map none | .chan none | .nilFunc | .nilIface => true
  | .func _ f c => f.isEmpty && c.isEmpty
  | .tuple vs => vs.isEmpty
  | .agg vs => vs.isEmpty
  | _ => false
/-- Plain data, or a slice that came in. -/
def clo0 (v : Value) : Bool :=
  match v with
  | .slice (some ⟨_, 0, some 2⟩) _ _ => true
  | v => flat0 v
theorem clo0_of {v : Value} (h : flat0 v = true) : clo0 v = true := by
  unfold clo0
  split
  · rfl
  · exact h
theorem clo0_cases {v : Value} (h : clo0 v = true) : flat0 v = true ∨ ∃ i n c, v = .slice (some ⟨i, 0, some 2⟩) n c := by
  unfold clo0 at h
  split at h
  · exact .inr ⟨_, _, _, rfl⟩
  · exact .inl h
def flat1 : Value → Bool
  | .agg cs => cs.all flat0
  | v => flat0 v
def flat : Value → Bool
  | .tuple vs => vs.all flat1
  | v => flat1 v

section
variable [Inhabited RawG]
inductive VR (D : Nat → Prop) (ρ : Nat → Pl) : Value → Value → Prop
  | scal (v : Value) (h : flat0 v = true) : VR D ρ v v
  | ptr (b o : Nat) (hb : D b) : VR D ρ (.pointer (some ⟨b, o, none⟩)) (.pointer (some ⟨(ρ b).blk, (ρ b).off + o, none⟩))
  | slice (b o len cap cap' : Nat) (hb : D b) (hl : len ≤ cap') (hn : (ρ b).cap = none → cap' = cap) (hg : ∀ c, (ρ b).cap = some c → o = 0 → cap' = c) :
      VR D ρ (.slice (some ⟨b, o, none⟩) len cap) (.slice (some ⟨(ρ b).blk, (ρ b).off + o, none⟩) len cap')
  | hollow (b o cap : Nat) (a : Addr) (cap' : Nat) : VR D ρ (.slice (some ⟨b, o, some 0⟩) 0 cap) (.slice (some a) 0 cap')
  | none0 (b o : Nat) (a : Addr) : VR D ρ (.slice (some ⟨b, o, some 1⟩) 0 0) (.slice (some a) 0 0)
  | map (b : Nat) (hb : D b) : VR D ρ (.map (some b)) (.map (some (ρ b).blk))
  | opq (i n c : Nat) (h : rg.len i = n) : VR D ρ (.slice (some ⟨i, 0, some 2⟩) n c) (.slice (rg.adr i) n (rg.cap i))
  | opp (i o : Nat) (a : Addr) (ha : rg.adr i = some a) : VR D ρ (.pointer (some ⟨i, o, some 2⟩)) (.pointer (some ⟨a.block, a.off + o, none⟩))
  | agg (xs ys : Array Value) (hs : xs.size = ys.size) (h : ∀ i, VR D ρ (xs.getD i undef) (ys.getD i undef)) : VR D ρ (.agg xs) (.agg ys)
  | tuple (xs ys : Array Value) (hs : xs.size = ys.size) (h : ∀ i, VR D ρ (xs.getD i undef) (ys.getD i undef)) : VR D ρ (.tuple xs) (.tuple ys)
  | func (fn : Fn) (f f' c c' : Array Value) (hf : f.size = f'.size) (hc : c.size = c'.size) (h : ∀ i, VR D ρ (f.getD i undef) (f'.getD i undef)) (g : ∀ i, VR D ρ (c.getD i undef) (c'.getD i undef)) :
      VR D ρ (.func fn f c) (.func fn f' c')

section
variable {D D' : Nat → Prop} {ρ ρ' : Nat → Pl}
theorem VR.und : VR D ρ undef undef := .scal _ rfl
theorem VR.mono {v u : Value} (h : VR D ρ v u) (hD : ∀ b, D b → D' b) (hρ : ∀ b, D b → ρ' b = ρ b) : VR D' ρ' v u := by
  induction h with
  | scal v h => exact .scal v h
  | ptr b o hb => rw [← hρ b hb]; exact .ptr b o (hD b hb)
  | slice b o len cap cap' hb hl hn hg => rw [← hρ b hb] at *; exact .slice b o len cap cap' (hD b hb) hl hn hg
  | hollow b o cap a cap' => exact .hollow b o cap a cap'
  | none0 b o a => exact .none0 b o a
  | opq i n c h => exact .opq i n c h
  | opp i o a ha => exact .opp i o a ha
  | map b hb => rw [← hρ b hb]; exact .map b (hD b hb)
  | agg xs ys hs _ ih => exact .agg xs ys hs ih
  | tuple xs ys hs _ ih => exact .tuple xs ys hs ih
  | func fn f f' c c' hf hc _ _ ih ih' => exact .func fn f f' c c' hf hc ih ih'
theorem VR.flat0_eq {v u : Value} (h : VR D ρ v u) (hf : flat0 v = true) : u = v := by
  cases h with
  | scal => rfl
  | ptr => simp [flat0] at hf
  | slice => simp [flat0] at hf
  | hollow => simp [flat0] at hf
  | none0 => simp [flat0] at hf
  | opq => simp [flat0] at hf
  | opp => simp [flat0] at hf
  | map => simp [flat0] at hf
  | agg xs ys hs h => simp only [flat0, Array.isEmpty_iff_size_eq_zero] at hf; rw [Array.eq_empty_of_size_eq_zero hf, Array.eq_empty_of_size_eq_zero (show ys.size = 0 by omega)]
  | tuple xs ys hs h => simp only [flat0, Array.isEmpty_iff_size_eq_zero] at hf; rw [Array.eq_empty_of_size_eq_zero hf, Array.eq_empty_of_size_eq_zero (show ys.size = 0 by omega)]
  | func fn f f' c c' hs hc h g =>
    simp only [flat0, Array.isEmpty_iff_size_eq_zero, Bool.and_eq_true] at hf
    rw [Array.eq_empty_of_size_eq_zero hf.1, Array.eq_empty_of_size_eq_zero (show f'.size = 0 by omega), Array.eq_empty_of_size_eq_zero hf.2, Array.eq_empty_of_size_eq_zero (show c'.size = 0 by omega)]
theorem arr_eq {xs ys : Array Value} (hs : xs.size = ys.size) (h : ∀ i, ys.getD i undef = xs.getD i undef) : ys = xs := by
  apply Array.ext hs.symm
  intro i h1 h2
  have := h i
  simpa [Array.getD, h1, h2] using this
theorem all_getD {p : Value → Bool} {xs : Array Value} (h : xs.all p = true) (hu : p undef = true) (i : Nat) : p (xs.getD i undef) = true := by
  by_cases hi : i < xs.size
  · simp only [Array.getD, hi, dite_true]
    exact (Array.all_eq_true.1 h) i hi
  · simp [Array.getD, hi, hu]
theorem VR.flat1_eq {v u : Value} (h : VR D ρ v u) (hf : flat1 v = true) : u = v := by
  cases v with
  | agg xs =>
    simp only [flat1] at hf
    cases h with
    | scal => rfl
    | agg _ ys hs h => exact congrArg _ (arr_eq hs fun i => (h i).flat0_eq (all_getD hf rfl i))
  | _ => exact h.flat0_eq hf
theorem VR.flat_eq {v u : Value} (h : VR D ρ v u) (hf : flat v = true) : u = v := by
  cases v with
  | tuple xs =>
    simp only [flat] at hf
    cases h with
    | scal => rfl
    | tuple _ ys hs h => exact congrArg _ (arr_eq hs fun i => (h i).flat1_eq (all_getD hf rfl i))
  | _ => exact h.flat1_eq hf
theorem VR.of_flat1 {v : Value} (hf : flat1 v = true) : VR D ρ v v := by
  cases v with
  | agg xs => exact .agg xs xs rfl fun i => .scal _ (all_getD hf rfl i)
  | _ => exact .scal _ hf
theorem VR.of_flat {v : Value} (hf : flat v = true) : VR D ρ v v := by
  cases v with
  | tuple xs => exact .tuple xs xs rfl fun i => .of_flat1 (all_getD hf rfl i)
  | _ => exact .of_flat1 hf
theorem VR.one {v u : Value} (h : VR D ρ v u) (hv : v.oneCell' = true) : u.oneCell' = true := by
  cases h <;> first | exact hv | rfl | (simp [Value.oneCell'] at hv)
theorem VR.get? {xs ys : Array Value} (hs : xs.size = ys.size) (h : ∀ i, VR D ρ (xs.getD i undef) (ys.getD i undef)) {i : Nat} {v : Value} (hv : xs[i]? = some v) : ∃ u, ys[i]? = some u ∧ VR D ρ v u := by
  obtain ⟨hi, rfl⟩ := Array.getElem?_eq_some_iff.1 hv
  refine ⟨ys[i], by simp [hs ▸ hi], ?_⟩
  have := h i
  simpa [Array.getD, hi, hs ▸ hi] using this
/-- The cells of a value. -/
theorem VR.cells {v u : Value} (h : VR D ρ v u) : v.cells.size = u.cells.size ∧ ∀ i, VR D ρ (v.cells.getD i undef) (u.cells.getD i undef) := by
  have one : ∀ {v u : Value}, VR D ρ v u → (#[v] : Array Value).size = (#[u] : Array Value).size ∧ ∀ i, VR D ρ ((#[v] : Array Value).getD i undef) ((#[u] : Array Value).getD i undef) := by
    intro v u h
    refine ⟨rfl, fun i => ?_⟩
    cases i with
    | zero => simpa [Array.getD] using h
    | succ n => simpa [Array.getD] using VR.und
  cases h with
  | agg xs ys hs h => exact ⟨hs, h⟩
  | scal v h =>
    cases v <;> first | exact one (.scal _ h) | skip
    rename_i vs
    simp only [flat0, Array.isEmpty_iff_size_eq_zero] at h
    rw [Array.eq_empty_of_size_eq_zero h]
    exact ⟨rfl, fun i => VR.und⟩
  | ptr b o hb => exact one (.ptr b o hb)
  | slice b o len cap cap' hb hl hn hg => exact one (.slice b o len cap cap' hb hl hn hg)
  | hollow b o cap a cap' => exact one (.hollow b o cap a cap')
  | none0 b o a => exact one (.none0 b o a)
  | opq i n c h => exact one (.opq i n c h)
  | opp i o a ha => exact one (.opp i o a ha)
  | map b hb => exact one (.map b hb)
  | tuple xs ys hs h => exact one (.tuple xs ys hs h)
  | func fn f f' c c' hf hc h g => exact one (.func fn f f' c c' hf hc h g)
end

section
variable {D : Nat → Prop} {ρ : Nat → Pl}
theorem VR.ptr_inv {b o : Nat} {u : Value} (h : VR D ρ (.pointer (some ⟨b, o, none⟩)) u) : D b ∧ u = .pointer (some ⟨(ρ b).blk, (ρ b).off + o, none⟩) := by
  cases h with
  | scal _ h => simp [flat0] at h
  | ptr _ _ hb => exact ⟨hb, rfl⟩
theorem VR.slice_inv {b o len cap : Nat} {u : Value} (h : VR D ρ (.slice (some ⟨b, o, none⟩) len cap) u) :
    D b ∧ ∃ cap', u = .slice (some ⟨(ρ b).blk, (ρ b).off + o, none⟩) len cap' ∧ len ≤ cap' ∧ ((ρ b).cap = none → cap' = cap) ∧ ∀ c, (ρ b).cap = some c → o = 0 → cap' = c := by
  cases h with
  | scal _ h => simp [flat0] at h
  | slice _ _ _ _ cap' hb hl hn hg => exact ⟨hb, cap', rfl, hl, hn, hg⟩
theorem VR.hollow_inv {b o len cap : Nat} {u : Value} (h : VR D ρ (.slice (some ⟨b, o, some 0⟩) len cap) u) : len = 0 ∧ ∃ a cap', u = .slice (some a) 0 cap' := by
  cases h with
  | scal _ h => simp [flat0] at h
  | hollow _ _ _ a cap' => exact ⟨rfl, a, cap', rfl⟩
theorem VR.none0_inv {b o len cap : Nat} {u : Value} (h : VR D ρ (.slice (some ⟨b, o, some 1⟩) len cap) u) : len = 0 ∧ cap = 0 ∧ ∃ a, u = .slice (some a) 0 0 := by
  cases h with
  | scal _ h => simp [flat0] at h
  | none0 _ _ a => exact ⟨rfl, rfl, a, rfl⟩
theorem VR.len_inv {a : Addr} {len cap : Nat} {u : Value} (h : VR D ρ (.slice (some a) len cap) u) : ∃ a' cap', u = .slice a' len cap' := by
  cases h with
  | scal _ h => simp [flat0] at h
  | slice _ _ _ _ cap' => exact ⟨_, _, rfl⟩
  | hollow => exact ⟨_, _, rfl⟩
  | none0 => exact ⟨_, _, rfl⟩
  | opq => exact ⟨_, _, rfl⟩
theorem VR.opq_inv {i o len cap : Nat} {u : Value} (h : VR D ρ (.slice (some ⟨i, o, some 2⟩) len cap) u) : rg.len i = len ∧ u = .slice (rg.adr i) len (rg.cap i) ∧ o = 0 := by
  cases h with
  | scal _ h => simp [flat0] at h
  | opq _ _ _ h => exact ⟨h, rfl, rfl⟩
theorem VR.opp_inv {i o : Nat} {u : Value} (h : VR D ρ (.pointer (some ⟨i, o, some 2⟩)) u) : ∃ a, rg.adr i = some a ∧ u = .pointer (some ⟨a.block, a.off + o, none⟩) := by
  cases h with
  | scal _ h => simp [flat0] at h
  | opp _ _ a ha => exact ⟨a, ha, rfl⟩
theorem VR.agg_inv {xs : Array Value} {u : Value} (h : VR D ρ (.agg xs) u) : ∃ ys, u = .agg ys ∧ xs.size = ys.size ∧ ∀ i, VR D ρ (xs.getD i undef) (ys.getD i undef) := by
  cases h with
  | scal _ h =>
    simp only [flat0, Array.isEmpty_iff_size_eq_zero] at h
    exact ⟨xs, rfl, rfl, fun i => by rw [Array.eq_empty_of_size_eq_zero h]; exact .und⟩
  | agg _ ys hs h => exact ⟨ys, rfl, hs, h⟩
theorem VR.tuple_inv {xs : Array Value} {u : Value} (h : VR D ρ (.tuple xs) u) : ∃ ys, u = .tuple ys ∧ xs.size = ys.size ∧ ∀ i, VR D ρ (xs.getD i undef) (ys.getD i undef) := by
  cases h with
  | scal _ h =>
    simp only [flat0, Array.isEmpty_iff_size_eq_zero] at h
    exact ⟨xs, rfl, rfl, fun i => by rw [Array.eq_empty_of_size_eq_zero h]; exact .und⟩
  | tuple _ ys hs h => exact ⟨ys, rfl, hs, h⟩
theorem VR.func_inv {fn : Fn} {f c : Array Value} {u : Value} (h : VR D ρ (.func fn f c) u) : ∃ f' c', u = .func fn f' c' ∧ f.size = f'.size ∧ c.size = c'.size ∧ (∀ i, VR D ρ (f.getD i undef) (f'.getD i undef)) ∧ ∀ i, VR D ρ (c.getD i undef) (c'.getD i undef) := by
  cases h with
  | scal _ h =>
    simp only [flat0, Array.isEmpty_iff_size_eq_zero, Bool.and_eq_true] at h
    exact ⟨f, c, rfl, rfl, rfl, fun i => by rw [Array.eq_empty_of_size_eq_zero h.1]; exact .und, fun i => by rw [Array.eq_empty_of_size_eq_zero h.2]; exact .und⟩
  | func _ _ f' _ c' hf hc h g => exact ⟨f', c', rfl, hf, hc, h, g⟩
/-- A closed value says the same whatever the blocks are. -/
theorem VR.clo {D' : Nat → Prop} {ρ' : Nat → Pl} {v u : Value} (h : VR D ρ v u) (hc : clo0 v = true) : VR D' ρ' v u := by
  rcases clo0_cases hc with hf | ⟨i, n, c, rfl⟩
  · rw [h.flat0_eq hf]; exact .scal _ hf
  · obtain ⟨h1, h2, _⟩ := h.opq_inv
    rw [h2]
    exact .opq _ _ _ h1
theorem VR.map_inv {b : Nat} {u : Value} (h : VR D ρ (.map (some b)) u) : D b ∧ u = .map (some (ρ b).blk) := by
  cases h with
  | scal _ h => simp [flat0] at h
  | map _ hb => exact ⟨hb, rfl⟩
theorem VR.bool_inv {b : Bool} {u : Value} (h : VR D ρ (.bool b) u) : u = .bool b := h.flat0_eq rfl
theorem VR.int_inv {k : IntKind} {n : Int} {u : Value} (h : VR D ρ (.int k n) u) : u = .int k n := h.flat0_eq rfl
end

/-- The entries of a map whose keys and values are these cells, in turn; none has ever been taken out. -/
def entL : List Value → Nat → List MapEntry
  | k :: v :: r, i => ⟨k, v, i⟩ :: entL r (i + 1)
  | _, _ => []
/-- A block: 0: whole; 1: a row that grew (what lies behind its cells is not known); 2: not to be written, plain data; 3: as 1, and its cells are plain data; 4: a map, its cells are keys and values in turn, plain data. -/
structure ABlk where
  elem : TypeId
  cells : List Value
  mode : Nat
  deriving Inhabited

abbrev HF := Nat → Option ABlk

/-- None of the first n cells is marked as not to be written. -/
def fzOK (fz : Nat × Nat) (n : Nat) : Prop := n ≤ fz.1 ∨ fz.2 = 0

/-- What a block says of the world. 'sz' is the number of cells of an element. -/
structure BR (D : Nat → Prop) (ρ : Nat → Pl) (p : Pl) (k : ABlk) (sz : Nat → Nat) (w : World) : Prop where
  kind : k.mode ≠ 4 → ∃ cs fz, w.heap[p.blk]? = some (.cells cs k.elem fz) ∧ (∀ i v, k.cells[i]? = some v → ∃ u, cs[p.off + i]? = some u ∧ VR D ρ v u) ∧
    (k.mode = 0 → p.off = 0 ∧ cs.size = k.cells.length ∧ p.cap = none ∧ fzOK fz cs.size) ∧
    (k.mode % 2 = 1 → p.off = 0 ∧ fzOK fz cs.size ∧ ∃ c, p.cap = some c ∧ cs.size = c * sz k.elem ∧ k.cells.length ≤ cs.size) ∧
    (k.mode = 2 → p.cap = none) ∧ k.mode ≤ 3 ∧ (2 ≤ k.mode → ∀ v ∈ k.cells, clo0 v = true)
  isMap : k.mode = 4 → w.heap[p.blk]? = some (.map (entL k.cells 0).toArray (entL k.cells 0).length) ∧ ∀ v ∈ k.cells, flat0 v = true
theorem BR.has {D : Nat → Prop} {ρ : Nat → Pl} {p : Pl} {k : ABlk} {sz : Nat → Nat} {w : World} (hb : BR D ρ p k sz w) (hm : k.mode ≠ 4) : ∃ cs fz, w.heap[p.blk]? = some (.cells cs k.elem fz) ∧ (∀ i v, k.cells[i]? = some v → ∃ u, cs[p.off + i]? = some u ∧ VR D ρ v u) ∧
    (k.mode = 0 → p.off = 0 ∧ cs.size = k.cells.length ∧ p.cap = none ∧ fzOK fz cs.size) ∧
    (k.mode % 2 = 1 → p.off = 0 ∧ fzOK fz cs.size ∧ ∃ c, p.cap = some c ∧ cs.size = c * sz k.elem ∧ k.cells.length ≤ cs.size) ∧
    (k.mode = 2 → p.cap = none) ∧ k.mode ≤ 3 ∧ (2 ≤ k.mode → ∀ v ∈ k.cells, clo0 v = true) := hb.kind hm
theorem BR.of {D : Nat → Prop} {ρ : Nat → Pl} {p : Pl} {k : ABlk} {sz : Nat → Nat} {w : World} (h : ∃ cs fz, w.heap[p.blk]? = some (.cells cs k.elem fz) ∧ (∀ i v, k.cells[i]? = some v → ∃ u, cs[p.off + i]? = some u ∧ VR D ρ v u) ∧
    (k.mode = 0 → p.off = 0 ∧ cs.size = k.cells.length ∧ p.cap = none ∧ fzOK fz cs.size) ∧
    (k.mode % 2 = 1 → p.off = 0 ∧ fzOK fz cs.size ∧ ∃ c, p.cap = some c ∧ cs.size = c * sz k.elem ∧ k.cells.length ≤ cs.size) ∧
    (k.mode = 2 → p.cap = none) ∧ k.mode ≤ 3 ∧ (2 ≤ k.mode → ∀ v ∈ k.cells, clo0 v = true)) : BR D ρ p k sz w :=
  ⟨fun _ => h, fun h4 => by obtain ⟨_, _, _, _, _, _, _, h3, _⟩ := h; rw [h4] at h3; exact absurd h3 (by decide)⟩

/-- The blocks of the world that may be written. -/
def Img (ρ : Nat → Pl) (h : HF) (n : Nat) : Prop := ∃ b k, h b = some k ∧ k.mode ≠ 2 ∧ (ρ b).blk = n

/-- What a slice that came in says of the world. -/
def RawAt (w : World) (i : Nat) : Prop := rg.len i ≤ rg.cap i ∧ (0 < rg.len i → rg.cells i ≠ []) ∧ (rg.cells i ≠ [] → ∃ a, rg.adr i = some a ∧ a.spot = none ∧ ∃ cs el fz, w.heap[a.block]? = some (.cells cs el fz) ∧
  ∀ (j : Nat) (v : Value), (rg.cells i)[j]? = some v → ∃ u, cs[a.off + j]? = some u ∧ VR (fun _ => False) (fun _ => default) v u)
structure RawOK (ρ : Nat → Pl) (h : HF) (w : World) : Prop where
  at' : ∀ i, RawAt w i
  far : ∀ i a, rg.cells i ≠ [] → rg.adr i = some a → ¬ Img ρ h a.block
structure WR (sz : Nat → Nat) (D : Nat → Prop) (ρ : Nat → Pl) (h : HF) (w : World) : Prop where
  dom : ∀ b k, h b = some k → D b
  here : ∀ b k, h b = some k → BR D ρ (ρ b) k sz w
  sep : ∀ b c k l, h b = some k → h c = some l → b ≠ c → (k.mode ≠ 2 ∨ l.mode ≠ 2) → (ρ b).blk ≠ (ρ c).blk
  raw : RawOK ρ h w

structure T (sz : Nat → Nat) (D : Nat → Prop) (ρ : Nat → Pl) (h : HF) (w : World) (D' : Nat → Prop) (ρ' : Nat → Pl) (h' : HF) (w' : World) : Prop where
  sub : ∀ b, D b → D' b
  same : ∀ b, D b → ρ' b = ρ b
  wr : WR sz D' ρ' h' w'
  os : w'.os = w.os
  tape : w'.tape = w.tape
  output : w'.output = w.output
  size : w.heap.size ≤ w'.heap.size
  keep : ∀ k, k < w.heap.size → ¬ Img ρ h k → w'.heap[k]? = w.heap[k]?
  img : ∀ k, Img ρ' h' k → Img ρ h k ∨ w.heap.size ≤ k
  ro : ∀ b k, h' b = some k → k.mode = 2 → h b = some k

section
variable {sz : Nat → Nat} {D D' D'' : Nat → Prop} {ρ ρ' ρ'' : Nat → Pl} {h h' h'' : HF} {w w' w'' : World}
theorem RawOK.lt {ρ : Nat → Pl} {h : HF} {w : World} (hr : RawOK ρ h w) {i : Nat} {a : Addr} (hi : rg.cells i ≠ []) (ha : rg.adr i = some a) : a.block < w.heap.size := by
  obtain ⟨_, _, h1⟩ := hr.at' i
  obtain ⟨a', e, _, cs, el, fz, hh, _⟩ := h1 hi
  rw [ha] at e
  cases e
  exact (Array.getElem?_eq_some_iff.1 hh).1
theorem RawOK.addr {ρ : Nat → Pl} {h : HF} {w : World} (hr : RawOK ρ h w) {i : Nat} (hi : 0 < rg.len i) : ∃ a, rg.adr i = some a ∧ a.spot = none := by
  obtain ⟨_, h1, h2⟩ := hr.at' i
  obtain ⟨a, e, hs, _⟩ := h2 (h1 hi)
  exact ⟨a, e, hs⟩
/-- Where the blocks are kept and none becomes one that may be written. -/
theorem RawOK.keep {ρ ρ' : Nat → Pl} {h h' : HF} {w w' : World} (hr : RawOK ρ h w) (hk : ∀ k, k < w.heap.size → ¬ Img ρ h k → w'.heap[k]? = w.heap[k]?) (hi : ∀ k, Img ρ' h' k → Img ρ h k ∨ w.heap.size ≤ k) : RawOK ρ' h' w' := by
  refine ⟨fun i => ?_, fun i a hc ha hm => ?_⟩
  · obtain ⟨h0, h1, h2⟩ := hr.at' i
    refine ⟨h0, h1, fun hc => ?_⟩
    obtain ⟨a, e, hs, cs, el, fz, hh, hx⟩ := h2 hc
    exact ⟨a, e, hs, cs, el, fz, (hk _ (hr.lt hc e) (hr.far i a hc e)).trans hh, hx⟩
  · rcases hi _ hm with h1 | h1
    · exact hr.far i a hc ha h1
    · have := hr.lt hc ha; omega
theorem RawOK.less {ρ ρ' : Nat → Pl} {h h' : HF} {w : World} (hr : RawOK ρ h w) (hi : ∀ k, Img ρ' h' k → Img ρ h k) : RawOK ρ' h' w := hr.keep (fun _ _ _ => rfl) (fun k hk => .inl (hi k hk))
/-- A step, all but the slices that came in being shown. -/
theorem T.mk' {sz : Nat → Nat} {D D' : Nat → Prop} {ρ ρ' : Nat → Pl} {h h' : HF} {w w' : World} (hw : WR sz D ρ h w) (sub : ∀ b, D b → D' b) (same : ∀ b, D b → ρ' b = ρ b) (dom : ∀ b k, h' b = some k → D' b) (here : ∀ b k, h' b = some k → BR D' ρ' (ρ' b) k sz w')
    (sep : ∀ b c k l, h' b = some k → h' c = some l → b ≠ c → (k.mode ≠ 2 ∨ l.mode ≠ 2) → (ρ' b).blk ≠ (ρ' c).blk) (os : w'.os = w.os) (tape : w'.tape = w.tape) (output : w'.output = w.output) (size : w.heap.size ≤ w'.heap.size)
    (keep : ∀ k, k < w.heap.size → ¬ Img ρ h k → w'.heap[k]? = w.heap[k]?) (img : ∀ k, Img ρ' h' k → Img ρ h k ∨ w.heap.size ≤ k) (ro : ∀ b k, h' b = some k → k.mode = 2 → h b = some k) : T sz D ρ h w D' ρ' h' w' :=
  ⟨sub, same, ⟨dom, here, sep, hw.raw.keep keep img⟩, os, tape, output, size, keep, img, ro⟩
theorem T.refl (hw : WR sz D ρ h w) : T sz D ρ h w D ρ h w := ⟨fun _ h => h, fun _ _ => rfl, hw, rfl, rfl, rfl, Nat.le_refl _, fun _ _ _ => rfl, fun _ h => .inl h, fun _ _ h _ => h⟩
theorem T.trans (a : T sz D ρ h w D' ρ' h' w') (b : T sz D' ρ' h' w' D'' ρ'' h'' w'') : T sz D ρ h w D'' ρ'' h'' w'' where
  sub := fun x hx => b.sub x (a.sub x hx)
  same := fun x hx => (b.same x (a.sub x hx)).trans (a.same x hx)
  wr := b.wr
  os := b.os.trans a.os
  tape := b.tape.trans a.tape
  output := b.output.trans a.output
  size := Nat.le_trans a.size b.size
  keep := fun k hk hn => (b.keep k (Nat.lt_of_lt_of_le hk a.size) (fun hi => by
    rcases a.img k hi with h1 | h1
    · exact hn h1
    · omega)).trans (a.keep k hk hn)
  img := fun k hk => by
    rcases b.img k hk with h1 | h1
    · exact a.img k h1
    · exact .inr (Nat.le_trans a.size h1)
  ro := fun x k hx hm => a.ro x k (b.ro x k hx hm) hm

theorem WR.lt (hw : WR sz D ρ h w) {b : Nat} {k : ABlk} (hb : h b = some k) : (ρ b).blk < w.heap.size := by
  by_cases hm : k.mode = 4
  · exact (Array.getElem?_eq_some_iff.1 ((hw.here b k hb).isMap hm).1).1
  · obtain ⟨cs, fz, hh, _⟩ := (hw.here b k hb).has hm
    exact (Array.getElem?_eq_some_iff.1 hh).1
theorem BR.of_heap {p : Pl} {k : ABlk} (hb : BR D ρ p k sz w) (hh : w'.heap[p.blk]? = w.heap[p.blk]?) : BR D ρ p k sz w' := by
  refine ⟨fun hm => ?_, fun hm => ⟨hh.trans (hb.isMap hm).1, (hb.isMap hm).2⟩⟩
  obtain ⟨cs, fz, h1, h2⟩ := hb.has hm
  exact ⟨cs, fz, hh.trans h1, h2⟩
theorem BR.mono {p : Pl} {k : ABlk} (hb : BR D ρ p k sz w) (hD : ∀ b, D b → D' b) (hρ : ∀ b, D b → ρ' b = ρ b) : BR D' ρ' p k sz w := by
  refine ⟨fun hm => ?_, hb.isMap⟩
  obtain ⟨cs, fz, h1, h2, h3⟩ := hb.has hm
  exact ⟨cs, fz, h1, fun i v hv => let ⟨u, hu, hr⟩ := h2 i v hv; ⟨u, hu, hr.mono hD hρ⟩, h3⟩

/-- A draw. -/
theorem WR.heap (hw : WR sz D ρ h w) (hh : w'.heap = w.heap) : WR sz D ρ h w' := ⟨hw.dom, fun b k hb => (hw.here b k hb).of_heap (by rw [hh]), hw.sep, hw.raw.keep (fun _ _ _ => by rw [hh]) (fun _ hk => .inl hk)⟩
theorem T.drew (hw : WR sz D ρ h w) : T sz D ρ h w D ρ h w.drew := ⟨fun _ h => h, fun _ _ => rfl, hw.heap rfl, rfl, rfl, rfl, Nat.le_refl _, fun _ _ _ => rfl, fun _ h => .inl h, fun _ _ h _ => h⟩

/-- Fewer blocks. -/
theorem WR.less (hw : WR sz D ρ h w) (hl : ∀ b k, h' b = some k → h b = some k) : WR sz D ρ h' w :=
  ⟨fun b k hb => hw.dom b k (hl b k hb), fun b k hb => hw.here b k (hl b k hb), fun b c k l hb hc => hw.sep b c k l (hl b k hb) (hl c l hc), hw.raw.less fun n ⟨b, k, hb, hm, he⟩ => ⟨b, k, hl b k hb, hm, he⟩⟩

/-- What is done on some of the blocks, of all of them. -/
theorem T.frame {g g' : HF} (hw : WR sz D ρ h w) (ht : T sz D ρ g w D' ρ' g' w') (hg : ∀ b k, g b = some k → h b = some k)
    (h1 : ∀ b k, h' b = some k → g' b = some k ∨ (h b = some k ∧ g b = none ∧ g' b = none)) : T sz D ρ h w D' ρ' h' w' := by
  have far : ∀ b k, h b = some k → g b = none → ¬ Img ρ g (ρ b).blk := by
    rintro b k hb hgb ⟨c, l, hc, hm, he⟩
    have hne : b ≠ c := by rintro rfl; rw [hgb] at hc; cases hc
    exact hw.sep b c k l hb (hg c l hc) hne (.inr hm) he.symm
  have hkeep : ∀ k, k < w.heap.size → ¬ Img ρ h k → w'.heap[k]? = w.heap[k]? := fun k hk hn => ht.keep k hk fun ⟨b, l, hb, hm, he⟩ => hn ⟨b, l, hg b l hb, hm, he⟩
  have himg : ∀ k, Img ρ' h' k → Img ρ h k ∨ w.heap.size ≤ k := by
    rintro k ⟨b, l, hb, hm, he⟩
    rcases h1 b l hb with h2 | ⟨h2, h3, h4⟩
    · rcases ht.img k ⟨b, l, h2, hm, he⟩ with ⟨c, m, hc, hm', he'⟩ | h3
      · exact .inl ⟨c, m, hg c m hc, hm', he'⟩
      · exact .inr h3
    · rw [ht.same b (hw.dom b l h2)] at he
      exact .inl ⟨b, l, h2, hm, he⟩
  refine ⟨ht.sub, ht.same, ⟨fun b k hb => ?_, fun b k hb => ?_, fun b c k l hb hc hne hm => ?_, hw.raw.keep hkeep himg⟩, ht.os, ht.tape, ht.output, ht.size, hkeep, himg, fun b k hb hm => ?_⟩
  · rcases h1 b k hb with h2 | ⟨h2, _⟩
    · exact ht.wr.dom b k h2
    · exact ht.sub b (hw.dom b k h2)
  · rcases h1 b k hb with h2 | ⟨h2, h3, h4⟩
    · exact ht.wr.here b k h2
    · rw [ht.same b (hw.dom b k h2)]
      exact ((hw.here b k h2).of_heap (ht.keep _ (hw.lt h2) (far b k h2 h3))).mono ht.sub ht.same
  · have mixed : ∀ b c k l, g' b = some k → h c = some l → g c = none → (k.mode ≠ 2 ∨ l.mode ≠ 2) → k.mode ≠ 2 → (ρ' b).blk ≠ (ρ' c).blk := by
      intro b c k l hb hc hgc hm hk he
      rw [ht.same c (hw.dom c l hc)] at he
      rcases ht.img _ ⟨b, k, hb, hk, rfl⟩ with h2 | h2
      · rw [he] at h2; exact far c l hc hgc h2
      · have := hw.lt hc; omega
    rcases h1 b k hb with h2 | ⟨h2, h3, h4⟩ <;> rcases h1 c l hc with h5 | ⟨h5, h6, h7⟩
    · exact ht.wr.sep b c k l h2 h5 hne hm
    · by_cases hk : k.mode = 2
      · have h8 := ht.ro b k h2 hk
        have h9 := hg b k h8
        rw [ht.same b (hw.dom b k h9), ht.same c (hw.dom c l h5)]
        exact hw.sep b c k l h9 h5 hne hm
      · exact mixed b c k l h2 h5 h6 hm hk
    · by_cases hl : l.mode = 2
      · have h8 := ht.ro c l h5 hl
        have h9 := hg c l h8
        rw [ht.same b (hw.dom b k h2), ht.same c (hw.dom c l h9)]
        exact hw.sep b c k l h2 h9 hne hm
      · exact (mixed c b l k h5 h2 h3 hm.symm hl).symm
    · rw [ht.same b (hw.dom b k h2), ht.same c (hw.dom c l h5)]
      exact hw.sep b c k l h2 h5 hne hm
  · rcases h1 b k hb with h2 | ⟨h2, _, _⟩
    · exact hg b k (ht.ro b k h2 hm)
    · exact h2
end
end
end Go.Proofs.Ytkdalfdfepipiaa
