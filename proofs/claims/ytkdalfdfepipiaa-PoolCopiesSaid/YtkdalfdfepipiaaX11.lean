/-
  The engine, eleventh part: regions and code carried out.
-/
import Derived.Test.YtkdalfdfepipiaaX10
import Derived.Scope
namespace Go.Proofs.Ytkdalfdfepipiaa
set_option linter.unusedSectionVars false
open Go.RowKit
set_option linter.unusedVariables false
variable [Inhabited RawG]

/-! ### Heaps as lists -/
def hput : Heap → Nat → ABlk → Heap
  | [], b, k => [(b, k)]
  | (c, l) :: t, b, k => if c == b then (b, k) :: t else (c, l) :: hput t b k
def hdel : Heap → Nat → Heap
  | [], _ => []
  | (c, l) :: t, b => if c == b then hdel t b else (c, l) :: hdel t b
def hputs (H : Heap) : List (Nat × Option ABlk) → Heap
  | [] => H
  | (b, some k) :: r => hput (hputs H r) b k
  | (b, none) :: r => hdel (hputs H r) b
theorem hget_hput (H : Heap) (b : Nat) (k : ABlk) (c : Nat) : hget (hput H b k) c = if c = b then some k else hget H c := by
  induction H with
  | nil =>
    simp only [hput, hget]
    by_cases h : c = b
    · subst h; simp
    · simp [h, Ne.symm h]
  | cons p t ih =>
    obtain ⟨d, l⟩ := p
    simp only [hput]
    by_cases hd : d = b
    · subst hd
      simp only [beq_self_eq_true, if_true, hget]
      by_cases h : c = d
      · subst h; simp
      · simp [h, Ne.symm h]
    · simp only [beq_iff_eq, hd, if_false, hget, ih]
      by_cases h : c = b
      · subst h; simp [hd]
      · simp [h]
theorem hget_hdel (H : Heap) (b c : Nat) : hget (hdel H b) c = if c = b then none else hget H c := by
  induction H with
  | nil => simp [hdel, hget]
  | cons p t ih =>
    obtain ⟨d, l⟩ := p
    simp only [hdel]
    by_cases hd : d = b
    · subst hd
      simp only [beq_self_eq_true, if_true, hget, ih]
      by_cases h : c = d
      · subst h; simp
      · simp [h, Ne.symm h]
    · simp only [beq_iff_eq, hd, if_false, hget, ih]
      by_cases h : c = b
      · subst h; simp [hd]
      · simp [h]
theorem hget_hputs (H : Heap) : ∀ (l : List (Nat × Option ABlk)), hget (hputs H l) = updf (hget H) l
  | [] => rfl
  | (b, some k) :: r => by
    funext c
    simp only [hputs, updf, upd, hget_hput, hget_hputs H r]
  | (b, none) :: r => by
    funext c
    simp only [hputs, updf, upd, hget_hdel, hget_hputs H r]

/-! ### A region -/
def nwIn (base j : Nat) : List Nat → Bool
  | [] => true
  | b :: r => Nat.ble (base + 64 * j) b && Nat.blt b (base + 64 * (j + 1)) && nwIn base j r
abbrev Log := List (Nat × Oper × Did)
/-- What the prover says of an operation's value: soft: the engine's own value equals it; hard: the model's operation yields it. -/
inductive AX where
  | normal
  | ret
  | exit (id : Nat)
inductive OV where
  | soft (u : Value)
  | hard (u : Value)
  | idx (j : Nat)
  | ld (u : Value)
  | call (v : Value) (H1 : Heap)
  | app (arm : Nat) (cs : Option (List Value))
  | st (cs : Option (List Value))
  | sl (arm l hh : Nat)
  | mk (n : Nat) (cs : List Value)
  | div
  | does (d : Did)
  | loop (keys : List Nat) (ax : AX) (fr : List Value) (hp : Heap) (nx : Nat)
abbrev Orc := List (Nat × OV)
def lk : Orc → Nat → Option OV
  | [], _ => none
  | (i, u) :: r, n => if i == n then some u else lk r n
def refine0 : Value → Value → Option (List Prop)
  | .bool b, .bool c => some [b = c]
  | .int k n, .int k' m => if k = k' then some [n = m] else none
  | .string s, .string t => some [s = t]
  | _, _ => none
def refineL (f : Value → Value → Option (List Prop)) : List Value → List Value → Option (List Prop)
  | [], [] => some []
  | v :: r, u :: t => match f v u, refineL f r t with
    | some p, some q => some (p ++ q)
    | _, _ => none
  | _, _ => none
def refine1 : Value → Value → Option (List Prop)
  | .agg xs, .agg ys => refineL refine0 xs.toList ys.toList
  | v, u => refine0 v u
def refineV : Value → Value → Option (List Prop)
  | .tuple xs, .tuple ys => refineL refine1 xs.toList ys.toList
  | v, u => refine1 v u
/-- A slice that came in, beside nil. -/
def opqV (P : Program) (ev : Operand → Value) (o : Oper) (u : Value) : Option (Did × List Prop) :=
  match o.op with
  | .binOp op t x y _ => match P.underlying t, ev x, ev y with
    | some (.slice _), .slice (some ⟨_, 0, some 2⟩) n _, .slice none _ _ => match op, u with
      | .eql, .bool false => some (⟨.bool false, [], [], []⟩, [0 < n])
      | .neq, .bool true => some (⟨.bool true, [], [], []⟩, [0 < n])
      | _, _ => none
    | _, _, _ => none
  | _ => none
def hardV (P : Program) (ev : Operand → Value) (o : Oper) (u : Value) : Option (Did × List Prop) :=
  if (o.op.operands.all fun x => flat (ev x)) = true ∧ isSelect o.op = false ∧ flat u = true then some (⟨u, [], [], []⟩, [peval P (execOp ev o) = some (.value u)]) else opqV P ev o u
def softV (d : Did) (u : Value) : Option (Did × List Prop) :=
  match refineV d.v u with
  | some ps => some ({ d with v := u }, ps)
  | none => none
/-- An element's place, where its index is said. -/
def idxV (P : Program) (ev : Operand → Value) (o : Oper) (j : Nat) : Option (Did × List Prop) :=
  match o.op with
  | .indexAddr t x ix => match ev ix, P.underlying t, ev x with
    | .int _ i, some (.slice e), .slice (some ⟨b, off, none⟩) len _ => match peval P (sizeOf e) with
      | some n => some (⟨.pointer (some ⟨b, off + j * n, none⟩), [], [], []⟩, [0 ≤ i ∧ i < (len : Int) ∧ i.toNat = j])
      | none => none
    | .int _ i, some (.slice e), .slice (some ⟨b, off, some 2⟩) len _ => match peval P (sizeOf e) with
      | some n => some (⟨.pointer (some ⟨b, off + j * n, some 2⟩), [], [], []⟩, [0 ≤ i ∧ i < (len : Int) ∧ i.toNat = j])
      | none => none
    | _, _, _ => none
  | _ => none
/-- What lies there is said. -/
def ldV (P : Program) (ev : Operand → Value) (H : Heap) (o : Oper) (u : Value) : Option (Did × List Prop) :=
  match o.op with
  | .load t x => match ev x with
    | .pointer (some ⟨b, off, none⟩) => match hgetC H b, peval P (sizeOf t), peval P (isAgg t) with
      | some k, some n, some true => match u with
        | .agg us => some (⟨.agg us, [b], [], []⟩, [off + n ≤ k.cells.length ∧ (k.cells.drop off).take n = us.toList])
        | _ => none
      | some k, some _, some false => some (⟨u, [b], [], []⟩, [k.cells[off]? = some u])
      | _, _, _ => none
    | .pointer (some ⟨b, off, some 2⟩) => match peval P (sizeOf t), peval P (isAgg t) with
      | some n, some true => match u with
        | .agg us => some (⟨.agg us, [], [], []⟩, [0 < (rg.cells b).length ∧ off + n ≤ (rg.cells b).length ∧ ((rg.cells b).drop off).take n = us.toList])
        | _ => none
      | some _, some false => some (⟨u, [], [], []⟩, [(rg.cells b)[off]? = some u])
      | _, _ => none
    | _ => none
  | _ => none
/-- What a call yields is said. -/
def callV (P : Program) (ev : Operand → Value) (H : Heap) (o : Oper) (nid lo : Nat) (v : Value) (H1 : Heap) : Option (Did × List Prop) :=
  match callArgs P ev H o, aCallOp P (fun _ _ _ _ => some (v, H1)) ev H o nid lo with
  | some (g, av, Hs, l), some d => some (d, [CallOK P g av Hs l v H1])
  | _, _ => none
/-- Plain cells. -/
def FlatL (l : List Value) : Prop := ∀ v ∈ l, clo0 v = true ∧ v.oneCell' = true
/-- What is appended, where its length is no number. -/
def srcS (P : Program) (H : Heap) (n : Nat) (x : Value) : Option (Nat × List Value × List Nat × List Prop) :=
  match x with
  | .slice (some ⟨b, o, none⟩) m _ => match hgetC H b with
    | some k => some (m, (k.cells.drop o).take (m * n), [b], [o + m * n ≤ k.cells.length])
    | none => none
  | .slice (some ⟨i, 0, some 2⟩) m _ => some (m, (rg.cells i).take (m * n), [], [m * n ≤ (rg.cells i).length ∧ (m = 0 ∨ 0 < (rg.cells i).length)])
  | x => match srcCells P H n x with
    | some (m, news, rd) => some (m, news, rd, [])
    | none => none
def saidL (l : List Value) (cs : Option (List Value)) : List Value × List Prop :=
  match cs with
  | some c => (c, [l = c])
  | none => (l, [])
/-- An append, its arm being said: 0: nothing is appended; 1: something to an empty slice; 2: cells that are known to a row that grew; 3: as 2, a slice whose length is no number; 4: to a row that is whole, or not to be written, without room. -/
def appA (P : Program) (ev : Operand → Value) (H : Heap) (t tx : TypeId) (s x : Operand) (nid arm : Nat) (cs : Option (List Value)) : Option (Did × List Prop) :=
  match P.underlying t, P.underlying tx with
  | some (.slice e), some dd =>
    match P.info? e with
    | some i => match i.zero with
      | some z =>
        if srcKind dd = true ∧ 0 < i.size ∧ z.cells.size = i.size ∧ srcSlice (ev x) = true then
          match arm with
          | 0 => match srcS P H i.size (ev x) with
            | some (m, _, rd, ps) => match ev s with
              | .slice none 0 0 => some (⟨.slice none 0 0, rd, [], []⟩, (m = 0) :: ps)
              | .slice (some ⟨b0, o0, some 1⟩) 0 0 => some (⟨.slice (some ⟨b0, o0, some 1⟩) 0 0, rd, [], []⟩, (m = 0) :: ps)
              | .slice (some ⟨b, off, none⟩) len cap => match hgetC H b with
                | some _ => some (⟨.slice (some ⟨b, off, none⟩) len cap, b :: rd, [], []⟩, (m = 0) :: ps)
                | none => none
              | _ => none
            | none => none
          | 1 => match srcS P H i.size (ev x) with
            | some (m, news, rd, ps) =>
              match ev s with
              | .slice none 0 0 => some (⟨.slice (some ⟨nid, 0, none⟩) m m, rd, [(nid, some ⟨e, (saidL news cs).1, 3⟩)], [nid]⟩, (m ≠ 0 ∧ m * i.bytes ≤ 140737488355328 ∧ m ≤ 9223372036854775807 ∧ FlatL news) :: ((saidL news cs).2 ++ ps))
              | .slice (some ⟨b0, o0, some 1⟩) 0 0 => some (⟨.slice (some ⟨nid, 0, none⟩) m m, rd, [(nid, some ⟨e, (saidL news cs).1, 3⟩)], [nid]⟩, (m ≠ 0 ∧ m * i.bytes ≤ 140737488355328 ∧ m ≤ 9223372036854775807 ∧ FlatL news) :: ((saidL news cs).2 ++ ps))
              | _ => none
            | none => none
          | 2 => match srcCells P H i.size (ev x) with
            | some (m, news, rd) =>
              match ev s with
              | .slice (some ⟨b, 0, none⟩) len cap =>
                match hgetC H b with
                | some k =>
                  if m ≠ 0 ∧ news.all (·.oneCell') = true ∧ k.mode % 2 = 1 ∧ k.elem = e then
                    some (⟨.slice (some ⟨nid, 0, none⟩) (len + m) (len + m), b :: rd, [(nid, some ⟨e, (saidL (k.cells ++ news) cs).1, mdUp k.mode news⟩), (b, none)], [nid]⟩,
                      ((len + m) * i.bytes ≤ 140737488355328 ∧ len + m ≤ 9223372036854775807 ∧ len * i.size = k.cells.length) :: (saidL (k.cells ++ news) cs).2)
                  else none
                | none => none
              | _ => none
            | none => none
          | 3 => match srcS P H i.size (ev x) with
            | some (m, news, rd, ps) =>
              match ev s with
              | .slice (some ⟨b, 0, none⟩) len cap =>
                match hgetC H b with
                | some k =>
                  if k.mode = 3 ∧ k.elem = e then
                    some (⟨.slice (some ⟨nid, 0, none⟩) (len + m) (len + m), b :: rd, [(nid, some ⟨e, (saidL (k.cells ++ news) cs).1, 3⟩), (b, none)], [nid]⟩,
                      (m ≠ 0 ∧ (len + m) * i.bytes ≤ 140737488355328 ∧ len + m ≤ 9223372036854775807 ∧ len * i.size = k.cells.length ∧ FlatL news) :: ((saidL (k.cells ++ news) cs).2 ++ ps))
                  else none
                | none => none
              | _ => none
            | none => none
          | 4 => match srcS P H i.size (ev x) with
            | some (m, news, rd, ps) =>
              match ev s with
              | .slice (some ⟨b, off, none⟩) len cap =>
                match hgetC H b with
                | some k =>
                  if k.mode % 2 = 0 then
                    some (⟨.slice (some ⟨nid, 0, none⟩) (len + m) (len + m), b :: rd, [(nid, some ⟨e, (saidL ((k.cells.drop off).take (len * i.size) ++ news) cs).1, 3⟩)], [nid]⟩,
                      (m ≠ 0 ∧ ¬ len + m ≤ cap ∧ (len + m) * i.bytes ≤ 140737488355328 ∧ len + m ≤ 9223372036854775807 ∧ off + len * i.size ≤ k.cells.length ∧ FlatL ((k.cells.drop off).take (len * i.size) ++ news)) :: ((saidL ((k.cells.drop off).take (len * i.size) ++ news) cs).2 ++ ps))
                  else none
                | none => none
              | _ => none
            | none => none
          | _ => none
        else none
      | none => none
    | none => none
  | _, _ => none
def appV (P : Program) (ev : Operand → Value) (H : Heap) (o : Oper) (nid arm : Nat) (cs : Option (List Value)) : Option (Did × List Prop) :=
  match o.op with
  | .call { callee := .builtin .append, args := ⟨[s, x]⟩, argTypes := ⟨[t, tx]⟩ } => appA P ev H t tx s x nid arm cs
  | _ => none
/-- A division by what is no number. -/
def divV (P : Program) (ev : Operand → Value) (o : Oper) : Option (Did × List Prop) :=
  match o.op with
  | .binOp .quo _ x y _ => match ev x, ev y with
    | .int k a, .int k' b => if k = k' then some (⟨.int k (k.wrap (a.tdiv b)), [], [], []⟩, [b ≠ 0]) else none
    | _, _ => none
  | .binOp .rem _ x y _ => match ev x, ev y with
    | .int k a, .int k' b => if k = k' then some (⟨.int k (a.tmod b), [], [], []⟩, [b ≠ 0]) else none
    | _, _ => none
  | _ => none
/-- A store whose place is no number; or what is made zero, from a place that is no number. -/
def stV (P : Program) (ev : Operand → Value) (H : Heap) (o : Oper) (cs : Option (List Value)) : Option (Did × List Prop) :=
  match o.op with
  | .store t x y => match ev x with
    | .pointer (some ⟨b, off, none⟩) => match hgetC H b, peval P (sizeOf t) with
      | some k, some n =>
        if k.mode ≠ 2 ∧ (ev y).cells.toList.length = n ∧ (ev y).cells.toList.all (·.oneCell') = true ∧ (k.mode ≠ 3 ∨ (ev y).cells.toList.all clo0 = true) then
          some (⟨undef, [b], [(b, some { k with cells := (saidL (splice k.cells off (ev y).cells.toList) cs).1 })], []⟩, (off + (ev y).cells.toList.length ≤ k.cells.length) :: (saidL (splice k.cells off (ev y).cells.toList) cs).2) else none
      | _, _ => none
    | _ => none
  | .call { callee := .builtin .clear, args := ⟨[x]⟩, argTypes := ⟨[t]⟩ } => match P.underlying t, ev x, cs with
    | some (.slice _), .slice (some ⟨_, _, none⟩) n _, none => some (⟨.tuple #[], [], [], []⟩, [n = 0])
    | some (.slice e), .slice (some ⟨b, off, none⟩) n _, some cl => match hgetC H b, peval P (zeroValue e) with
      | some k, some z => some (⟨.tuple #[], [b], [(b, some { k with cells := cl })], []⟩, [n ≠ 0 ∧ k.mode ≠ 2 ∧ off + (rowZero (n * z.cells.size) z.cells).toList.length ≤ k.cells.length ∧ (rowZero (n * z.cells.size) z.cells).toList.all (·.oneCell') = true ∧ flat1 z = true ∧ (k.mode ≠ 3 ∨ (rowZero (n * z.cells.size) z.cells).toList.all clo0 = true), splice k.cells off (rowZero (n * z.cells.size) z.cells).toList = cl])
      | _, _ => none
    | _, _, _ => none
  | _ => none
/-- A bound of a slice expression, said. -/
def bndP (ev : Operand → Value) (x : Option Operand) (dflt top r : Nat) : Option Prop :=
  match x with
  | none => some (r = dflt)
  | some x => match ev x with
    | .int _ i => some (0 ≤ i ∧ i ≤ (top : Int) ∧ i.toNat = r)
    | _ => none
/-- A slice expression, its arm and its bounds being said: of a row that grew: 0: from the beginning; 1: from behind it; 2: nothing, from behind it; of another one: 3: not from its end; 4: from its end; 5: s[:0:0]. -/
def slV (P : Program) (ev : Operand → Value) (H : Heap) (o : Oper) (arm l hh : Nat) : Option (Did × List Prop) :=
  match o.op with
  | .slice t x lo hi mx => match P.underlying t, ev x with
    | some (.slice e), .slice (some ⟨b, off, none⟩) len cap => match hgetC H b, peval P (sizeOf e) with
      | some k, some n =>
        if 0 < n then
          match mx with
          | some _ => match bndP ev mx 0 len 0, bndP ev hi 0 0 0, bndP ev lo 0 0 0 with
            | some p, some q, some r => if hi.isSome = true ∧ arm = 5 then some (⟨.slice (some ⟨b, off, some 1⟩) 0 0, [b], [], []⟩, [len ≤ cap, p, q, r]) else none
            | _, _, _ => none
          | none =>
            if k.mode % 2 = 0 then
              match bndP ev hi len cap hh, bndP ev lo 0 hh l with
              | some p, some q => match arm with
                | 3 => some (⟨.slice (some ⟨b, off + l * n, none⟩) (hh - l) (cap - l), [b], [], []⟩, [len ≤ cap, p, q, cap ≠ l])
                | 4 => some (⟨.slice (some ⟨b, off, none⟩) (hh - l) (cap - l), [b], [], []⟩, [len ≤ cap, p, q, cap = l])
                | _ => none
              | _, _ => none
            else
              match bndP ev hi len len hh, bndP ev lo 0 hh l with
              | some p, some q => match arm with
                | 0 => some (⟨.slice (some ⟨b, off, none⟩) hh hh, [b], [], []⟩, [len ≤ cap, p, q, l = 0])
                | 1 => some (⟨.slice (some ⟨b, off + l * n, none⟩) (hh - l) (hh - l), [b], [], []⟩, [len ≤ cap, p, q, l ≠ 0 ∧ l < hh])
                | 2 => some (⟨.slice (some ⟨b, off, some 0⟩) 0 0, [b], [], []⟩, [len ≤ cap, p, q, l ≠ 0 ∧ ¬ l < hh])
                | _ => none
              | _, _ => none
        else none
      | _, _ => none
    | _, _ => none
  | _ => none
/-- A slice of so many elements, the number being no number. -/
def mkV (P : Program) (ev : Operand → Value) (o : Oper) (nid n : Nat) (cs : List Value) : Option (Did × List Prop) :=
  match o.op with
  | .makeSlice t l c => match P.underlying t, ev l, ev c with
    | some (.slice e), .int _ ln, .int _ cn => match P.info? e with
      | some i => match i.zero with
        | some z => if flat1 z = true ∧ z.cells.toList.all flat0 = true then
            some (⟨.slice (some ⟨nid, 0, none⟩) n n, [], [(nid, some ⟨e, cs, 3⟩)], [nid]⟩, [ln = (n : Int), cn = (n : Int), n ≤ 9223372036854775807 ∧ i.bytes * n ≤ 281474976710656, (rowZero (n * i.size) z.cells).toList = cs]) else none
        | none => none
      | none => none
    | _, _, _ => none
  | _ => none
def stepR (P : Program) (call : CallF) (ω : Orc) (ops : Array Oper) (base lo : Nat) (o : Oper) (j : Nat) (fr : List Value) (H : Heap) : Option (Did × List Prop) :=
  if o.op.operands.all okX = true ∧ guardTop ops fr o = false then
    if Region.wanted o (yieldedA ops fr) then
      if (o.op.operands.any fun x => isTop (evF fr x)) = true then none else match lk ω (base + 64 * j) with
      | some (.hard u) => hardV P (evF fr) o u
      | some (.loop ..) => none
      | some (.idx n) => idxV P (evF fr) o n
      | some (.ld u) => ldV P (evF fr) H o u
      | some (.call v H1) => match callV P (evF fr) H o (base + 64 * j) lo v H1 with
        | some (d, ps) => if nwIn base j d.nw then some (d, ps) else none
        | none => none
      | some (.app arm cs) => match appV P (evF fr) H o (base + 64 * j) arm cs with
        | some (d, ps) => if nwIn base j d.nw then some (d, ps) else none
        | none => none
      | some (.st cs) => match stV P (evF fr) H o cs with
        | some (d, ps) => if nwIn base j d.nw then some (d, ps) else none
        | none => none
      | some (.sl arm l hh) => match slV P (evF fr) H o arm l hh with
        | some (d, ps) => if nwIn base j d.nw then some (d, ps) else none
        | none => none
      | some .div => divV P (evF fr) o
      | some (.mk n cs) => match mkV P (evF fr) o (base + 64 * j) n cs with
        | some (d, ps) => if nwIn base j d.nw then some (d, ps) else none
        | none => none
      | some (.does d) => if nwIn base j d.nw then some (d, [aOpM P (evF fr) H o (base + 64 * j) = some d]) else none
      | some (.soft u) => match aOp P call (evF fr) H o (base + 64 * j) lo with
        | some d => if nwIn base j d.nw then softV d u else none
        | none => none
      | none => match aOp P call (evF fr) H o (base + 64 * j) lo with
        | some d => if nwIn base j d.nw then some (d, []) else none
        | none => none
    else some (noDid, [])
  else none
def seqOps (P : Program) (call : CallF) (ω : Orc) (ops : Array Oper) (base lo : Nat) : List Oper → Nat → List Value → Heap → Option (Log × List Value × Heap × List Prop)
  | [], j, fr, H => some ([], fr, H, [])
  | o :: r, j, fr, H =>
    match stepR P call ω ops base lo o j fr H with
    | some (d, ps) => match seqOps P call ω ops base lo r (j + 1) (setF fr o.dst d.v) (hputs H d.wr) with
      | some (l, fr', H', qs) => some ((j, o, d) :: l, fr', H', ps ++ qs)
      | none => none
    | none => none
/-- All that is owed holds. -/
def Ob (l : List Prop) : Prop := ∀ p ∈ l, p
theorem Ob.left {l m : List Prop} (h : Ob (l ++ m)) : Ob l := fun p hp => h p (List.mem_append.2 (.inl hp))
theorem Ob.right {l m : List Prop} (h : Ob (l ++ m)) : Ob m := fun p hp => h p (List.mem_append.2 (.inr hp))

def maskE (acc : List Nat) : List Edge → Nat
  | [] => 0
  | e :: r => if Region.binds .any e then 2 ^ e.on ||| acc.getD e.on 0 ||| maskE acc r else maskE acc r
def masks : List Oper → List Nat → List Nat
  | [], acc => acc
  | o :: r, acc => masks r (acc ++ [maskE acc o.after.toList])
def downE (j : Nat) : List Edge → Bool
  | [] => true
  | e :: r => (!Region.binds .any e || Nat.blt e.on j) && downE j r
def down : List Oper → Nat → Bool
  | [], _ => true
  | o :: r, j => downE j o.after.toList && down r (j + 1)
def wrL : List (Nat × Option ABlk) → List Nat
  | [] => []
  | (b, _) :: r => b :: wrL r
/-- Places as bits: slots at even numbers, blocks at odd ones. -/
def bitsT : List Nat → Nat
  | [] => 0
  | t :: r => Nat.lor (2 ^ (2 * t)) (bitsT r)
def bitsB : List Nat → Nat
  | [] => 0
  | t :: r => Nat.lor (2 ^ (2 * t + 1)) (bitsB r)
structure Pk where
  i : Nat
  pred : Nat
  w : Nat
  r : Nat
  rw : Nat
def dstL (o : Oper) : List Nat :=
  match o.dst with
  | some d => [d]
  | none => []
def pkOf (i m w r : Nat) : Pk := ⟨i, m, w, r, Nat.lor r w⟩
def pack (ops : Array Oper) : List Nat → Log → List Pk
  | m :: ms, (i, o, d) :: r => pkOf i m (Nat.lor (bitsT (dstL o)) (bitsB (wrL d.wr))) (Nat.lor (bitsT (o.looksAt ops)) (bitsB d.rd)) :: pack ops ms r
  | _, _ => []
def pairP (x y : Pk) : Bool := Nat.testBit y.pred x.i || (Nat.beq (Nat.land x.w y.rw) 0 && Nat.beq (Nat.land y.w x.r) 0)
def pairsR (x : Pk) : List Pk → Bool
  | [] => true
  | y :: r => pairP x y && pairsR x r
def pairs : List Pk → Bool
  | [] => true
  | x :: r => pairsR x r && pairs r
def okDraw (ops : Array Oper) (l : Log) : Bool := down ops.toList 0 && pairs (pack ops (masks ops.toList []) l)

section
variable {ds : List Deferred} {P : Program} {call : CallF} {ω : Orc} {ops : Array Oper} {base lo : Nat}

theorem memN_iff {b : Nat} : ∀ {l : List Nat}, memN b l = true ↔ b ∈ l
  | [] => by simp [memN]
  | c :: r => by simp [memN, memN_iff (l := r)]
theorem wrL_eq : ∀ (l : List (Nat × Option ABlk)), wrL l = l.map (·.1)
  | [] => rfl
  | (b, k) :: r => by simp [wrL, wrL_eq r]
theorem bitsT_in {t : Nat} : ∀ {l : List Nat}, t ∈ l → (bitsT l).testBit (2 * t) = true
  | [], h => by cases h
  | c :: r, h => by
    show (2 ^ (2 * c) ||| bitsT r).testBit (2 * t) = true
    rw [Nat.testBit_or, Bool.or_eq_true]
    rcases List.mem_cons.1 h with rfl | h
    · exact .inl (by simp)
    · exact .inr (bitsT_in h)
theorem bitsB_in {t : Nat} : ∀ {l : List Nat}, t ∈ l → (bitsB l).testBit (2 * t + 1) = true
  | [], h => by cases h
  | c :: r, h => by
    show (2 ^ (2 * c + 1) ||| bitsB r).testBit (2 * t + 1) = true
    rw [Nat.testBit_or, Bool.or_eq_true]
    rcases List.mem_cons.1 h with rfl | h
    · exact .inl (by simp)
    · exact .inr (bitsB_in h)
theorem land_zero {a b t : Nat} (h : Nat.beq (Nat.land a b) 0 = true) (ha : a.testBit t = true) : b.testBit t = false := by
  have h0 : a &&& b = 0 := Nat.eq_of_beq_eq_true h
  have : (a &&& b).testBit t = false := by rw [h0]; simp
  rw [Nat.testBit_and, ha, Bool.true_and] at this
  exact this
theorem lorT {a b t : Nat} (h : a.testBit t = true ∨ b.testBit t = true) : (Nat.lor a b).testBit t = true := by
  show (a ||| b).testBit t = true
  rw [Nat.testBit_or, Bool.or_eq_true]
  exact h
theorem pairP_spec {i j m n : Nat} {r s : Rec} (h : pairP (pkOf i m (Nat.lor (bitsT (dstL r.o)) (bitsB (wrL r.d.wr))) (Nat.lor (bitsT (r.o.looksAt ops)) (bitsB r.d.rd))) (pkOf j n (Nat.lor (bitsT (dstL s.o)) (bitsB (wrL s.d.wr))) (Nat.lor (bitsT (s.o.looksAt ops)) (bitsB s.d.rd))) = true) :
    n.testBit i = true ∨ r.apart ops s := by
  simp only [pairP, pkOf, Bool.or_eq_true, Bool.and_eq_true] at h
  rcases h with h | ⟨h1, h2⟩
  · exact .inl h
  refine .inr ⟨?_, fun b hb => ⟨fun hb2 => ?_, fun hb2 => ?_⟩, fun b hb hb2 => ?_⟩
  · unfold Oper.apart
    have k1 : ∀ d, r.o.dst = some d → d ∉ s.o.looksAt ops ∧ s.o.dst ≠ some d := by
      intro d hd
      have hb := land_zero (t := 2 * d) h1 (lorT (.inl (bitsT_in (by simp [dstL, hd]))))
      refine ⟨fun hm => ?_, fun hm => ?_⟩
      · rw [lorT (.inl (lorT (.inl (bitsT_in hm))))] at hb; cases hb
      · rw [lorT (.inr (lorT (.inl (bitsT_in (by simp [dstL, hm])))))] at hb; cases hb
    have k2 : ∀ d, s.o.dst = some d → d ∉ r.o.looksAt ops := by
      intro d hd hm
      have hb := land_zero (t := 2 * d) h2 (lorT (.inl (bitsT_in (by simp [dstL, hd]))))
      rw [lorT (.inl (bitsT_in hm))] at hb; cases hb
    cases hx : r.o.dst <;> cases hy : s.o.dst <;> simp
    · exact k2 _ hy
    · exact (k1 _ hx).1
    · exact ⟨⟨(k1 _ hx).1, fun he => (k1 _ hx).2 (by rw [hy, he])⟩, k2 _ hy⟩
  · have hz := land_zero (t := 2 * b + 1) h1 (lorT (.inr (bitsB_in (by rw [wrL_eq]; exact hb))))
    rw [lorT (.inl (lorT (.inr (bitsB_in hb2))))] at hz; cases hz
  · have hz := land_zero (t := 2 * b + 1) h1 (lorT (.inr (bitsB_in (by rw [wrL_eq]; exact hb))))
    rw [lorT (.inr (lorT (.inr (bitsB_in (by rw [wrL_eq]; exact hb2)))))] at hz; cases hz
  · have hz := land_zero (t := 2 * b + 1) h2 (lorT (.inr (bitsB_in (by rw [wrL_eq]; exact hb))))
    rw [lorT (.inr (bitsB_in hb2))] at hz; cases hz
theorem nwIn_spec {j : Nat} : ∀ {l : List Nat}, nwIn base j l = true → ∀ b ∈ l, base + 64 * j ≤ b ∧ b < base + 64 * (j + 1)
  | [], _, b, hb => by cases hb
  | c :: r, h, b, hb => by
    simp only [nwIn, Bool.and_eq_true, Nat.ble_eq, Nat.blt_eq] at h
    rcases List.mem_cons.1 hb with rfl | hb
    · exact h.1
    · exact nwIn_spec h.2 b hb
theorem maskE_spec {acc : List Nat} {y : Nat} : ∀ {l : List Edge}, (maskE acc l).testBit y = true → ∃ e ∈ l, Region.binds .any e = true ∧ (y = e.on ∨ (acc.getD e.on 0).testBit y = true)
  | [], h => by simp [maskE] at h
  | e :: r, h => by
    simp only [maskE] at h
    split at h
    · rename_i hb
      simp only [Nat.testBit_or, Bool.or_eq_true, Nat.testBit_two_pow, decide_eq_true_eq] at h
      rcases h with (h | h) | h
      · exact ⟨e, by simp, hb, .inl h.symm⟩
      · exact ⟨e, by simp, hb, .inr h⟩
      · obtain ⟨e', he', h1, h2⟩ := maskE_spec h
        exact ⟨e', by simp [he'], h1, h2⟩
    · obtain ⟨e', he', h1, h2⟩ := maskE_spec h
      exact ⟨e', by simp [he'], h1, h2⟩
theorem masks_old : ∀ (l : List Oper) (acc : List Nat) (j : Nat), j < acc.length → (masks l acc).getD j 0 = acc.getD j 0
  | [], acc, j, _ => rfl
  | o :: r, acc, j, hj => by
    simp only [masks]
    rw [masks_old r _ j (by simp; omega)]
    simp [List.getD_eq_getElem?_getD, List.getElem?_append_left hj]
theorem masks_spec : ∀ (l : List Oper) (acc : List Nat) (i : Nat) (o : Oper) (y : Nat), l[i]? = some o → ((masks l acc).getD (acc.length + i) 0).testBit y = true → (∀ e ∈ o.after, Region.binds .any e = true → e.on < acc.length + i) →
    ∃ e ∈ o.after, Region.binds .any e = true ∧ (y = e.on ∨ ((masks l acc).getD e.on 0).testBit y = true)
  | [], acc, i, o, y, ho, _, _ => by simp at ho
  | o0 :: r, acc, 0, o, y, ho, h, hd => by
    simp only [List.getElem?_cons_zero, Option.some.injEq] at ho
    subst ho
    simp only [masks, Nat.add_zero] at h hd ⊢
    rw [masks_old r _ acc.length (by simp)] at h
    simp only [List.getD_eq_getElem?_getD, List.getElem?_append_right (Nat.le_refl _), Nat.sub_self, List.getElem?_cons_zero, Option.getD_some] at h
    obtain ⟨e, he, hb, hc⟩ := maskE_spec h
    have he' : e ∈ o0.after := by simpa using he
    refine ⟨e, he', hb, hc.imp id fun hc => ?_⟩
    have hlt := hd e he' hb
    rw [masks_old r _ e.on (by simp; omega)]
    rw [List.getD_eq_getElem?_getD, List.getElem?_append_left hlt, ← List.getD_eq_getElem?_getD]
    exact hc
  | o0 :: r, acc, i + 1, o, y, ho, h, hd => by
    simp only [List.getElem?_cons_succ] at ho
    simp only [masks] at h ⊢
    have := masks_spec r (acc ++ [maskE acc o0.after.toList]) i o y ho (by simpa [Nat.add_assoc, Nat.add_comm 1 i] using h) (fun e he hb => by have := hd e he hb; simp; omega)
    exact this
theorem downE_spec {j : Nat} : ∀ {l : List Edge}, downE j l = true → ∀ e ∈ l, Region.binds .any e = true → e.on < j
  | [], _, e, he, _ => by cases he
  | e0 :: r, h, e, he, hb => by
    simp only [downE, Bool.and_eq_true, Bool.or_eq_true, Bool.not_eq_true', Nat.blt_eq] at h
    rcases List.mem_cons.1 he with rfl | he
    · exact h.1.resolve_left (by simp [hb])
    · exact downE_spec h.2 e he hb
theorem down_spec : ∀ {l : List Oper} {j : Nat}, down l j = true → ∀ i o, l[i]? = some o → ∀ e ∈ o.after, Region.binds .any e = true → e.on < j + i
  | [], j, _, i, o, ho, _, _, _ => by simp at ho
  | o0 :: r, j, h, 0, o, ho, e, he, hb => by
    simp only [List.getElem?_cons_zero, Option.some.injEq] at ho
    subst ho
    simp only [down, Bool.and_eq_true] at h
    exact downE_spec h.1 e (by simpa using he) hb
  | o0 :: r, j, h, i + 1, o, ho, e, he, hb => by
    simp only [List.getElem?_cons_succ] at ho
    simp only [down, Bool.and_eq_true] at h
    have := down_spec h.2 i o ho e he hb
    omega
theorem pairsR_spec {x : Pk} : ∀ {l : List Pk}, pairsR x l = true → ∀ p ∈ l, pairP x p = true
  | [], _, p, hp => by cases hp
  | y :: r, h, p, hp => by
    simp only [pairsR, Bool.and_eq_true] at h
    rcases List.mem_cons.1 hp with rfl | hp
    · exact h.1
    · exact pairsR_spec h.2 p hp
theorem pack_in : ∀ {L : List Rec} {ms : List Nat} {j : Nat} {s : Rec}, L.length ≤ ms.length → L.map (·.i) = List.range' j L.length → s ∈ L →
    pkOf s.i (ms.getD (s.i - j) 0) (Nat.lor (bitsT (dstL s.o)) (bitsB (wrL s.d.wr))) (Nat.lor (bitsT (s.o.looksAt ops)) (bitsB s.d.rd)) ∈ pack ops ms (L.map (fun r => (r.i, r.o, r.d)))
  | [], ms, j, s, _, _, hs => by cases hs
  | r :: L, [], j, s, hl, _, _ => by simp at hl
  | r :: L, m :: ms, j, s, hl, hr, hs => by
    simp only [List.map_cons, List.length_cons, List.range'_succ, List.cons.injEq] at hr
    simp only [List.map_cons, pack]
    rcases List.mem_cons.1 hs with rfl | hs'
    · rw [hr.1, Nat.sub_self]; simp
    · refine List.mem_cons_of_mem _ ?_
      have h1 : s.i ∈ L.map (·.i) := List.mem_map.2 ⟨s, hs', rfl⟩
      rw [hr.2, List.mem_range'_1] at h1
      have := pack_in (L := L) (ms := ms) (j := j + 1) (s := s) (by simpa using hl) hr.2 hs'
      rw [show s.i - j = (s.i - (j + 1)) + 1 by omega, List.getD_cons_succ]
      exact this
theorem pairs_spec : ∀ {L : List Rec} {ms : List Nat} {j : Nat}, L.length ≤ ms.length → L.map (·.i) = List.range' j L.length → pairs (pack ops ms (L.map (fun r => (r.i, r.o, r.d)))) = true →
    L.Pairwise (fun r s => (ms.getD (s.i - j) 0).testBit r.i = true ∨ r.apart ops s)
  | [], _, _, _, _, _ => .nil
  | r :: L, [], j, hl, _, _ => by simp at hl
  | r :: L, m :: ms, j, hl, hr, h => by
    simp only [List.map_cons, pack, pairs, Bool.and_eq_true] at h
    have hr' := hr
    simp only [List.map_cons, List.length_cons, List.range'_succ, List.cons.injEq] at hr'
    refine List.pairwise_cons.2 ⟨fun s hs => ?_, ?_⟩
    · have h1 : s.i ∈ L.map (·.i) := List.mem_map.2 ⟨s, hs, rfl⟩
      rw [hr'.2, List.mem_range'_1] at h1
      have hin := pack_in (ops := ops) (L := L) (ms := ms) (j := j + 1) (s := s) (by simpa using hl) hr'.2 hs
      rw [show s.i - j = (s.i - (j + 1)) + 1 by omega, List.getD_cons_succ]
      exact pairP_spec (pairsR_spec h.1 _ hin)
    · refine (pairs_spec (j := j + 1) (by simpa using hl) hr'.2 h.2).imp_of_mem fun {r' s'} _ hs' hh => ?_
      have h1 : s'.i ∈ L.map (·.i) := List.mem_map.2 ⟨s', hs', rfl⟩
      rw [hr'.2, List.mem_range'_1] at h1
      rw [show s'.i - j = (s'.i - (j + 1)) + 1 by omega, List.getD_cons_succ]
      exact hh
theorem masks_length : ∀ (l : List Oper) (acc : List Nat), (masks l acc).length = acc.length + l.length
  | [], acc => rfl
  | o :: r, acc => by simp only [masks, masks_length r, List.length_append, List.length_cons, List.length_nil]; omega

theorem refine0_eq {v u : Value} {ps : List Prop} (h : refine0 v u = some ps) (hp : Ob ps) : v = u := by
  unfold refine0 at h
  split at h
  · cases h; rw [hp _ (List.mem_singleton.2 rfl)]
  · split at h
    · rename_i hk
      cases h
      rw [hk, hp _ (List.mem_singleton.2 rfl)]
    · cases h
  · cases h; rw [hp _ (List.mem_singleton.2 rfl)]
  · cases h
theorem refineL_eq {f : Value → Value → Option (List Prop)} (hf : ∀ v u ps, f v u = some ps → Ob ps → v = u) : ∀ {l m : List Value} {ps : List Prop}, refineL f l m = some ps → Ob ps → l = m
  | [], [], _, _, _ => rfl
  | [], _ :: _, _, h, _ => by cases h
  | _ :: _, [], _, h, _ => by cases h
  | v :: r, u :: t, ps, h, hp => by
    simp only [refineL] at h
    split at h
    · rename_i p q h1 h2
      cases h
      rw [hf _ _ _ h1 hp.left, refineL_eq hf h2 hp.right]
    · cases h
theorem refine1_eq {v u : Value} {ps : List Prop} (h : refine1 v u = some ps) (hp : Ob ps) : v = u := by
  unfold refine1 at h
  split at h
  · rw [Array.toList_inj.1 (refineL_eq (fun _ _ _ => refine0_eq) h hp)]
  · exact refine0_eq h hp
theorem refineV_eq {v u : Value} {ps : List Prop} (h : refineV v u = some ps) (hp : Ob ps) : v = u := by
  unfold refineV at h
  split at h
  · rw [Array.toList_inj.1 (refineL_eq (fun _ _ _ => refine1_eq) h hp)]
  · exact refine1_eq h hp
theorem opqV_ok {ev : Operand → Value} {o : Oper} {u : Value} {d : Did} {ps : List Prop} (hd : opqV P ev o u = some (d, ps)) (hp : Ob ps) (h : HF) : OpOKL P lo o ev h d ∧ d.nw = [] := by
  unfold opqV at hd
  split at hd
  case h_2 => cases hd
  rename_i op t x y yt ho
  split at hd
  case h_2 => cases hd
  rename_i e i n c n' c' hu hx hy
  have key : ∀ (D : Nat → Prop) (ρ : Nat → Pl) (w : World) (a : Act), 0 < n → (∀ x ∈ o.op.operands, VR D ρ (ev x) (a.eval x)) → WR (szP P) D ρ h w → ∃ p n1 c1 n2 c2, a.eval x = .slice (some p) n1 c1 ∧ a.eval y = .slice none n2 c2 := by
    intro D ρ w a h0 hv hw
    have hvx := hv x (by simp [ho, Op.operands])
    have hvy := hv y (by simp [ho, Op.operands])
    rw [hx] at hvx
    rw [hy] at hvy
    obtain ⟨hl, hux, _⟩ := hvx.opq_inv
    obtain ⟨p, hp', _⟩ := hw.raw.addr (i := i) (by rw [hl]; exact h0)
    rw [hp'] at hux
    exact ⟨p, _, _, _, _, hux, hvy.flat0_eq rfl⟩
  split at hd
  · cases hd
    have h0 := hp _ (List.mem_singleton.2 rfl)
    refine ⟨(opOK_still fun D ρ w a hv hw => ⟨.bool false, ?_, .scal _ rfl⟩).toL, rfl⟩
    obtain ⟨p, n1, c1, n2, c2, ex, ey⟩ := key D ρ w a h0 hv hw
    have h5 : (Op.equal t (a.eval x) (a.eval y)).run P w = .ok false w := by
      rw [ex, ey]
      have h6 : ∀ k, (Op.equalIn (k + 1) t (.slice (some p) n1 c1) (.slice none n2 c2)).run P w = .ok false w := fun k => by
        simp [Op.equalIn, Sem.run_bind, run_underlying hu w]
      exact h6 9999
    have h2 : (eqGuard .eql t x y (a.eval x) (a.eval y)).run P w = .ok () w := by
      rw [ex, ey]; unfold eqGuard; simp [Sem.run_bind]
    have h3 : binOp .eql t (a.eval x) (a.eval y) = (do pure (.bool (← Op.equal t (a.eval x) (a.eval y)))) := by rw [ex, ey]; rfl
    simp [execOp, ho, Sem.run_bind, h2, h3, h5]
  · cases hd
    have h0 := hp _ (List.mem_singleton.2 rfl)
    refine ⟨(opOK_still fun D ρ w a hv hw => ⟨.bool true, ?_, .scal _ rfl⟩).toL, rfl⟩
    obtain ⟨p, n1, c1, n2, c2, ex, ey⟩ := key D ρ w a h0 hv hw
    have h5 : (Op.equal t (a.eval x) (a.eval y)).run P w = .ok false w := by
      rw [ex, ey]
      have h6 : ∀ k, (Op.equalIn (k + 1) t (.slice (some p) n1 c1) (.slice none n2 c2)).run P w = .ok false w := fun k => by
        simp [Op.equalIn, Sem.run_bind, run_underlying hu w]
      exact h6 9999
    have h2 : (eqGuard .neq t x y (a.eval x) (a.eval y)).run P w = .ok () w := by
      rw [ex, ey]; unfold eqGuard; simp [Sem.run_bind]
    have h3 : binOp .neq t (a.eval x) (a.eval y) = (do pure (.bool (!(← Op.equal t (a.eval x) (a.eval y))))) := by rw [ex, ey]; rfl
    simp [execOp, ho, Sem.run_bind, h2, h3, h5]
  · cases hd
theorem hardV_ok {ev : Operand → Value} {o : Oper} {u : Value} {d : Did} {ps : List Prop} (hd : hardV P ev o u = some (d, ps)) (hp : Ob ps) (h : HF) : OpOKL P lo o ev h d ∧ d.nw = [] := by
  unfold hardV at hd
  split at hd
  case isFalse => exact opqV_ok hd hp h
  rename_i hc
  have hsel : ∀ cs b, o.op ≠ .select cs b := fun cs b e => by have := hc.2.1; rw [e] at this; cases this
  cases hd
  exact ⟨(opOK_flat hsel hc.1 (hp _ (by simp)) hc.2.2).toL, rfl⟩
theorem idxV_ok {ev : Operand → Value} {o : Oper} {j : Nat} {d : Did} {ps : List Prop} (hd : idxV P ev o j = some (d, ps)) (hp : Ob ps) (h : HF) : OpOKL P lo o ev h d ∧ d.nw = [] := by
  unfold idxV at hd
  split at hd
  case h_2 => cases hd
  rename_i t x ix ho
  split at hd
  case h_3 => cases hd
  · rename_i k i e b off len cap hix hu hx
    split at hd
    case h_2 => cases hd
    rename_i n hn
    cases hd
    have hc := hp _ (List.mem_singleton.2 rfl)
    have : aIndexAddr P ev t x ix = some ⟨.pointer (some ⟨b, off + j * n, none⟩), [], [], []⟩ := by
      unfold aIndexAddr
      simp only [hix, hu, hx, hn]
      rw [if_pos ⟨hc.1, hc.2.1⟩, hc.2.2]
    exact ⟨(aIndexAddr_ok ho this).toL, rfl⟩
  · rename_i k i e b off len cap hix hu hx
    split at hd
    case h_2 => cases hd
    rename_i n hn
    cases hd
    have hc := hp _ (List.mem_singleton.2 rfl)
    have : aIndexAddr P ev t x ix = some ⟨.pointer (some ⟨b, off + j * n, some 2⟩), [], [], []⟩ := by
      unfold aIndexAddr
      simp only [hix, hu, hx, hn]
      rw [if_pos ⟨hc.1, hc.2.1⟩, hc.2.2]
    exact ⟨(aIndexAddr_ok ho this).toL, rfl⟩
theorem ob_head {p : Prop} {l : List Prop} (h : Ob (p :: l)) : p := h p (List.mem_cons.2 (.inl rfl))
theorem ob_tail {p : Prop} {l : List Prop} (h : Ob (p :: l)) : Ob l := fun q hq => h q (List.mem_cons.2 (.inr hq))
theorem saidL_eq {l : List Value} {cs : Option (List Value)} (h : Ob (saidL l cs).2) : (saidL l cs).1 = l := by
  cases cs with
  | none => rfl
  | some c => exact (ob_head h).symm
theorem srcS_spec {H : Heap} {n m : Nat} {x : Value} {news : List Value} {rd : List Nat} {ps : List Prop} (h : srcS P H n x = some (m, news, rd, ps)) (hp : Ob ps) : srcCells P H n x = some (m, news, rd) := by
  unfold srcS at h
  split at h
  · rename_i b o m' c
    split at h
    · rename_i k hk
      cases h
      have := ob_head hp
      unfold srcCells
      simp only [hk, if_pos this]
    · cases h
  · cases h
    have := ob_head hp
    unfold srcCells
    simp only
    by_cases h0 : m = 0
    · subst h0; rw [if_pos rfl, Nat.zero_mul, List.take_zero]
    · rw [if_neg h0, if_pos ⟨this.1, this.2.resolve_left h0⟩]
  · split at h
    · rename_i h1
      cases h
      exact h1
    · cases h
theorem FlatL.flat {l : List Value} (h : FlatL l) : l.all clo0 = true := List.all_eq_true.2 fun v hv => (h v hv).1
theorem FlatL.one {l : List Value} (h : FlatL l) : l.all (·.oneCell') = true := List.all_eq_true.2 fun v hv => (h v hv).2
theorem appA_ok {ev : Operand → Value} {H : Heap} {t tx : TypeId} {s x : Operand} {nid arm : Nat} {cs : Option (List Value)} {d : Did} {ps : List Prop} (hd : appA P ev H t tx s x nid arm cs = some (d, ps)) (hp : Ob ps) : aAppend P ev H t tx s x nid = some d := by
  unfold appA at hd
  split at hd
  case h_2 => cases hd
  rename_i e dd ht htx
  split at hd
  case h_2 => cases hd
  rename_i i hi
  split at hd
  case h_2 => cases hd
  rename_i z hz
  split at hd
  case isFalse => cases hd
  rename_i h1
  split at hd
  · split at hd
    case h_2 => cases hd
    rename_i m nw rd ps' hs
    split at hd
    · rename_i hsv
      cases hd
      unfold aAppend
      simp only [ht, htx, hi, hz, if_pos h1, srcS_spec hs (ob_tail hp), Option.bind_some, hsv]
      rw [if_pos (ob_head hp)]
    · rename_i b0 o0 hsv
      cases hd
      unfold aAppend
      simp only [ht, htx, hi, hz, if_pos h1, srcS_spec hs (ob_tail hp), Option.bind_some, hsv]
      rw [if_pos (ob_head hp)]
    · rename_i b off len cap hsv
      split at hd
      case h_2 => cases hd
      rename_i k hk
      cases hd
      unfold aAppend
      simp only [ht, htx, hi, hz, if_pos h1, srcS_spec hs (ob_tail hp), Option.bind_some, hsv, hk]
      rw [if_pos (ob_head hp)]
    · cases hd
  · split at hd
    case h_2 => cases hd
    rename_i m nw rd ps' hs
    split at hd
    · rename_i hsv
      cases hd
      obtain ⟨c1, c2, c3, c4⟩ := ob_head hp
      have hsd := saidL_eq (ob_tail hp).left
      unfold aAppend
      simp only [ht, htx, hi, hz, if_pos h1, srcS_spec hs (ob_tail hp).right, Option.bind_some, hsv, hsd]
      rw [if_neg c1, if_pos ⟨c2, c3, c4.one⟩]
      unfold mdOf
      rw [if_pos c4.flat]
    · rename_i b0 o0 hsv
      cases hd
      obtain ⟨c1, c2, c3, c4⟩ := ob_head hp
      have hsd := saidL_eq (ob_tail hp).left
      unfold aAppend
      simp only [ht, htx, hi, hz, if_pos h1, srcS_spec hs (ob_tail hp).right, Option.bind_some, hsv, hsd]
      rw [if_neg c1, if_pos ⟨c2, c3, c4.one⟩]
      unfold mdOf
      rw [if_pos c4.flat]
    · cases hd
  · split at hd
    case h_2 => cases hd
    rename_i m news rd hs
    split at hd
    case h_2 => cases hd
    rename_i b len cap hsv
    split at hd
    case h_2 => cases hd
    rename_i k hk
    split at hd
    case isFalse => cases hd
    rename_i h2
    cases hd
    have hc := ob_head hp
    have hsd := saidL_eq (ob_tail hp)
    unfold aAppend
    simp only [ht, htx, hi, hz, if_pos h1, hs, Option.bind_some, hsv, hk, hsd]
    rw [if_neg h2.1, if_pos ⟨hc.1, hc.2.1, h2.2.1⟩, if_pos h2.2.2.1, if_pos ⟨trivial, hc.2.2, h2.2.2.2⟩]
  · split at hd
    case h_2 => cases hd
    rename_i m news rd ps' hs
    split at hd
    case h_2 => cases hd
    rename_i b len cap hsv
    split at hd
    case h_2 => cases hd
    rename_i k hk
    split at hd
    case isFalse => cases hd
    rename_i h2
    cases hd
    obtain ⟨c1, c2, c3, c4, c5⟩ := ob_head hp
    have hsd := saidL_eq (ob_tail hp).left
    unfold aAppend
    simp only [ht, htx, hi, hz, if_pos h1, srcS_spec hs (ob_tail hp).right, Option.bind_some, hsv, hk, hsd]
    rw [if_neg c1, if_pos ⟨c2, c3, c5.one⟩, if_pos (by rw [h2.1]), if_pos ⟨trivial, c4, h2.2⟩]
    unfold mdUp
    rw [if_pos ⟨h2.1, c5.flat⟩]
  · split at hd
    case h_2 => cases hd
    rename_i m news rd ps' hs
    split at hd
    case h_2 => cases hd
    rename_i b off len cap hsv
    split at hd
    case h_2 => cases hd
    rename_i k hk
    split at hd
    case isFalse => cases hd
    rename_i h2
    cases hd
    obtain ⟨c1, c2, c3, c4, c5, c6⟩ := ob_head hp
    have hsd := saidL_eq (ob_tail hp).left
    have hone : news.all (·.oneCell') = true := List.all_eq_true.2 fun v hv => (c6 v (List.mem_append.2 (.inr hv))).2
    unfold aAppend
    simp only [ht, htx, hi, hz, if_pos h1, srcS_spec hs (ob_tail hp).right, Option.bind_some, hsv, hk, hsd]
    rw [if_neg c1, if_pos ⟨c3, c4, hone⟩, if_neg (by omega), if_neg c2, if_pos c5]
    unfold mdOf
    rw [if_pos c6.flat]
  · cases hd
theorem appV_ok {ev : Operand → Value} {H : Heap} {o : Oper} {nid arm : Nat} {cs : Option (List Value)} {d : Did} {ps : List Prop} (hd : appV P ev H o nid arm cs = some (d, ps)) (hp : Ob ps) {h : HF} (hr : ∀ b ∈ d.rd, h b = hget H b) : OpOKL P lo o ev h d := by
  unfold appV at hd
  split at hd
  case h_2 => cases hd
  rename_i s x t tx ho
  exact (aAppend_ok ho (appA_ok hd hp) hr).toL
theorem divV_ok {ev : Operand → Value} {o : Oper} {d : Did} {ps : List Prop} (hd : divV P ev o = some (d, ps)) (hp : Ob ps) (h : HF) : OpOKL P lo o ev h d ∧ d.nw = [] := by
  unfold divV at hd
  split at hd
  · rename_i t x y yt ho
    split at hd
    case h_2 => cases hd
    rename_i k a k' b hx hy
    split at hd
    case isFalse => cases hd
    rename_i hk
    subst hk
    cases hd
    have hb : b ≠ 0 := ob_head hp
    refine ⟨(opOK_still fun D ρ w a' hv hw => ⟨.int k (k.wrap (a.tdiv b)), ?_, .scal _ rfl⟩).toL, rfl⟩
    have h1 := hv x (by simp [ho, Op.operands])
    have h2 := hv y (by simp [ho, Op.operands])
    rw [hx] at h1
    rw [hy] at h2
    simp [execOp, ho, h1.int_inv, h2.int_inv, eqGuard, binOp, Op.intDiv, hb, Sem.run_bind]
  · rename_i t x y yt ho
    split at hd
    case h_2 => cases hd
    rename_i k a k' b hx hy
    split at hd
    case isFalse => cases hd
    rename_i hk
    subst hk
    cases hd
    have hb : b ≠ 0 := ob_head hp
    refine ⟨(opOK_still fun D ρ w a' hv hw => ⟨.int k (a.tmod b), ?_, .scal _ rfl⟩).toL, rfl⟩
    have h1 := hv x (by simp [ho, Op.operands])
    have h2 := hv y (by simp [ho, Op.operands])
    rw [hx] at h1
    rw [hy] at h2
    simp [execOp, ho, h1.int_inv, h2.int_inv, eqGuard, binOp, Op.intDiv, hb, Sem.run_bind]
  · cases hd
theorem stV_ok {ev : Operand → Value} {H : Heap} {o : Oper} {cs : Option (List Value)} {d : Did} {ps : List Prop} (hd : stV P ev H o cs = some (d, ps)) (hp : Ob ps) {h : HF} (hr : ∀ b ∈ d.rd, h b = hget H b) : OpOKL P lo o ev h d := by
  unfold stV at hd
  split at hd
  · rename_i t x y ho
    split at hd
    case h_2 => cases hd
    rename_i b off hx
    split at hd
    case h_2 => cases hd
    rename_i k n hk hn
    split at hd
    case isFalse => cases hd
    rename_i hc
    cases hd
    have hsd := saidL_eq (ob_tail hp)
    have : aStore P ev H t x y = some ⟨undef, [b], [(b, some { k with cells := (saidL (splice k.cells off (ev y).cells.toList) cs).1 })], []⟩ := by
      unfold aStore
      simp only [hx, hk, hn, hsd]
      rw [if_pos ⟨hc.1, hc.2.1, ob_head hp, hc.2.2.1, hc.2.2.2⟩]
    exact (aStore_ok ho this hr).toL
  · rename_i x t ho
    split at hd
    · rename_i e b off n c hu hx
      cases hd
      have h0 : n = 0 := ob_head hp
      subst h0
      have : aClear P ev H t x = some ⟨.tuple #[], [], [], []⟩ := by
        unfold aClear
        simp only [hu, hx]
      exact (aClear_ok ho this hr).toL
    · rename_i e b off n c cl hu hx
      split at hd
      case h_2 => cases hd
      rename_i k z hk hz
      cases hd
      obtain ⟨c0, c1, c2, c3, c4, c5⟩ : n ≠ 0 ∧ _ := ob_head hp
      have e1 := ob_head (ob_tail hp)
      have : aClear P ev H t x = some ⟨.tuple #[], [b], [(b, some { k with cells := cl })], []⟩ := by
        unfold aClear
        cases n with
        | zero => exact absurd rfl c0
        | succ m =>
          simp only [hu, hx, hk, hz]
          rw [if_pos ⟨c1, c2, c3, c4, c5⟩, e1]
      exact (aClear_ok ho this hr).toL
    · cases hd
  · cases hd
theorem bndP_spec {ev : Operand → Value} {x : Option Operand} {dflt top r : Nat} {p : Prop} (h : bndP ev x dflt top r = some p) (hp : p) : bnd ev x dflt top = some r := by
  unfold bndP at h
  unfold bnd
  split at h
  · cases h; rw [hp]
  · split at h
    · rename_i k i hi
      cases h
      simp only [hi]
      rw [if_pos ⟨hp.1, hp.2.1⟩, hp.2.2]
    · cases h
theorem slV_ok {ev : Operand → Value} {H : Heap} {o : Oper} {arm l hh : Nat} {d : Did} {ps : List Prop} (hd : slV P ev H o arm l hh = some (d, ps)) (hp : Ob ps) {h : HF} (hr : ∀ b ∈ d.rd, h b = hget H b) : OpOKL P lo o ev h d := by
  unfold slV at hd
  split at hd
  case h_2 => cases hd
  rename_i t x lo' hi mx ho
  split at hd
  case h_2 => cases hd
  rename_i e b off len cap hu hx
  split at hd
  case h_2 => cases hd
  rename_i k n hk hn
  split at hd
  case isFalse => cases hd
  rename_i hn0
  suffices hS : aSlice P ev H t x lo' hi mx = some d from (aSlice_ok ho hS hr).toL
  split at hd
  · rename_i y
    split at hd
    case h_2 => cases hd
    rename_i p q r e1 e2 e3
    split at hd
    case isFalse => cases hd
    rename_i hc
    cases hd
    have o1 := ob_head hp
    have b1 := bndP_spec e1 (ob_head (ob_tail hp))
    have b2 := bndP_spec e2 (ob_head (ob_tail (ob_tail hp)))
    have b3 := bndP_spec e3 (ob_head (ob_tail (ob_tail (ob_tail hp))))
    unfold aSlice
    simp only [hu, hx, hk, hn, if_pos (show 0 < n ∧ len ≤ cap from ⟨hn0, o1⟩), Option.isSome_some, if_true, if_pos hc.1, b1, b2, b3, Option.bind_some]
  · split at hd
    · rename_i hm
      split at hd
      case h_2 => cases hd
      rename_i p q e1 e2
      split at hd
      · cases hd
        have o1 := ob_head hp
        have b1 := bndP_spec e1 (ob_head (ob_tail hp))
        have b2 := bndP_spec e2 (ob_head (ob_tail (ob_tail hp)))
        have o4 := ob_head (ob_tail (ob_tail (ob_tail hp)))
        unfold aSlice
        simp only [hu, hx, hk, hn, if_pos (show 0 < n ∧ len ≤ cap from ⟨hn0, o1⟩), Option.isSome_none, Bool.false_eq_true, if_false, if_pos hm, b1, b2, Option.bind_some, if_neg o4]
      · cases hd
        have o1 := ob_head hp
        have b1 := bndP_spec e1 (ob_head (ob_tail hp))
        have b2 := bndP_spec e2 (ob_head (ob_tail (ob_tail hp)))
        have o4 := ob_head (ob_tail (ob_tail (ob_tail hp)))
        unfold aSlice
        simp only [hu, hx, hk, hn, if_pos (show 0 < n ∧ len ≤ cap from ⟨hn0, o1⟩), Option.isSome_none, Bool.false_eq_true, if_false, if_pos hm, b1, b2, Option.bind_some, if_pos o4]
      · cases hd
    · rename_i hm
      split at hd
      case h_2 => cases hd
      rename_i p q e1 e2
      split at hd
      · cases hd
        have o1 := ob_head hp
        have b1 := bndP_spec e1 (ob_head (ob_tail hp))
        have b2 := bndP_spec e2 (ob_head (ob_tail (ob_tail hp)))
        have o4 := ob_head (ob_tail (ob_tail (ob_tail hp)))
        unfold aSlice
        simp only [hu, hx, hk, hn, if_pos (show 0 < n ∧ len ≤ cap from ⟨hn0, o1⟩), Option.isSome_none, Bool.false_eq_true, if_false, if_neg hm, b1, b2, Option.bind_some, if_pos o4]
      · cases hd
        have o1 := ob_head hp
        have b1 := bndP_spec e1 (ob_head (ob_tail hp))
        have b2 := bndP_spec e2 (ob_head (ob_tail (ob_tail hp)))
        have o4 := ob_head (ob_tail (ob_tail (ob_tail hp)))
        unfold aSlice
        simp only [hu, hx, hk, hn, if_pos (show 0 < n ∧ len ≤ cap from ⟨hn0, o1⟩), Option.isSome_none, Bool.false_eq_true, if_false, if_neg hm, b1, b2, Option.bind_some, if_neg o4.1, if_pos o4.2]
      · cases hd
        have o1 := ob_head hp
        have b1 := bndP_spec e1 (ob_head (ob_tail hp))
        have b2 := bndP_spec e2 (ob_head (ob_tail (ob_tail hp)))
        have o4 := ob_head (ob_tail (ob_tail (ob_tail hp)))
        unfold aSlice
        simp only [hu, hx, hk, hn, if_pos (show 0 < n ∧ len ≤ cap from ⟨hn0, o1⟩), Option.isSome_none, Bool.false_eq_true, if_false, if_neg hm, b1, b2, Option.bind_some, if_neg o4.1, if_neg o4.2]
      · cases hd
theorem mkV_ok {ev : Operand → Value} {o : Oper} {nid n : Nat} {cs : List Value} {d : Did} {ps : List Prop} (hd : mkV P ev o nid n cs = some (d, ps)) (hp : Ob ps) (h : HF) : OpOKL P lo o ev h d := by
  unfold mkV at hd
  split at hd
  case h_2 => cases hd
  rename_i t l c ho
  split at hd
  case h_2 => cases hd
  rename_i e k1 ln k2 cn hu hl hc
  split at hd
  case h_2 => cases hd
  rename_i i hi
  split at hd
  case h_2 => cases hd
  rename_i z hz
  split at hd
  case isFalse => cases hd
  rename_i hcond
  obtain ⟨c5, c6⟩ := hcond
  cases hd
  have o1 : ln = (n : Int) := ob_head hp
  have o2 : cn = (n : Int) := ob_head (ob_tail hp)
  obtain ⟨o3, o4⟩ : n ≤ 9223372036854775807 ∧ i.bytes * n ≤ 281474976710656 := ob_head (ob_tail (ob_tail hp))
  have o5 : (rowZero (n * i.size) z.cells).toList = cs := ob_head (ob_tail (ob_tail (ob_tail hp)))
  subst o1 o2 o5
  refine OpOK.toL ?_
  intro D ρ w a hv hw hn
  have h1 := hv l (by simp [ho, Op.operands])
  have h2 := hv c (by simp [ho, Op.operands])
  rw [hl] at h1
  rw [hc] at h2
  have e1 := h1.int_inv
  have e2 := h2.int_inv
  have w1 : IntKind.i64.wrap (n : Int) = (n : Int) := IntWalk.i64_in _ (by omega)
  have t1 : ¬ ((n : Int) < 0) := by omega
  have o4' : (i.bytes : Int) * (n : Int) ≤ 281474976710656 := by rw [← Int.natCast_mul]; omega
  have t2 : ¬ (281474976710656 < (i.bytes : Int) * (n : Int)) := by omega
  have row0 : (rowZero 0 z.cells) = #[] := by simp [rowZero]
  have hrun : (execOp a.eval o).run P w = .ok (.value (.slice (some ⟨w.heap.size, 0, none⟩) n n)) (w.alloc (.cells (rowZero (n * i.size) z.cells) e)) := by
    by_cases hzero : n * i.size = 0
    · rw [hzero, row0]
      simp [execOp, ho, e1, e2, Instr.makeSlice, asInt, asIntOf, Sem.run_bind, run_underlying hu w, typeInfo, sizeOf, hi, w1, t1, t2, askRoom, hzero, newRow, newObj, Sem.run, show Array.range 0 = #[] from rfl]
      try (split <;> simp [Sem.run_bind, Sem.run, mark, hzero, newRow, newObj, hi, typeInfo])
    · simp [execOp, ho, e1, e2, Instr.makeSlice, asInt, asIntOf, Sem.run_bind, run_underlying hu w, typeInfo, sizeOf, zeroValue, hi, hz, w1, t1, t2, askRoom, hzero, newRow, newObj, Sem.run, rowZero]
      try (split <;> simp [Sem.run_bind, Sem.run, mark, hzero, newRow, newObj, hi, hz, typeInfo])
  have hz0 : ∀ v ∈ (rowZero (n * i.size) z.cells).toList, flat0 v = true := by
    intro v hv
    unfold rowZero at hv
    simp only [Array.toList_map, List.mem_map] at hv
    obtain ⟨j, _, rfl⟩ := hv
    by_cases hj : j % z.cells.size < z.cells.size
    · rw [getElem!_pos z.cells _ hj]
      exact List.all_eq_true.1 c6 _ (Array.mem_toList_iff.2 (Array.getElem_mem hj))
    · rw [getElem!_neg z.cells _ hj]; rfl
  have hT := hw.grow (n := nid) (hn nid (by simp)) (md := 3) (xs := (rowZero (n * i.size) z.cells).toList) (cs := rowZero (n * i.size) z.cells) (t := e) (c := n) (.inr ⟨rfl, fun v hv => clo0_of (hz0 v hv)⟩)
    (by rw [szP_of hi]; simp [rowZero]) (by simp) (fun j v hv => ⟨v, by simpa using hv, .scal _ (hz0 v (List.mem_of_getElem? hv))⟩)
  unfold Gives
  rw [hrun]
  refine ⟨_, _, hT, ?_, fun b hb => hb.imp id (by rintro rfl; simp)⟩
  have := VR.slice (D := fun b => D b ∨ b = nid) (ρ := fun b => if b = nid then (⟨w.heap.size, 0, some n⟩ : Pl) else ρ b) nid 0 n n n (.inr rfl) (Nat.le_refl _) (by simp) (fun c hc _ => by simpa using hc)
  simpa using this
theorem callV_ok {ev : Operand → Value} {H : Heap} {o : Oper} {nid : Nat} {v : Value} {H1 : Heap} {d : Did} {ps : List Prop} (hd : callV P ev H o nid lo v H1 = some (d, ps)) (hp : Ob ps) {h : HF} (hr : ∀ b ∈ d.rd, h b = hget H b) : OpOKL P lo o ev h d := by
  unfold callV at hd
  split at hd
  case h_2 => cases hd
  rename_i g av Hs l d' hA hop
  cases hd
  refine aCallOp_ok' (fun g' av' Hs' l' v' H1' hA' hcall => ?_) hop hr
  rw [hA] at hA'
  cases hA'
  cases hcall
  exact hp _ (List.mem_singleton.2 rfl)
theorem ldV_ok {ev : Operand → Value} {H : Heap} {o : Oper} {u : Value} {d : Did} {ps : List Prop} (hd : ldV P ev H o u = some (d, ps)) (hp : Ob ps) {h : HF} (hr : ∀ b ∈ d.rd, h b = hget H b) : OpOKL P lo o ev h d := by
  unfold ldV at hd
  split at hd
  case h_2 => cases hd
  rename_i t x ho
  split at hd
  case h_3 => cases hd
  case h_2 =>
    rename_i b off hx
    split at hd
    · rename_i n hn ha
      split at hd
      case h_2 => cases hd
      rename_i us
      cases hd
      have hc := hp _ (List.mem_singleton.2 rfl)
      have h1 := loadQ_agg (h := h) ho hx hn ha hc.1 hc.2.1
      rw [hc.2.2] at h1
      exact h1.toL
    · rename_i n hn ha
      cases hd
      exact (loadQ_one ho hx ha (hp _ (List.mem_singleton.2 rfl))).toL
    · cases hd
  rename_i b off hx
  split at hd
  · rename_i k n hk hn ha
    split at hd
    case h_2 => cases hd
    rename_i us
    cases hd
    have hc := hp _ (List.mem_singleton.2 rfl)
    have : aLoad P ev H t x = some ⟨.agg us, [b], [], []⟩ := by
      unfold aLoad
      simp only [hx, hk, hn, ha]
      rw [if_pos hc.1, hc.2]
    exact (aLoad_ok ho this hr).toL
  · rename_i k n hk hn ha
    cases hd
    have hc := hp _ (List.mem_singleton.2 rfl)
    have : aLoad P ev H t x = some ⟨u, [b], [], []⟩ := by
      unfold aLoad
      simp only [hx, hk, hn, ha, hc]
    exact (aLoad_ok ho this hr).toL
  · cases hd
theorem ldV_nw {ev : Operand → Value} {H : Heap} {o : Oper} {u : Value} {d : Did} {ps : List Prop} (hd : ldV P ev H o u = some (d, ps)) : d.nw = [] := by
  unfold ldV at hd
  split at hd
  case h_2 => cases hd
  split at hd
  case h_3 => cases hd
  case h_2 =>
    split at hd
    · split at hd
      case h_2 => cases hd
      cases hd; rfl
    · cases hd; rfl
    · cases hd
  split at hd
  · split at hd
    case h_2 => cases hd
    cases hd; rfl
  · cases hd; rfl
  · cases hd
theorem softV_ok {u : Value} {d d' : Did} {ps : List Prop} (hd : softV d u = some (d', ps)) (hp : Ob ps) : d' = d := by
  unfold softV at hd
  split at hd
  · rename_i qs hq
    cases hd
    have := refineV_eq hq hp
    cases d
    simp only at this
    rw [this]
  · cases hd

/-- The log, as records. -/
theorem seqOps_spec (hc : CallSpec P call) : ∀ (l : List Oper) (j : Nat) (fr : List Value) (H : Heap) (g : Log) (fr' : List Value) (H' : Heap) (ps : List Prop), (∀ i, l[i]? = ops[j + i]?) → seqOps P call ω ops base lo l j fr H = some (g, fr', H', ps) → Ob ps →
    ∃ L : List Rec, L.map (fun r => (r.i, r.o, r.d)) = g ∧ L.map (·.i) = List.range' j l.length ∧ Chain ops L fr (hget H) fr' (hget H') ∧ Recs P ops lo base L
  | [], j, fr, H, g, fr', H', ps, hl, h, _ => by
    simp only [seqOps, Option.some.injEq, Prod.mk.injEq] at h
    obtain ⟨rfl, rfl, rfl, _⟩ := h
    exact ⟨[], rfl, rfl, .nil _ _, ⟨fun r hr => (by cases hr), fun r hr => (by cases hr), fun r hr => (by cases hr), .nil⟩⟩
  | o :: l, j, fr, H, g, fr', H', ps, hl, h, hps => by
    have h0 : ops[j]? = some o := by simpa using (hl 0).symm
    have hl' : ∀ i, l[i]? = ops[j + 1 + i]? := fun i => by have := hl (i + 1); simpa [Nat.add_assoc, Nat.add_comm 1 i] using this
    simp only [seqOps] at h
    split at h
    · rename_i d ps1 hd
      split at h
      · rename_i g' fr2 H2 qs hrec
        simp only [Option.some.injEq, Prod.mk.injEq] at h
        obtain ⟨rfl, rfl, rfl, rfl⟩ := h
        obtain ⟨L, e1, e2, e3, e4⟩ := seqOps_spec hc l (j + 1) _ _ _ _ _ _ hl' hrec hps.right
        rw [hget_hputs] at e3
        unfold stepR at hd
        split at hd
        case isFalse => cases hd
        rename_i hok
        have hok' : ∀ x ∈ o.op.operands, okX x = true := fun x hx => Array.all_eq_true_iff_forall_mem.1 hok.1 x hx
        have sorted : ∀ r ∈ L, j < r.i := fun r hr => by
          have : r.i ∈ L.map (·.i) := List.mem_map.2 ⟨r, hr, rfl⟩
          rw [e2, List.mem_range'_1] at this
          omega
        have fin : ∀ (want : Bool), Region.wanted o (yieldedA ops fr) = want → (want = true → (∀ x ∈ o.op.operands, isTop (evF fr x) = false) ∧ ∀ h, (∀ b ∈ d.rd, h b = hget H b) → OpOKL P lo o (evF fr) h d) → (want = false → d = noDid) → (∀ b ∈ d.nw, base + 64 * j ≤ b ∧ b < base + 64 * (j + 1)) →
            ∃ L : List Rec, L.map (fun r => (r.i, r.o, r.d)) = (j, o, d) :: g' ∧ L.map (·.i) = List.range' j (o :: l).length ∧ Chain ops L fr (hget H) fr2 (hget H2) ∧ Recs P ops lo base L := by
          intro want hw hgood hno hnum
          refine ⟨⟨j, o, want, d, evF fr, hget H⟩ :: L, by simp [e1], by simp [e2, List.range'_succ], .cons _ _ _ _ _ _ ⟨⟨hw, hok.2⟩, fun _ => ⟨fun x _ => rfl, fun b _ => rfl⟩⟩ e3, ⟨fun r hr => ?_, fun r hr => ?_, fun r hr => ?_, List.pairwise_cons.2 ⟨sorted, e4.sorted⟩⟩⟩
          · rcases List.mem_cons.1 hr with rfl | hr
            · exact ⟨hgood, hno, hok'⟩
            · exact e4.good r hr
          · rcases List.mem_cons.1 hr with rfl | hr
            · exact h0
            · exact e4.op r hr
          · rcases List.mem_cons.1 hr with rfl | hr
            · exact hnum
            · exact e4.num r hr
        split at hd
        · rename_i hw
          split at hd
          · cases hd
          rename_i hnt
          have hnt' : ∀ x ∈ o.op.operands, isTop (evF fr x) = false := by
            intro x hx
            cases hxt : isTop (evF fr x) with
            | false => rfl
            | true => exact absurd (Array.any_eq_true'.2 ⟨x, hx, hxt⟩) hnt
          split at hd
          · rename_i u hu
            have h1 := hardV_ok (lo := lo) hd hps.left
            exact fin true hw (fun _ => ⟨hnt', fun h _ => (h1 h).1⟩) (fun h => (by cases h)) (fun b hb => by rw [(h1 (hget H)).2] at hb; cases hb)
          · cases hd
          · have h1 := idxV_ok (lo := lo) hd hps.left
            exact fin true hw (fun _ => ⟨hnt', fun h _ => (h1 h).1⟩) (fun h => (by cases h)) (fun b hb => by rw [(h1 (hget H)).2] at hb; cases hb)
          · have h1 := ldV_nw hd
            exact fin true hw (fun _ => ⟨hnt', fun h hh => ldV_ok hd hps.left hh⟩) (fun h => (by cases h)) (fun b hb => by rw [h1] at hb; cases hb)
          · split at hd
            · rename_i d' ps' hop
              split at hd
              · rename_i hnw
                cases hd
                exact fin true hw (fun _ => ⟨hnt', fun h hh => callV_ok hop hps.left hh⟩) (fun h => (by cases h)) (nwIn_spec hnw)
              · cases hd
            · cases hd
          · split at hd
            · rename_i d' ps' hop
              split at hd
              · rename_i hnw
                cases hd
                exact fin true hw (fun _ => ⟨hnt', fun h hh => appV_ok hop hps.left hh⟩) (fun h => (by cases h)) (nwIn_spec hnw)
              · cases hd
            · cases hd
          · split at hd
            · rename_i d' ps' hop
              split at hd
              · rename_i hnw
                cases hd
                exact fin true hw (fun _ => ⟨hnt', fun h hh => stV_ok hop hps.left hh⟩) (fun h => (by cases h)) (nwIn_spec hnw)
              · cases hd
            · cases hd
          · split at hd
            · rename_i d' ps' hop
              split at hd
              · rename_i hnw
                cases hd
                exact fin true hw (fun _ => ⟨hnt', fun h hh => slV_ok hop hps.left hh⟩) (fun h => (by cases h)) (nwIn_spec hnw)
              · cases hd
            · cases hd
          · have h1 := fun h => divV_ok (lo := lo) hd hps.left h
            exact fin true hw (fun _ => ⟨hnt', fun h _ => (h1 h).1⟩) (fun h => (by cases h)) (fun b hb => by rw [(h1 (hget H)).2] at hb; cases hb)
          · split at hd
            · rename_i d' ps' hop
              split at hd
              · rename_i hnw
                cases hd
                exact fin true hw (fun _ => ⟨hnt', fun h hh => mkV_ok hop hps.left h⟩) (fun h => (by cases h)) (nwIn_spec hnw)
              · cases hd
            · cases hd
          · split at hd
            · rename_i hnw
              cases hd
              exact fin true hw (fun _ => ⟨hnt', fun h hh => OpOK.toL (aOpM_ok (hps.left _ (List.mem_singleton.2 rfl)) hh)⟩) (fun h => (by cases h)) (nwIn_spec hnw)
            · cases hd
          · split at hd
            · rename_i d' hop
              split at hd
              · rename_i hnw
                have := softV_ok hd hps.left
                subst this
                exact fin true hw (fun _ => ⟨hnt', fun h hh => aOp_ok hc hop hh⟩) (fun h => (by cases h)) (nwIn_spec hnw)
              · cases hd
            · cases hd
          · split at hd
            · rename_i d' hop
              split at hd
              · rename_i hnw
                cases hd
                exact fin true hw (fun _ => ⟨hnt', fun h hh => aOp_ok hc hop hh⟩) (fun h => (by cases h)) (nwIn_spec hnw)
              · cases hd
            · cases hd
        · rename_i hw
          cases hd
          exact fin false (by simpa using hw) (fun h => (by cases h)) (fun _ => rfl) (fun b hb => (by cases hb))
      · cases h
    · cases h

/-- A REGION: the engine's walk in the order of the text serves. -/
theorem region_wp (hc : CallSpec P call) (hm : P.follows .mixedOrders = true) {id : Nat} {draw : Bool} {D : Nat → Prop} {ρ : Nat → Pl} {fr fr' : List Value} {H H' : Heap} {a : Act} {w : World} {g : Log} {ps : List Prop} {Q : Exit → Act → World → Prop}
    (hs : seqOps P call ω ops base (base + 64 * ops.size) ops.toList 0 fr H = some (g, fr', H', ps)) (hps : Ob ps) (hd : draw = false ∨ okDraw ops g = true)
    (hb : ∀ b, D b → b < base) (hf : FR ds D ρ fr a) (hw : WR (szP P) D ρ (hget H) w)
    (hQ : ∀ D' ρ' a' w', T (szP P) D ρ (hget H) w D' ρ' (hget H') w' → FR ds D' ρ' fr' a' → (∀ b, D' b → b < base + 64 * ops.size) → (∀ b, D' b → D b ∨ base ≤ b) → Q .normal a' w') : (Code.region id ops draw).wp P Q a w := by
  obtain ⟨L, e1, e2, e3, e4⟩ := seqOps_spec hc ops.toList 0 fr H g fr' H' ps (fun i => by simp) hs hps
  cases draw with
  | false =>
    refine wp_region ?_
    rw [List.range_eq_range', ← Array.length_toList, ← e2]
    exact in_order rfl hQ L D ρ fr _ a w e4 e3 (fun b hb' => .inl (hb b hb')) hf (T.refl hw) (fun b hb' => .inl hb')
  | true =>
    have hd' := hd.resolve_left (by simp)
    simp only [okDraw, Bool.and_eq_true] at hd'
    have hdown := down_spec hd'.1
    have hlen : L.length = ops.size := by have := congrArg List.length e2; simpa using this
    have hpw := pairs_spec (ops := ops) (L := L) (ms := masks ops.toList []) (j := 0) (by rw [masks_length]; simp [hlen]) (by rw [e2]; simp [hlen]) (by rw [e1]; exact hd'.2)
    refine wp_region_any hm ?_
    rw [← hlen]
    refine any_order (tp := fun i y => ((masks ops.toList []).getD i 0).testBit y = true) rfl (fun i o y ho hy => ?_) (fun i o ho e he hbd => ?_) hQ _ L _ D ρ fr _ a w.drew rfl (by simp [hlen]) (fun i hi => ?_) (fun i y hi hl hy => ?_) e4 (by simpa using hpw) e3 (fun b hb' => .inl (hb b hb')) hf (T.drew hw) (fun b hb' => .inl hb')
    · have := masks_spec ops.toList [] i o y (by simpa using ho) (by simpa using hy) (fun e he hbd => by have := hdown i o (by simpa using ho) e he hbd; simpa using this)
      exact this
    · have := hdown i o (by simpa using ho) e he hbd
      omega
    · have hi' : i < L.length := by omega
      simp only [Array.getD, Array.size_replicate, hi', dite_true, Array.getInternal_eq_getElem, Array.getElem_replicate, true_iff]
      have : i ∈ L.map (·.i) := by rw [e2, List.mem_range'_1]; simp; omega
      obtain ⟨r, hr, hri⟩ := List.mem_map.1 this
      exact ⟨r, hr, hri⟩
    · exfalso
      have hi' : i < L.length := by omega
      simp [Array.getD, hi'] at hl
end
end Go.Proofs.Ytkdalfdfepipiaa
