/-
  Slices: what came in, as a list of cells ('VAt'); a row of the call's own; append of one element.
-/
import Derived.Test.YtkdalfdfepipiaaU
import Derived.Deep.AppendLies
import Derived.Laws.AppendOwn
import Derived.OwnWalk
import Derived.Maps.AppendAt
namespace Go.Proofs.Ytkdalfdfepipiaa
open Go.RowKit

/-- The slice of address A and length n holds the cells xs (one to an element), in a block below B. -/
structure VAt (w : World) (B : Nat) (A : Option Addr) (n : Nat) (xs : List Value) : Prop where
  len : xs.length = n
  small : n ≤ 9223372036854775807
  at_ : 0 < n → ∃ g o, A = some ⟨g, o, none⟩ ∧ g < B ∧ ∀ j v, xs[j]? = some v → w.cell? ⟨g, o + j, none⟩ = some v
section
variable {w w' : World} {B B' n : Nat} {A : Option Addr} {xs : List Value}
theorem VAt.keep (h : VAt w B A n xs) (hk : ∀ p : Addr, p.block < B → w'.cell? p = w.cell? p) (hB : B ≤ B') : VAt w' B' A n xs := by
  refine ⟨h.len, h.small, fun hn => ?_⟩
  obtain ⟨g, o, h1, h2, h3⟩ := h.at_ hn
  exact ⟨g, o, h1, by omega, fun j v hj => (hk _ h2).trans (h3 j v hj)⟩
theorem VAt.below (h : VAt w B A n xs) (hb : Below B w w') (hB : B ≤ B') : VAt w' B' A n xs := h.keep (fun _ hp => hb.cell hp) hB
theorem VAt.up (h : VAt w w.heap.size A n xs) (hb : Up w w') : VAt w' w'.heap.size A n xs := h.below hb hb.size
theorem VAt.mono (h : VAt w B A n xs) (hB : B ≤ B') : VAt w B' A n xs := h.keep (fun _ _ => rfl) hB
theorem VAt.drew (h : VAt w B A n xs) : VAt w.drew B A n xs := h.keep (fun _ _ => rfl) (Nat.le_refl _)
theorem VAt.drewN (h : VAt w B A n xs) (k : Nat) : VAt (w.drewN k) B A n xs := h.keep (fun _ _ => rfl) (Nat.le_refl _)
theorem VAt.nil : VAt w B A 0 [] := ⟨rfl, by omega, fun h => absurd h (by omega)⟩
theorem VAt.cell (h : VAt w B A n xs) {k : Nat} (hk : k < n) : ∃ g o v, A = some ⟨g, o, none⟩ ∧ g < B ∧ xs[k]? = some v ∧ w.cell? ⟨g, o + k, none⟩ = some v := by
  obtain ⟨g, o, h1, h2, h3⟩ := h.at_ (by omega)
  have hl : k < xs.length := by rw [h.len]; exact hk
  exact ⟨g, o, xs[k], h1, h2, List.getElem?_eq_getElem hl, h3 k _ (List.getElem?_eq_getElem hl)⟩
theorem VAt.of_blk {g : Nat} {t : TypeId} {cs : Array Value} (h : Blk w g t cs) (hs : cs.size ≤ 9223372036854775807) : VAt w w.heap.size (some ⟨g, 0, none⟩) cs.size cs.toList := by
  refine ⟨by simp, hs, fun _ => ⟨g, 0, rfl, h.lt, fun j v hj => ?_⟩⟩
  rw [Nat.zero_add, h.cell j]
  simpa using hj
theorem VAt.of_own {base : Nat} {e : TypeId} {c : Nat} (h : w.ownsRow base e 1 (.slice A n c) n xs) : VAt w w.heap.size A n xs := by
  have hm : n ≤ 9223372036854775807 := by
    rcases h.2 with ⟨_, h0⟩ | ⟨_, _, _, _, _, _, h1, h2, _⟩
    · omega
    · unfold maxLen at h2; omega
  refine ⟨by simpa using h.1, hm, fun hn => ?_⟩
  obtain ⟨g, cap, hv, _, hlt⟩ := h.form hn
  have hA : A = some ⟨g, 0, none⟩ := by injection hv
  subst hA
  refine ⟨g, 0, rfl, hlt, fun j v hj => ?_⟩
  have := h.cells (g := g) rfl j v hj
  rw [Nat.zero_add]
  simpa [Addr.add_lit] using this
end

theorem ownsRow_up {w w' : World} {base : Nat} {e : TypeId} {size : Nat} {v : Value} {n : Nat} {xs : List Value} (h : w.ownsRow base e size v n xs) (hb : Up w w') : w'.ownsRow base e size v n xs := by
  refine h.kept (grow_of_up hb (some w.heap.size)) ?_
  cases ho : v.ownBlock with
  | none => exact .inl rfl
  | some k => exact .inr (by have := (h.lt k ho).2; intro e; injection e; omega)
theorem ownsRow_grow {w w' : World} {base g : Nat} {e : TypeId} {size : Nat} {v : Value} {n : Nat} {xs : List Value} (h : w.ownsRow base e size v n xs) (hb : w.grownBy w' (some g)) (hg : g < base) : w'.ownsRow base e size v n xs := by
  refine h.kept hb ?_
  cases ho : v.ownBlock with
  | none => exact .inl rfl
  | some k => exact .inr (by have := (h.lt k ho).1; intro e; injection e; omega)
theorem ownsRow_drew {w : World} {base : Nat} {e : TypeId} {size : Nat} {v : Value} {n : Nat} {xs : List Value} (h : w.ownsRow base e size v n xs) : w.drew.ownsRow base e size v n xs := h
theorem ownsRow_drewN {w : World} {base : Nat} {e : TypeId} {size : Nat} {v : Value} {n : Nat} {xs : List Value} (h : w.ownsRow base e size v n xs) (k : Nat) : (w.drewN k).ownsRow base e size v n xs := h
theorem ownsRow_mono {w : World} {base base' : Nat} {e : TypeId} {size : Nat} {v : Value} {n : Nat} {xs : List Value} (h : w.ownsRow base e size v n xs) (hb : base' ≤ base) : w.ownsRow base' e size v n xs := by
  refine ⟨h.1, ?_⟩
  rcases h.2 with h | ⟨g, cap, cur, h1, h2, h3⟩
  · exact .inl h
  · exact .inr ⟨g, cap, cur, h1, by omega, h3⟩

section
variable {P : Program} (w : World)
/-- append(s, x) of one element of 'size' cells, which lies in a block of its own; s is a row of the call's own, or nil. -/
theorem wpList_append1 {ops : Array Oper} {rest : List Oper} {o : Oper} {a : Act} {Q : Exit → Act → World → Prop} (hgd : o.guard = none) (s x : Operand) (t : TypeId)
    (ho : o.op = .call { callee := .builtin .append, args := #[s, x], argTypes := #[t, t] })
    (base : Nat) (e : TypeId) (i : TypeInfo) (z : Value) (size bytes : Nat) (ht : P.underlying t = some (.slice e)) (hi : P.info? e = some i) (hz : i.zero = some z)
    (hsize : i.size = size) (hby : i.bytes = bytes) (hzs : z.cells.size = size) (hsz : 0 < size) (hbm : bytes ≤ 100)
    (A : Option Addr) (n c : Nat) (xs : List Value) (hs : a.eval s = .slice A n c) (hown : w.ownsRow base e size (.slice A n c) n xs)
    (g c' : Nat) (us : List Value) (hx : a.eval x = .slice (some ⟨g, 0, none⟩) 1 c') (hul : us.length = size) (hblk : Blk w g e us.toArray) (h1 : ∀ u ∈ us, u.oneCell' = true)
    (hsm : n + 1 ≤ 1000000000000) (hbase : base ≤ w.heap.size)
    (h : ∀ A2 c2 w2, w2.ownsRow base e size (.slice A2 (n + 1) c2) (n + 1) (xs ++ us) → w.grownBy w2 (Value.ownBlock (.slice A n c)) → wpList P ops Q rest (a.put o.dst (.slice A2 (n + 1) c2)) w2) : wpList P ops Q (o :: rest) a w := by
  refine wpList_plain hgd fun K hK => ?_
  obtain ⟨v', w', hrun, h2, h3, _⟩ := run_append_own (P := P) w base t o.type e i z size bytes ht hi hz hsize hby hzs hsz (.slice A n c) n xs hown ⟨g, 0, none⟩ 1 c' us (by simpa using hul)
    (fun j u hj => by rw [Addr.add_lit, Nat.zero_add, hblk.cell j]; simpa using hj) h1 (by unfold maxLen; omega)
    (by have : (n + 1) * bytes ≤ 1000000000000 * 100 := Nat.mul_le_mul hsm hbm; omega) hbase
  obtain ⟨g2, c2, rfl, _, _⟩ := h2.form (by omega)
  unfold Oper.wp execOp
  simp only [ho, resolve, invoke, builtin, Sem.run_bind, Sem.run_pure, Result.andThen_ok, List.map_toArray, List.map_cons, List.map_nil, hs, hx, hrun]
  exact hK _ _ (h _ _ _ h2 h3)
end
/-- What an append turns lies from 'base' on. -/
theorem below_append {B base : Nat} {w0 w w2 : World} {e : TypeId} {size n c : Nat} {A : Option Addr} {xs : List Value} (hb : Below B w0 w) (hown : w.ownsRow base e size (.slice A n c) n xs) (hg : w.grownBy w2 (Value.ownBlock (.slice A n c))) (hB : B ≤ base) (hB2 : B ≤ w.heap.size) : Below B w0 w2 :=
  hb.grown hg hB2 (fun k hk => by have := (hown.lt k hk).1; omega)
theorem blk_append {base g : Nat} {w w2 : World} {e t : TypeId} {size n c : Nat} {A : Option Addr} {xs : List Value} {cs : Array Value} (hb : Blk w g t cs) (hown : w.ownsRow base e size (.slice A n c) n xs) (hg : w.grownBy w2 (Value.ownBlock (.slice A n c))) (hB : g < base) : Blk w2 g t cs :=
  (hg.block g hb.lt (fun e => by have := (hown.lt g e.symm).1; omega)).trans hb
end Go.Proofs.Ytkdalfdfepipiaa
