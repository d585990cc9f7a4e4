/-
  The engine, fifteenth part: laws: their arguments opened.
-/
import Derived.Test.YtkdalfdfepipiaaX14
import Derived.Test.YtkdalfdfepipiaaO
import Derived.Test.YtkdalfdfepipiaaProg
import Derived.WalkKit
import Derived.ProofKit
import Derived.OpenShut
import Derived.ShutString
import Derived.ChangeOld
import Derived.Below
import Derived.IntWalk
namespace Go.Proofs.Ytkdalfdfepipiaa
set_option linter.unusedSectionVars false
open Go.RowKit Go.ChangeShapes Go.WideShapes Go.ChangeAt Go.Deep Go.Joins
set_option linter.unusedVariables false
set_option maxRecDepth 100000
variable [Inhabited RawG]

/-- The law's paths lead to 'true'. -/
def LawOK (P : Program) (call : CallF) (LF F : Nat) (g : FuncId) (av : List Value) (H : Heap) (lo : Nat) : Prop := ∃ ω ps, resVO (aFuncO P call ω LF F g av H lo) = some (.bool true, ps) ∧ Ob ps
/-- A law whose slices came in. -/
theorem law_raw {P : Program} {call : CallF} (hc : CallSpec P call) (hm : P.follows .mixedOrders = true) {LF F : Nat} {g : FuncId} {av : List Value} (hL : LawOK P call LF F g av [] 0) {w : World} {args : Array Value}
    (hsz : args.size = av.length) (hav : ∀ i, VR (fun _ => False) (fun _ => default) (av.getD i undef) (args.getD i undef)) (hr : ∀ i, RawAt w i) : Calls P g args w (fun e w1 => e = .returned (.bool true) ∧ Below w.heap.size w w1) := by
  obtain ⟨ω, ps, h, hp⟩ := hL
  exact calls_args hc hm h hp rfl (D := fun _ => False) (ρ := fun _ => default) (fun b hb => hb.elim) hsz hav (wr_raw hr) (fun b k hk => (by cases hk))
/-- A slice that came in, opened. -/
structure Opn {T : Type} (w : World) (f : T → List Value) (l : List T) (oa : Option Addr) (c : Nat) : Prop where
  le : l.length ≤ c
  row : 0 < l.length → ∃ a, oa = some a ∧ a.spot = none ∧ ∃ cs el fz, w.heap[a.block]? = some (.cells cs el fz) ∧ ∀ (i : Nat) (u : Value), (l.flatMap f)[i]? = some u → cs[a.off + i]? = some u
/-- A slice whose elements are data of so many cells. -/
def Sh {T : Type} (w : World) (f : T → List Value) (v : Value) : Prop :=
  v = .slice none 0 0 ∨ (∃ a c, v = .slice (some a) 0 c) ∨
    ∃ (l : List T) (b o c el : Nat) (cs : Array Value) (fz : Nat × Nat), 0 < l.length ∧ l.length ≤ c ∧ v = .slice (some ⟨b, o, none⟩) l.length c ∧ w.heap[b]? = some (.cells cs el fz) ∧ ∀ (i : Nat) (u : Value), (l.flatMap f)[i]? = some u → cs[o + i]? = some u
theorem flatMap_one {T : Type} {f : T → Value} (l : List T) : l.flatMap (fun t => [f t]) = l.map f := by
  induction l with
  | nil => rfl
  | cons a t ih => simp [List.flatMap_cons, ih]
theorem hget_nil (b : Nat) (k : ABlk) : hget [] b = some k → False := fun h => by cases h
theorem hget_cons {i : Nat} {k0 : ABlk} {t : Heap} {b : Nat} {k : ABlk} (h : hget ((i, k0) :: t) b = some k) : (b = i ∧ k = k0) ∨ hget t b = some k := by
  simp only [hget] at h
  split at h
  · rename_i hb; cases h; exact .inl ⟨(by simpa using hb : i = b).symm, rfl⟩
  · exact .inr h
theorem br_rows {T : Type} {w : World} {f : T → List Value} (hf : ∀ t, ∀ u ∈ f t, flat0 u = true) {l : List T} {b o el : Nat} {cs : Array Value} {fz : Nat × Nat} (hh : w.heap[b]? = some (.cells cs el fz)) (hx : ∀ (i : Nat) (u : Value), (l.flatMap f)[i]? = some u → cs[o + i]? = some u) (D : Nat → Prop) (ρ : Nat → Pl) :
    BR D ρ ⟨b, o, none⟩ ⟨el, l.flatMap f, 2⟩ (szP Try.prog) w :=
  br_arg (p := ⟨b, o, none⟩) rfl hh hx (fun u hu => by obtain ⟨t, _, hu⟩ := List.mem_flatMap.1 hu; exact hf t u hu)
theorem vr_slice {lo i : Nat} {ρ : Nat → Pl} (hi : i < lo) {b o n c : Nat} (hp : ρ i = ⟨b, o, none⟩) (hn : n ≤ c) : VR (fun b => b < lo) ρ (.slice (some ⟨i, 0, none⟩) n c) (.slice (some ⟨b, o, none⟩) n c) := by
  have h := VR.slice (D := fun b => b < lo) (ρ := ρ) i 0 n c c hi hn (fun _ => rfl) (fun c' h _ => by rw [hp] at h; cases h)
  rw [hp] at h
  simpa using h
/-- A slice of elements of so many cells that came in. -/
theorem sh_of_trod {T HH : Type} {enc : TypeId × Value → HH} {w : World} {f : T → List Value} {t e : TypeId} {sz : Nat} (ht : Try.prog.underlying t = some (.slice e)) (hsz : Try.prog.cellsOf e = sz) (hpos : 0 < sz) (hf : ∀ t, (f t).length = sz)
    (hR : ∀ fu cs y, cs.length = sz → DataW.trod enc Try.prog w 0 (fun _ => true) true fu e cs = some y → ∃ u, cs = f u) {v : Value} {d : DataW HH} {p : List MemPlace}
    {r : Reach} {b0 : Nat} (hv : Value.okWide Try.prog w r b0 t v) (h : DataW.Trod enc Try.prog w 0 (fun _ => true) true t v d p) : Sh w f v := by
  obtain ⟨A, n0, c0, rfl⟩ := okWide_slice ht hv
  obtain ⟨fuel, h⟩ := h
  change DataW.trod enc Try.prog w 0 (fun _ => true) true fuel t [.slice A n0 c0] = some (d, p) at h
  rcases slice_arg ht hsz hpos h (fun cs => ∃ u, cs = f u) hR with hv' | ⟨a, n, c, xs, hv', hlen, hnc, _, hR', hb⟩
  · exact .inl hv'
  · rw [hv']
    clear h hv hv'
    rcases Nat.eq_zero_or_pos n with rfl | hn
    · exact .inr (.inl ⟨a, c, rfl⟩)
    · obtain ⟨hs, cs, el, fz, hh, hx⟩ := hb hn
      obtain ⟨l, hl, rfl⟩ := list_of (f := f) (sz := sz) hf n xs hlen hR'
      obtain ⟨b, o, s⟩ := a
      simp only at hs
      subst hs hl
      exact .inr (.inr ⟨l, b, o, c, el, cs, fz, hn, hnc, rfl, hh, hx⟩)
theorem map_at {T : Type} {f : T → Value} {l : List T} {k : Nat} {d : T} (h : k < l.length) : (l.map f)[0 + k * 1]? = some (f (l.getD k d)) := by
  simp [List.getD_eq_getElem?_getD, List.getElem?_eq_getElem h]
theorem up1 {k : Nat} (h : k < 9223372036854775807) : IntKind.i64.wrap ((k : Int) + 1) = ((k + 1 : Nat) : Int) := by
  rw [IntWalk.i64_in _ (by omega)]; rfl
theorem flatMap_at {T : Type} {f : T → List Value} {sz : Nat} (hf : ∀ t, (f t).length = sz) (d : T) : ∀ (l : List T) (k : Nat), k < l.length → ((l.flatMap f).drop (k * sz)).take sz = f (l.getD k d)
  | [], k, h => by simp at h
  | a :: t, 0, h => by
    simp only [Nat.zero_mul, List.drop_zero, List.flatMap_cons, List.getD_cons_zero]
    rw [List.take_append_of_le_length (by rw [hf]; omega), List.take_of_length_le (by rw [hf]; omega)]
  | a :: t, k + 1, h => by
    simp only [List.flatMap_cons, List.getD_cons_succ]
    have h1 : (k + 1) * sz = (f a).length + k * sz := by rw [hf, Nat.succ_mul, Nat.add_comm]
    rw [h1, List.drop_append, List.drop_eq_nil_of_le (by omega), List.nil_append, Nat.add_sub_cancel_left]
    exact flatMap_at hf d t k (by simpa using h)
theorem flatMap_cell {T : Type} {f : T → List Value} {sz : Nat} (hf : ∀ t, (f t).length = sz) (d : T) {l : List T} {k c : Nat} (h : k < l.length) (hc : c < sz) : (l.flatMap f)[0 + k * sz + c]? = (f (l.getD k d))[c]? := by
  rw [← flatMap_at hf d l k h, List.getElem?_take_of_lt hc, List.getElem?_drop, Nat.zero_add]
theorem flatMap_len {T : Type} {f : T → List Value} {sz : Nat} (hf : ∀ t, (f t).length = sz) (l : List T) : (l.flatMap f).length = l.length * sz := by
  induction l with
  | nil => simp
  | cons a t ih => simp only [List.flatMap_cons, List.length_append, hf, ih, List.length_cons, Nat.succ_mul]; omega
/-- A whole element is loaded. -/
theorem flatMap_ld {T : Type} {f : T → List Value} {sz : Nat} (hf : ∀ t, (f t).length = sz) (d : T) {l : List T} {k : Nat} (h : k < l.length) : 0 + k * sz + sz ≤ (l.flatMap f).length ∧ ((l.flatMap f).drop (0 + k * sz)).take sz = f (l.getD k d) := by
  refine ⟨?_, by rw [Nat.zero_add]; exact flatMap_at hf d l k h⟩
  rw [flatMap_len hf, Nat.zero_add, ← Nat.succ_mul]
  exact Nat.mul_le_mul_right _ h
/-! A list's element turned -/
theorem getD_set_self {T : Type} {l : List T} {k : Nat} {t d : T} (h : k < l.length) : (l.set k t).getD k d = t := by
  simp [List.getD_eq_getElem?_getD, h]
theorem set_cell {T : Type} {f : T → List Value} {sz : Nat} (hf : ∀ t, (f t).length = sz) {l : List T} {k c : Nat} {t' : T} (h : k < l.length) (hc : c < sz) : ((l.set k t').flatMap f)[0 + k * sz + c]? = (f t')[c]? := by
  rw [flatMap_cell hf t' (l := l.set k t') (by simpa using h) hc, getD_set_self h]
theorem set_ld {T : Type} {f : T → List Value} {sz : Nat} (hf : ∀ t, (f t).length = sz) {l : List T} {k : Nat} {t' : T} (h : k < l.length) : 0 + k * sz + sz ≤ ((l.set k t').flatMap f).length ∧ (((l.set k t').flatMap f).drop (0 + k * sz)).take sz = f t' := by
  have := flatMap_ld hf t' (l := l.set k t') (k := k) (by simpa using h)
  rwa [getD_set_self h] at this
theorem splice_append {a r vs : List Value} {c : Nat} (h : c + vs.length ≤ a.length) : splice (a ++ r) c vs = splice a c vs ++ r := by
  unfold splice
  rw [List.take_append_of_le_length (by omega), List.drop_append_of_le_length (by omega)]
  simp
theorem splice_behind {a r vs : List Value} {o : Nat} : splice (a ++ r) (a.length + o) vs = a ++ splice r o vs := by
  unfold splice
  rw [List.take_append, List.drop_append, List.take_of_length_le (by omega), List.drop_eq_nil_of_le (by omega), Nat.add_sub_cancel_left, Nat.add_assoc, Nat.add_sub_cancel_left]
  simp
theorem splice_set {T : Type} {f : T → List Value} {sz : Nat} (hf : ∀ t, (f t).length = sz) (d : T) {c : Nat} {vs : List Value} {t' : T} : ∀ {l : List T} {k : Nat}, k < l.length → c + vs.length ≤ sz → f t' = splice (f (l.getD k d)) c vs → splice (l.flatMap f) (0 + k * sz + c) vs = (l.set k t').flatMap f
  | [], k, h, _, _ => by simp at h
  | a :: r, 0, _, hc, ht => by
    simp only [List.getD_cons_zero] at ht
    simp only [Nat.zero_mul, Nat.zero_add, List.flatMap_cons, List.set_cons_zero]
    rw [splice_append (by rw [hf]; exact hc), ht]
  | a :: r, k + 1, h, hc, ht => by
    simp only [List.getD_cons_succ] at ht
    simp only [List.flatMap_cons, List.set_cons_succ]
    have e : 0 + (k + 1) * sz + c = (f a).length + (0 + k * sz + c) := by rw [hf, Nat.succ_mul]; omega
    rw [e, splice_behind, splice_set hf d (by simpa using h) hc ht]
theorem splice_set2 {T : Type} {f : T → List Value} {sz : Nat} (hf : ∀ t, (f t).length = sz) {c : Nat} {vs : List Value} {t0 t' : T} {l : List T} {k : Nat} (h : k < l.length) (hc : c + vs.length ≤ sz) (ht : f t' = splice (f t0) c vs) : splice ((l.set k t0).flatMap f) (0 + k * sz + c) vs = (l.set k t').flatMap f := by
  rw [splice_set hf t' (l := l.set k t0) (t' := t') (by simpa using h) hc (by rw [getD_set_self h]; exact ht), List.set_set]
theorem cell_le {T : Type} {f : T → List Value} {sz : Nat} (hf : ∀ t, (f t).length = sz) {l : List T} {k c n : Nat} (h : k < l.length) (hc : c + n ≤ sz) : 0 + k * sz + c + n ≤ (l.flatMap f).length := by
  rw [flatMap_len hf]
  have : (k + 1) * sz ≤ l.length * sz := Nat.mul_le_mul_right _ h
  rw [Nat.succ_mul] at this
  omega
theorem cell_le2 {T : Type} {f : T → List Value} {sz : Nat} (hf : ∀ t, (f t).length = sz) {l : List T} {k c n : Nat} {t' : T} (h : k < l.length) (hc : c + n ≤ sz) : 0 + k * sz + c + n ≤ ((l.set k t').flatMap f).length := cell_le hf (by simpa using h) hc
theorem flatL_rows {T : Type} {f : T → List Value} (hf : ∀ t, ∀ u ∈ f t, clo0 u = true ∧ u.oneCell' = true) (l : List T) : FlatL (l.flatMap f) := fun v hv => by
  obtain ⟨t, _, ht⟩ := List.mem_flatMap.1 hv
  exact hf t v ht
end Go.Proofs.Ytkdalfdfepipiaa
