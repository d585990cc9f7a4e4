/- What eject.Count yields; the range over a function by the guide's laws, the rest by the engine. -/
import Derived.Test.YtadpnamooajpoaaX15
import Derived.RangeFuncBox
import Derived.RangeFuncLeaves
import Derived.RangeFuncNested
import Derived.Shelf.Abstract
import Derived.OwnWalkIn
import Derived.TacticsInMore
import Derived.LoopNIn
import Derived.LoopIn
namespace Go.Proofs.Ytadpnamooajpoaa
open Go.RowKit Go.Shelf
set_option linter.unusedVariables false
set_option linter.unusedSectionVars false
set_option linter.unusedSimpArgs false
set_option maxRecDepth 100000
theorem wr_args {P : Program} {D : Nat → Prop} {ρ : Nat → Pl} {w : World} {h : HF} (hb : ∀ b k, h b = some k → D b ∧ BR D ρ (ρ b) k (szP P) w ∧ k.mode = 2) : WR (szP P) D ρ h w :=
  ⟨fun b k hk => (hb b k hk).1, fun b k hk => (hb b k hk).2.1, fun b c k l hk hl _ hm => by
    rcases hm with hm | hm
    · exact absurd (hb b k hk).2.2 hm
    · exact absurd (hb c l hl).2.2 hm, ⟨fun i => ⟨Nat.le_refl _, fun h => absurd h (Nat.lt_irrefl 0), fun h => absurd rfl h⟩, fun i a h => absurd rfl h⟩⟩
theorem mixed : Try.prog.follows .mixedOrders = true := by kernel_rfl
noncomputable def callK : CallF := aCall Try.prog noΨ 10 100 4
theorem callK_spec : CallSpec Try.prog callK := call_spec noΨ_spec mixed 4
abbrev EjT : Type := Int × Int × Int
abbrev ejF : EjT → List Value := (fun t : Int × Int × Int => [Value.int .i64 t.1, Value.int .i64 t.2.1, Value.int .i64 t.2.2])
/-- A slice's cells in a world. -/
def EjIn (w : World) (b o : Nat) (l : List EjT) : Prop := ∃ cs el fz, w.heap[b]? = some (.cells cs el fz) ∧ ∀ (i : Nat) (u : Value), (l.flatMap ejF)[i]? = some u → cs[o + i]? = some u
theorem EjIn.of_heap {w w' : World} {b o : Nat} {l : List EjT} (h : EjIn w b o l) (hh : w'.heap[b]? = w.heap[b]?) : EjIn w' b o l := by
  obtain ⟨cs, el, fz, h1, h2⟩ := h
  exact ⟨cs, el, fz, hh.trans h1, h2⟩
theorem ej_flat (t : EjT) : ∀ u ∈ ejF t, flat0 u = true := by
  intro u hu
  simp at hu
  rcases hu with rfl | rfl | rfl <;> rfl
theorem out_calls {w : World} {b o c : Nat} {l : List EjT} (hc : l.length ≤ c) (h : EjIn w b o l) (k : Nat) (hk : k < l.length) (now : Int) :
    Calls Try.prog 49 #[.slice (some ⟨b, o, none⟩) l.length c, .int .i64 k, .int .i64 now] w (fun e w1 => e = .returned (.bool (decide ((l.getD k (0, 0, 0)).2.2 > now))) ∧ Below w.heap.size w w1) := by
  obtain ⟨cs, el, fz, hh, hx⟩ := h
  refine calls_args callK_spec mixed (ω := [(577, OV.soft (Value.bool true)), (769, OV.idx k), (897, OV.ld (Value.int IntKind.i64 (l.getD k (0, 0, 0)).snd.snd))]) (LF := 10) (F := 100) (lo := 1) (D := fun b => b < 1) (ρ := fun _ => ⟨b, o, none⟩) (H := [(0, ⟨el, l.flatMap (fun t : Int × Int × Int => [Value.int .i64 t.1, Value.int .i64 t.2.1, Value.int .i64 t.2.2]), 2⟩)]) (av := [.slice (some ⟨0, 0, none⟩) l.length c, .int .i64 (k : Int), .int .i64 now]) (v := Value.bool (decide ((l.getD k (0, 0, 0)).snd.snd > now))) (ps := [decide ((↑k : Int) < (↑l.length : Int)) = true, 0 ≤ (↑k : Int) ∧ (↑k : Int) < (↑l.length : Int) ∧ (↑k : Int).toNat = k, (List.flatMap (fun t => [Value.int IntKind.i64 t.fst, Value.int IntKind.i64 t.snd.fst, Value.int IntKind.i64 t.snd.snd]) l)[0 + k * 3 + 2]? = some (Value.int IntKind.i64 (l.getD k (0, 0, 0)).snd.snd)])
    (by kernel_rfl) (ob_cons (by simp; omega) (ob_cons (by omega) (ob_cons ((flatMap_cell (sz := 3) (fun _ => rfl) (0, 0, 0) hk (by decide : 2 < 3)).trans rfl) ob_nil))) rfl (fun b hb => hb) rfl (fun i => match i with
    | 0 => vr_slice (by decide) rfl hc
    | 1 => .of_flat rfl
    | 2 => .of_flat rfl
    | i + 3 => .und) (wr_args fun b k h => ?_) (fun b k h => ?_)
  · rcases hget_cons h with ⟨rfl, rfl⟩ | h
    · exact ⟨by decide, br_rows ej_flat hh hx _ _, rfl⟩
    · exact (hget_nil b k h).elim
  · rcases hget_cons h with ⟨rfl, rfl⟩ | h
    · rfl
    · exact (hget_nil b k h).elim
/-- Those that are in. -/
def ejIn (now : Int) (t : EjT) : Bool := !decide (t.2.2 > now)
def inUpto (l : List EjT) (now : Int) (k : Nat) : List Nat := (List.range k).filter fun j => ejIn now (l.getD j (0, 0, 0))
theorem inUpto_hit {l : List EjT} {now : Int} {k : Nat} (h : ejIn now (l.getD k (0, 0, 0)) = true) : inUpto l now (k + 1) = inUpto l now k ++ [k] := by
  simp only [inUpto, List.range_succ, List.filter_append, List.filter_cons, h, if_true, List.filter_nil]
theorem inUpto_miss {l : List EjT} {now : Int} {k : Nat} (h : ejIn now (l.getD k (0, 0, 0)) = false) : inUpto l now (k + 1) = inUpto l now k := by
  simp only [inUpto, List.range_succ, List.filter_append, List.filter_cons, h, List.filter_nil, List.append_nil]
  simp
theorem inUpto_length (l : List EjT) (now : Int) (k : Nat) : (inUpto l now k).length ≤ k := by
  have := List.length_filter_le (fun j => ejIn now (l.getD j (0, 0, 0))) (List.range k)
  simpa [inUpto] using this
/-- What a round keeps: some blocks lie as they lay. -/
def KeepX (X : Nat → Prop) (W W' : World) : Prop := W.heap.size ≤ W'.heap.size ∧ ∀ k, X k → W'.heap[k]? = W.heap[k]?
theorem KeepX.trans {X : Nat → Prop} {A B C : World} (h : KeepX X A B) (k : KeepX X B C) : KeepX X A C := ⟨Nat.le_trans h.1 k.1, fun i hi => (k.2 i hi).trans (h.2 i hi)⟩
theorem KeepX.refl (X : Nat → Prop) (W : World) : KeepX X W W := ⟨Nat.le_refl _, fun _ _ => rfl⟩
theorem grownBy_of_below {W W' : World} (h : Below W.heap.size W W') : W.grownBy W' none := ⟨h.os, h.tape, h.output, h.size, fun k hk _ => h.block k hk⟩
attribute [local go_sem] Oper.semAt_some
set_option maxHeartbeats 4000000 in
/-- The iterator's closure: for every loop body that keeps the blocks in question. -/
theorem in1_in (n : Nat) (hn : 1 ≤ n) (l Bl Bt b o c : Nat) (es : List EjT) (now : Int) (X : Nat → Prop) (hXl : X Bl) (hXt : X Bt) (hXb : X b) (hc : es.length ≤ c) (hlen : es.length ≤ 9223372036854775806) (J Jx : List Nat → World → Prop)
    (hJ : ∀ s W W', J s W → Below W.heap.size W W' → J s W')
    (hY : ∀ pre x W, J pre W → pre.length < es.length → YieldAt Fence.wide (n - 1) Try.prog l #[.int .i64 ((x : Nat) : Int)] W fun e W' =>
      (e = .returned (.bool true) ∧ J (pre ++ [x]) W' ∧ KeepX X W W') ∨ (e = .returned (.bool false) ∧ Jx (pre ++ [x]) W'))
    (W : World) (hBl : W.cell? ⟨Bl, 0, none⟩ = some (.slice (some ⟨b, o, none⟩) es.length c)) (hBt : W.cell? ⟨Bt, 0, none⟩ = some (.int .i64 now)) (hE : 0 < es.length → EjIn W b o es) (hX : ∀ k, X k → k < W.heap.size) (h0 : J [] W) :
    CallsIn Fence.wide n Try.prog 93 #[.func (.yield l) #[] #[], .pointer (some ⟨Bl, 0, none⟩), .pointer (some ⟨Bt, 0, none⟩)] W fun e W' => (∃ v, e = .returned v) ∧
      ((∃ ys, ys = inUpto es now es.length ∧ J ys W') ∨ (∃ pre, (∃ k, k ≤ es.length ∧ pre = inUpto es now k) ∧ Jx pre W')) := by
  refine callsIn_of_wp Try.func93 rfl trivial ?_ rfl
  simp only [Try.ntmps93, List.size_toArray, List.length_cons, List.length_nil, Nat.reduceAdd, Nat.reduceSub, Array.replicate_succ, Array.replicate_zero, List.push_toArray, List.append_toArray, List.nil_append, List.cons_append]
  gi_wp2
  gi_loopw [7] (fun i wr => ∃ k : Nat, k ≤ es.length ∧ i = .int .i64 k ∧ J (inUpto es now k) wr ∧ KeepX X W wr)
    (fun i _ => es.length - (intOf i).toNat)
  case atStart => exact ⟨0, Nat.zero_le _, rfl, h0, KeepX.refl _ _⟩
  case round =>
    obtain ⟨k, hk, rfl, hJs, hkx⟩ := hrel
    by_cases hlt : k < es.length
    · have hL : wr.cell? ⟨Bl, 0, none⟩ = some (.slice (some ⟨b, o, none⟩) es.length c) := (World.cell?_of_block (hkx.2 Bl hXl)).trans hBl
      have hT : wr.cell? ⟨Bt, 0, none⟩ = some (.int .i64 now) := (World.cell?_of_block (hkx.2 Bt hXt)).trans hBt
      have hEr : EjIn wr b o es := (hE (by omega)).of_heap (hkx.2 b hXb)
      have hwO : Fence.wide.fn 49 := trivial
      have hO := callsIn_wide (n := n - 1).2 (out_calls hc hEr k hlt now)
      have hlX : ∀ w1, Below wr.heap.size wr w1 → KeepX X wr w1 := fun w1 hb => ⟨hb.size, fun i hi => hb.block i (Nat.lt_of_lt_of_le (hX i hi) hkx.1)⟩
      rcases Bool.eq_false_or_eq_true (decide ((es.getD k (0, 0, 0)).2.2 > now)) with hq | hq
      · rw [hq] at hO
        have hin : ejIn now (es.getD k (0, 0, 0)) = false := by simp only [ejIn, hq, Bool.not_true]
        gi_wp2_with (gi_at_call 49; refine hO.mono ?_; rintro e w1 ⟨rfl, hb1⟩)
        refine ⟨fun _ h => (by cases h), ?_⟩
        gi_wp2
        go_roundw
        case rel => exact ⟨k + 1, by omega, by simp, by rw [inUpto_miss hin]; exact hJ _ _ _ hJs hb1, hkx.trans (hlX _ hb1)⟩
        case measure => simp [intOf]; omega
      · rw [hq] at hO
        have hin : ejIn now (es.getD k (0, 0, 0)) = true := by simp only [ejIn, hq, Bool.not_false]
        gi_wp2_with (gi_at_call 49; refine hO.mono ?_; rintro e w1 ⟨rfl, hb1⟩)
        obtain ⟨fn, tmps, assign, body, hy, hR⟩ := hY _ k w1 (hJ _ _ _ hJs hb1) (by have := inUpto_length es now k; omega)
        rw [hy, Oper.uponIn_round]
        refine ⟨fun _ => hn, hR.mono ?_⟩
        rintro e W3 (⟨rfl, hJ3, hk3⟩ | ⟨rfl, hJx3⟩)
        · gi_wp2
          go_roundw
          case rel => exact ⟨k + 1, by omega, by simp, by rw [inUpto_hit hin]; exact hJ3, (hkx.trans (hlX _ hb1)).trans hk3⟩
          case measure => simp [intOf]; omega
        · gi_wp2
          refine bodyPost_ret (results_none rfl _ _ _) rfl ?_
          exact ⟨⟨_, rfl⟩, .inr ⟨_, ⟨k + 1, by omega, (inUpto_hit hin).symm⟩, hJx3⟩⟩
    · obtain rfl : k = es.length := by omega
      gi_wp2
      go_end0
      exact ⟨⟨_, rfl⟩, .inl ⟨_, rfl, hJs⟩⟩
set_option maxHeartbeats 1000000 in
theorem in1_nil (n : Nat) (l Bl Bt c : Nat) (a : Option Addr) (J : List Nat → World → Prop) (W : World) (hBl : W.cell? ⟨Bl, 0, none⟩ = some (.slice a 0 c)) (h0 : J [] W) :
    CallsIn Fence.wide n Try.prog 93 #[.func (.yield l) #[] #[], .pointer (some ⟨Bl, 0, none⟩), .pointer (some ⟨Bt, 0, none⟩)] W fun e W' => (∃ v, e = .returned v) ∧ J [] W' := by
  refine callsIn_of_wp Try.func93 rfl trivial ?_ rfl
  simp only [Try.ntmps93, List.size_toArray, List.length_cons, List.length_nil, Nat.reduceAdd, Nat.reduceSub, Array.replicate_succ, Array.replicate_zero, List.push_toArray, List.append_toArray, List.nil_append, List.cons_append]
  gi_wp2
  gi_loopw [7] (fun i wr => i = .int .i64 0 ∧ J [] wr) (fun _ _ => 0)
  case atStart => exact ⟨rfl, h0⟩
  case round =>
    obtain ⟨rfl, hJs⟩ := hrel
    gi_wp2
    go_end0
    exact ⟨⟨_, rfl⟩, hJs⟩
set_option maxHeartbeats 1000000 in
theorem in_in (n : Nat) (a : Option Addr) (len cap : Nat) (now : Int) (w : World) :
    CallsIn Fence.wide n Try.prog 92 #[.slice a len cap, .int .i64 now] w fun e w' => e = .returned (.func (.func 93) #[] #[.pointer (some ⟨w.heap.size, 0, none⟩), .pointer (some ⟨w.heap.size + 1, 0, none⟩)]) ∧
      w' = (w.alloc (.cells #[.slice a len cap] 71)).alloc (.cells #[.int .i64 now] 2) := by
  refine callsIn_of_wp Try.func92 rfl trivial ?_ rfl
  simp only [Try.ntmps92, List.size_toArray, List.length_cons, List.length_nil, Nat.reduceAdd, Nat.reduceSub, Array.replicate_succ, Array.replicate_zero, List.push_toArray, List.append_toArray, List.nil_append, List.cons_append]
  gi_wp2
  go_ret
  simp
/-- A slice value and what it holds. -/
def EjHold (w : World) (v : Value) (es : List EjT) : Prop :=
  (∃ b o c, v = .slice (some ⟨b, o, none⟩) es.length c ∧ es.length ≤ c ∧ 0 < es.length ∧ EjIn w b o es) ∨ (es = [] ∧ ∃ a c, v = .slice a 0 c)
theorem ej_slice {w : World} {v : Value} {es : List EjT} (h : EjHold w v es) : ∃ a c, v = .slice a es.length c := by
  rcases h with ⟨b, o, c, rfl, _⟩ | ⟨rfl, a, c, rfl⟩
  · exact ⟨_, _, rfl⟩
  · exact ⟨a, c, rfl⟩
def blkOf (v : Value) (k : Nat) : Prop := ∃ b o len c, v = .slice (some ⟨b, o, none⟩) len c ∧ 0 < len ∧ k = b
theorem in_stops (n : Nat) (hn : 1 ≤ n) (Bl Bt : Nat) (v : Value) (es : List EjT) (now : Int) (hlen : es.length ≤ 9223372036854775806) (w : World) (hBl : Bl < w.heap.size) (hBt : Bt < w.heap.size)
    (hcl : w.cell? ⟨Bl, 0, none⟩ = some v) (hct : w.cell? ⟨Bt, 0, none⟩ = some (.int .i64 now)) (hv : EjHold w v es) :
    SeqStopsK Fence.wide n Try.prog 93 #[.pointer (some ⟨Bl, 0, none⟩), .pointer (some ⟨Bt, 0, none⟩)] (fun x : Nat => #[Value.int .i64 (x : Int)]) (KeepX fun k => k = Bl ∨ k = Bt ∨ blkOf v k)
      (fun ys => ys = inUpto es now es.length) (fun _ => True) es.length w := by
  intro l J Jx W hW hJ hJx hY h0
  have hl := (hW.cell (p := ⟨Bl, 0, none⟩) hBl).trans hcl
  have ht := (hW.cell (p := ⟨Bt, 0, none⟩) hBt).trans hct
  rcases hv with ⟨b, o, c, rfl, hc, hp, hE⟩ | ⟨rfl, a, c, rfl⟩
  · have hb : b < w.heap.size := by obtain ⟨cs, el, fz, h1, _⟩ := hE; exact (Array.getElem?_eq_some_iff.1 h1).1
    refine (in1_in n hn l Bl Bt b o c es now _ (.inl rfl) (.inr (.inl rfl)) (.inr (.inr ⟨b, o, es.length, c, rfl, hp, rfl⟩)) hc hlen J Jx (fun s A B hs hAB => hJ s A B none hs (grownBy_of_below hAB) (fun r e => by cases e)) hY W hl ht (fun _ => hE.of_heap (hW.block b hb)) ?_ h0).mono ?_
    · intro k hk
      have := hW.size
      rcases hk with rfl | rfl | ⟨b', o', l', c', e, _, rfl⟩
      · omega
      · omega
      · cases e; omega
    · rintro e W' ⟨he, ⟨ys, rfl, hj⟩ | ⟨pre, _, hj⟩⟩
      · exact ⟨he, .inl ⟨_, rfl, hj⟩⟩
      · exact ⟨he, .inr ⟨_, trivial, hj⟩⟩
  · exact (in1_nil n l Bl Bt c a J W hl h0).mono fun e W' ⟨he, hj⟩ => ⟨he, .inl ⟨_, rfl, hj⟩⟩
/-- How many are out. -/
def ejCount (es : List EjT) (now : Int) : Nat := (es.filter fun t => decide (t.2.2 > now)).length
theorem inUpto_count (es : List EjT) (now : Int) : (inUpto es now es.length).length + ejCount es now = es.length := by
  have key : ∀ k, k ≤ es.length → (inUpto es now k).length + ejCount (es.take k) now = k := by
    intro k
    induction k with
    | zero => intro _; rfl
    | succ k ih =>
      intro hk
      have h1 := ih (by omega)
      have ht : es.take (k + 1) = es.take k ++ [es.getD k (0, 0, 0)] := by
        rw [List.take_add_one, List.getD_eq_getElem?_getD, List.getElem?_eq_getElem (by omega)]
        rfl
      rw [ht]
      cases hq : ejIn now (es.getD k (0, 0, 0)) with
      | true =>
        rw [inUpto_hit hq]
        have hd : decide ((es.getD k (0, 0, 0)).2.2 > now) = false := by simpa only [ejIn, Bool.not_eq_true'] using hq
        simp only [ejCount, List.filter_append, List.filter_cons, hd, List.filter_nil, List.length_append, List.length_cons, List.length_nil] at h1 ⊢
        simp only [Bool.false_eq_true, if_false, List.length_nil]
        omega
      | false =>
        rw [inUpto_miss hq]
        have hd : decide ((es.getD k (0, 0, 0)).2.2 > now) = true := by simpa only [ejIn, Bool.not_eq_false'] using hq
        simp only [ejCount, List.filter_append, List.filter_cons, hd, List.filter_nil, List.length_append, List.length_cons, List.length_nil] at h1 ⊢
        simp only [if_true, List.length_cons, List.length_nil]
        omega
  have := key es.length (Nat.le_refl _)
  rwa [List.take_length] at this
set_option maxHeartbeats 4000000 in
theorem count_in (n : Nat) (hn : 3 ≤ n) (v : Value) (es : List EjT) (now : Int) (hlen : es.length ≤ 9223372036854775806) (w : World) (hv : EjHold w v es) :
    CallsIn Fence.wide n Try.prog 77 #[v, .int .i64 now] w fun e W' => e = .returned (.int .i64 (ejCount es now : Nat)) ∧ Below w.heap.size w W' := by
  obtain ⟨a, c, rfl⟩ := ej_slice hv
  refine callsIn_of_wp_marks Try.func77 rfl trivial ?_ rfl
  simp only [Try.ntmps77, List.size_toArray, List.length_cons, List.length_nil, Nat.reduceAdd, Nat.reduceSub, Array.replicate_succ, Array.replicate_zero, List.push_toArray, List.append_toArray, List.nil_append, List.cons_append]
  have hwI : Fence.wide.fn 92 := trivial
  have h1 : 1 ≤ n := by omega
  gi_wp2_with (gi_at_call 92; refine (in_in (n - 1) _ _ _ _ _).mono ?_; rintro e w' ⟨rfl, rfl⟩)
  have bN := Boxed.new w 3 (.int .i64 (es.length : Int))
  have hs0 : (w.alloc (.cells #[.int .i64 (es.length : Int)] 3)).heap.size = w.heap.size + 1 := by simp
  have bL := Boxed.new (w.alloc (.cells #[.int .i64 (es.length : Int)] 3)) 71 (.slice a es.length c)
  rw [hs0] at bL
  have bT := Boxed.new ((w.alloc (.cells #[.int .i64 (es.length : Int)] 3)).alloc (.cells #[.slice a es.length c] 71)) 2 (.int .i64 now)
  rw [World.size_alloc, hs0] at bT
  have hB0 : Below w.heap.size w (((w.alloc (.cells #[.int .i64 (es.length : Int)] 3)).alloc (.cells #[.slice a es.length c] 71)).alloc (.cells #[.int .i64 now] 2)) := (((Below.refl _ w).alloc (Nat.le_refl _) _).alloc (by simp) _).alloc (by simp; omega) _
  refine wpIn_rangeFunc_ownF (F := Fence.wide) rfl h1 (gf := 93) (lb := #[.pointer (some ⟨w.heap.size + 1, 0, none⟩), .pointer (some ⟨w.heap.size + 1 + 1, 0, none⟩)]) rfl trivial (enters_of Try.func93 (by kernel_rfl) rfl)
    (in_stops (n - 1) (by omega) (w.heap.size + 1) (w.heap.size + 1 + 1) (.slice a es.length c) es now hlen _ (by simp) (by simp) (bL.alloc _).cell bT.cell ?hold) KeepX.trans ?hkb (Below.refl _ _) (fun _ => rfl)
    (fun pre W => Boxed W w.heap.size 3 (.int .i64 ((es.length : Int) - (pre.length : Int))) ∧ Below w.heap.size w W)
    (fun _ _ _ => False)
    (OwnFrom.and (Own.from (boxed_own w.heap.size 3 (fun pre : List Nat => .int .i64 ((es.length : Int) - (pre.length : Int)))) _) (ownFrom_below (Nat.le_refl _) (by simp; omega)))
    (fun _ _ _ _ _ hs _ _ => hs)
    ⟨by simpa using (bN.alloc _).alloc _, hB0⟩
    (fun x => { tmps := #[.slice a es.length c, .int .i64 now, undef, undef, .int .i64 0, .pointer (some ⟨w.heap.size, 0, none⟩), .slice a es.length c, .int .i64 (es.length : Int), .slice a es.length c, .int .i64 now, .func (.func 93) #[] #[.pointer (some ⟨w.heap.size + 1, 0, none⟩), .pointer (some ⟨w.heap.size + 1 + 1, 0, none⟩)], .int .i64 (x : Int), undef, undef, undef], defers := [] }) ?assign ?body ?done ?stop
  case hold =>
    rcases hv with ⟨b, o, c', e, hc, hp, hE⟩ | ⟨rfl, a', c', e⟩
    · cases e
      have hb : b < w.heap.size := by obtain ⟨cs, el, fz, h1, _⟩ := hE; exact (Array.getElem?_eq_some_iff.1 h1).1
      exact .inl ⟨b, o, c, rfl, hc, hp, hE.of_heap (hB0.block b hb)⟩
    · exact .inr ⟨rfl, a, c, rfl⟩
  case hkb =>
    intro W l o o' hl ho _ _
    refine ⟨by simp, fun k hk => World.putObj_heap_other ?_⟩
    simp only [World.size_alloc] at hl
    rcases hk with rfl | rfl | ⟨b, o2, l2, c2, e, hp2, rfl⟩
    · omega
    · omega
    · rcases hv with ⟨b3, o3, c3, e3, _, _, hE⟩ | ⟨rfl, _⟩
      · cases e
        cases e3
        have hb : k < w.heap.size := by obtain ⟨cs, el, fz, h1, _⟩ := hE; exact (Array.getElem?_eq_some_iff.1 h1).1
        omega
      · cases e; simp at hp2
  case assign =>
    intro l x W K hK
    gi_wp2
    simpa using hK
  case body =>
    rintro l pre x W ⟨hv1, hB⟩ hlt
    have hc := hv1.cell
    have hfz := hv1.frozen
    gi_wp2
    have hbk : ∀ k, blkOf (.slice a es.length c) k → k < w.heap.size := by
      rintro k ⟨b, o2, l2, c2, e, hp2, rfl⟩
      rcases hv with ⟨b3, o3, c3, e3, _, _, hE⟩ | ⟨rfl, _⟩
      · cases e
        cases e3
        obtain ⟨cs, el, fz, h1, _⟩ := hE
        exact (Array.getElem?_eq_some_iff.1 h1).1
      · cases e; simp at hp2
    refine ⟨KeepsOthers.setCell _ _ _, ⟨(KeepsOthers.setCell _ _ _).size, fun k hk => Below.heap_setCell _ _ _ k ?_⟩, ?_, hB.trans ((Below.refl _ W).setCell (by simp) _)⟩
    · rcases hk with rfl | rfl | hk
      · simp
      · simp; omega
      · have := hbk k hk; simp; omega
    · have := hv1.set (.int .i64 ((es.length : Int) - (pre.length : Int) - 1))
      have e : (es.length : Int) - ((pre ++ [x]).length : Int) = (es.length : Int) - (pre.length : Int) - 1 := by simp; omega
      rw [e]
      exact this
  case done =>
    rintro D ys W hD rfl ⟨hv1, hB⟩ hK
    have hc := hv1.cell
    gi_wp2
    refine ⟨by simp, .inl ⟨_, _, rfl, run_takeDeferred hK, ?_⟩⟩
    have e : (es.length : Int) - ((inUpto es now es.length).length : Int) = ((ejCount es now : Nat) : Int) := by have := inUpto_count es now; omega
    rw [e]
    exact ⟨_, results_tmp rfl _ _ _, rfl, hB.trans (belowK_b (w := w) (Nat.le_refl _) W D _ _ (by simp at hD; omega) hK rfl rfl)⟩
  case stop =>
    rintro D c pre W _ _ h _
    exact h.elim
theorem count_calls (v : Value) (es : List EjT) (now : Int) (hlen : es.length ≤ 9223372036854775806) (w : World) (hv : EjHold w v es) :
    Calls Try.prog 77 #[v, .int .i64 now] w fun e W' => e = .returned (.int .i64 (ejCount es now : Nat)) ∧ Below w.heap.size w W' :=
  callsIn_wide.1 (count_in 3 (Nat.le_refl _) v es now hlen w hv)
/-- A call that leaves whatever lay. -/
theorem t_of_below [Inhabited RawG] {D : Nat → Prop} {ρ : Nat → Pl} {H : Heap} {w w1 : World} (hw : WR (szP Try.prog) D ρ (hget H) w) (hb : Below w.heap.size w w1) : T (szP Try.prog) D ρ (hget H) w D ρ (hget H) w1 :=
  ⟨fun _ h => h, fun _ _ => rfl, ⟨hw.dom, fun b k hk => (hw.here b k hk).of_heap (hb.block _ (hw.lt hk)), hw.sep, hw.raw.keep (fun k hk _ => hb.block k hk) (fun k hk => .inl hk)⟩, hb.os, hb.tape, hb.output, hb.size, fun k hk _ => hb.block k hk, fun k hk => .inl hk, fun _ _ h _ => h⟩
theorem count_ok [Inhabited RawG] {b off len cap lo : Nat} {now : Int} {H : Heap} {k : ABlk} {l : List EjT} (hk : hget H b = some k) (hl : l.length = len) (hlen : len ≤ 9223372036854775806) (hle : off + len * 3 ≤ k.cells.length) (hcs : (k.cells.drop off).take (len * 3) = l.flatMap ejF) :
    CallOK Try.prog 77 [.slice (some ⟨b, off, none⟩) len cap, .int .i64 now] H lo (.int .i64 (ejCount l now : Nat)) H := by
  intro D ρ w args hlt hsz hav hw
  have h0 := hav 0
  have h1 := hav 1
  simp only [List.getD_cons_zero, List.getD_cons_succ] at h0 h1
  obtain ⟨hD, cap', h2, h3, _⟩ := h0.slice_inv
  have h4 := h1.int_inv
  have ha : args = #[.slice (some ⟨(ρ b).blk, (ρ b).off + off, none⟩) len cap', .int .i64 now] := by
    apply Array.ext (by simpa using hsz)
    intro i hi1 hi2
    simp at hi2
    have hs : args.size = 2 := by simpa using hsz
    rcases (show i = 0 ∨ i = 1 by omega) with rfl | rfl
    · simpa [Array.getD, hs] using h2
    · simpa [Array.getD, hs] using h4
  rw [ha]
  have hv : EjHold w (.slice (some ⟨(ρ b).blk, (ρ b).off + off, none⟩) len cap') l := by
    by_cases hz : 0 < len
    · obtain ⟨us, g1, g2, g3⟩ := hw.cells hk hle
      obtain ⟨cs, fz, c1, c2, _⟩ := (hw.here b k hk).has
      subst hl
      refine .inl ⟨_, _, _, rfl, h3, hz, cs, k.elem, fz, c1, fun i u hu => ?_⟩
      have hu2 : k.cells[off + i]? = some u := by
        have hi : i < l.length * 3 := by have := (List.getElem?_eq_some_iff.1 hu).1; rwa [flatMap_len (sz := 3) (fun _ => rfl)] at this
        rw [← hcs, List.getElem?_take_of_lt hi, List.getElem?_drop] at hu
        exact hu
      obtain ⟨u', hu', hvr⟩ := c2 (off + i) u hu2
      have hf : flat0 u = true := by
        obtain ⟨t, _, ht⟩ := List.mem_flatMap.1 (List.mem_of_getElem? hu)
        exact ej_flat t u ht
      rw [hvr.flat0_eq hf] at hu'
      rw [Nat.add_assoc]
      exact hu'
    · have : len = 0 := by omega
      subst this
      exact .inr ⟨List.eq_nil_of_length_eq_zero hl, _, _, rfl⟩
  refine (count_calls _ l now (by omega) w hv).mono ?_
  rintro e w1 ⟨rfl, hb⟩
  exact ⟨_, rfl, D, ρ, t_of_below hw hb, .scal _ rfl, fun b hb => .inl hb⟩
theorem count_ok_nil [Inhabited RawG] {lo : Nat} {now : Int} {H : Heap} : CallOK Try.prog 77 [.slice none 0 0, .int .i64 now] H lo (.int .i64 0) H := by
  intro D ρ w args hlt hsz hav hw
  have h0 := hav 0
  have h1 := hav 1
  simp only [List.getD_cons_zero, List.getD_cons_succ] at h0 h1
  have ha : args = #[.slice none 0 0, .int .i64 now] := by
    apply Array.ext (by simpa using hsz)
    intro i hi1 hi2
    simp at hi2
    have hs : args.size = 2 := by simpa using hsz
    rcases (show i = 0 ∨ i = 1 by omega) with rfl | rfl
    · simpa [Array.getD, hs] using h0.flat0_eq rfl
    · simpa [Array.getD, hs] using h1.int_inv
  rw [ha]
  refine (count_calls (.slice none 0 0) [] now (by simp) w (.inr ⟨rfl, none, 0, rfl⟩)).mono ?_
  rintro e w1 ⟨rfl, hb⟩
  exact ⟨_, rfl, D, ρ, t_of_below hw hb, .scal _ rfl, fun b hb => .inl hb⟩
def decE : List Value → Option (List EjT)
  | [] => some []
  | .int .i64 a :: .int .i64 b :: .int .i64 c :: r => match decE r with
    | some l => some ((a, b, c) :: l)
    | none => none
  | _ => none
theorem decE_spec : ∀ {cs : List Value} {l : List EjT}, decE cs = some l → cs = l.flatMap ejF := by
  intro cs
  induction cs using decE.induct with
  | case1 => intro l h; simp only [decE, Option.some.injEq] at h; subst h; rfl
  | case2 a b c r l0 hr ih =>
    intro l h
    simp only [decE, hr, Option.some.injEq] at h
    subst h
    rw [List.flatMap_cons, ← ih hr]
    rfl
  | case3 a b c r hr ih => intro l h; simp only [decE, hr] at h; cases h
  | case4 t h1 h2 =>
    intro l h
    unfold decE at h
    split at h
    · exact absurd rfl h1
    · rename_i a b c r; exact absurd rfl (h2 a b c r)
    · cases h
def ψcount : CallF := fun f args H _ =>
  if f = 77 then match args with
    | [.slice none 0 0, .int .i64 now] => some (.int .i64 0, H)
    | [.slice (some ⟨b, off, none⟩) len cap, .int .i64 now] => match hget H b with
      | some k => match decE ((k.cells.drop off).take (len * 3)) with
        | some l => if l.length = len ∧ len ≤ 1000000 ∧ off + len * 3 ≤ k.cells.length then some (.int .i64 (ejCount l now : Nat), H) else none
        | none => none
      | none => none
    | _ => none
  else none
theorem ψcount_spec [Inhabited RawG] : CallSpec Try.prog ψcount := by
  intro g av Hs lo v H1 h
  unfold ψcount at h
  split at h
  case isFalse => cases h
  rename_i hg
  subst hg
  split at h
  · cases h; exact count_ok_nil
  · split at h
    case h_2 => cases h
    rename_i k hk
    split at h
    case h_2 => cases h
    rename_i l hl
    split at h
    case isFalse => cases h
    rename_i hc
    cases h
    exact count_ok hk hc.1 (by omega) hc.2.2 (decE_spec hl)
  · cases h
def ΨK1 : CallF := ψcount
theorem ΨK1_spec [Inhabited RawG] : CallSpec Try.prog ΨK1 := ψcount_spec
end Go.Proofs.Ytadpnamooajpoaa
