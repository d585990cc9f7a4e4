/- The law WeighMoves returns true for all arguments. No condition. -/
import Derived.Test.YtbjfckcgpbejkaaRows
import Derived.Test.YtbjfckcgpbejkaaU8
import Derived.Test.YtbjfckcgpbejkaaX15
namespace Go.Proofs.Ytbjfckcgpbejkaa
open Go.RowKit Go.ChangeShapes Go.WideShapes Go.ChangeAt Go.Deep Go.Joins
set_option linter.unusedSimpArgs false
set_option maxRecDepth 100000
theorem own : ownKnob Try.prog.godebug = none := by kernel_rfl
theorem laidOut : laidOutB Try.prog = true := by kernel_rfl
abbrev GoodL (a2 : Int) (v0 : Value) (v1 : Value) (w : World) : Prop := Calls Try.prog 5 #[v0, v1, .int .i64 a2] w (fun e w1 => e = .returned (.bool true) ∧ Below w.heap.size w w1)
theorem good_nil_nil (a2 : Int) {w : World} : GoodL a2 (.slice none 0 0) (.slice none 0 0) w := by
  have hL : LawOK Try.prog callW 10 100 5 [.slice none 0 0, .slice none 0 0, .int .i64 a2] [] 2 := law_nil_nil a2
  refine law_calls callW_spec mixed (ρ := fun b => if b = 0 then default else default) hL rfl (fun i => match i with
    | 0 => .of_flat (by kernel_rfl)
    | 1 => .of_flat (by kernel_rfl)
    | 2 => .of_flat (by kernel_rfl)
    | i + 3 => .und) (fun b k h => ?_)
  exact (hget_nil b k h).elim
theorem good_nil_hol (a2 : Int) {w : World} (ad1 : Addr) (ac1 : Nat) : GoodL a2 (.slice none 0 0) (.slice (some ad1) 0 ac1) w := by
  have hL : LawOK Try.prog callW 10 100 5 [.slice none 0 0, .slice (some ⟨0, 0, some 0⟩) 0 0, .int .i64 a2] [] 2 := law_nil_hol a2
  refine law_calls callW_spec mixed (ρ := fun b => if b = 0 then default else default) hL rfl (fun i => match i with
    | 0 => .of_flat (by kernel_rfl)
    | 1 => .hollow _ _ _ _ _
    | 2 => .of_flat (by kernel_rfl)
    | i + 3 => .und) (fun b k h => ?_)
  exact (hget_nil b k h).elim
theorem good_nil_blk (a2 : Int) {w : World} {l1 : List NS} {b1 o1 c1 el1 : Nat} {cs1 : Array Value} {fz1 : Nat × Nat} (hp1 : 0 < l1.length) (hc1 : l1.length ≤ c1) (hh1 : w.heap[b1]? = some (.cells cs1 el1 fz1)) (hx1 : ∀ (i : Nat) (u : Value), (l1.flatMap (fun t : NS => [Value.string t.1]))[i]? = some u → cs1[o1 + i]? = some u) : GoodL a2 (.slice none 0 0) (.slice (some ⟨b1, o1, none⟩) l1.length c1) w := by
  have hL : LawOK Try.prog callW 10 100 5 [.slice none 0 0, .slice (some ⟨1, 0, none⟩) l1.length c1, .int .i64 a2] [(1, ⟨el1, (l1.map fun t : NS => Value.string t.1), 2⟩)] 2 := law_nil_blk a2 l1 c1 el1 hp1 hc1
  refine law_calls callW_spec mixed (ρ := fun b => if b = 0 then default else ⟨b1, o1, none⟩) hL rfl (fun i => match i with
    | 0 => .of_flat (by kernel_rfl)
    | 1 => vr_slice (by decide) (by first | rfl | simp) hc1
    | 2 => .of_flat (by kernel_rfl)
    | i + 3 => .und) (fun b k h => ?_)
  rcases hget_cons h with ⟨rfl, rfl⟩ | h
  · refine ⟨by decide, ?_, rfl⟩
    have this : ∀ D ρ, BR D ρ ⟨b1, o1, none⟩ ⟨el1, l1.flatMap (fun t : NS => [Value.string t.1]), 2⟩ (szP Try.prog) w := fun D ρ => br_rows (f := (fun t : NS => [Value.string t.1])) (fun t u hu => by simp at hu; subst hu; rfl) hh1 hx1 D ρ
    simp only [flatMap_one] at this
    exact this _ _
  exact (hget_nil b k h).elim
theorem good_hol_nil (a2 : Int) {w : World} (ad0 : Addr) (ac0 : Nat) : GoodL a2 (.slice (some ad0) 0 ac0) (.slice none 0 0) w := by
  have hL : LawOK Try.prog callW 10 100 5 [.slice (some ⟨0, 0, some 0⟩) 0 0, .slice none 0 0, .int .i64 a2] [] 2 := law_hol_nil a2
  refine law_calls callW_spec mixed (ρ := fun b => if b = 0 then default else default) hL rfl (fun i => match i with
    | 0 => .hollow _ _ _ _ _
    | 1 => .of_flat (by kernel_rfl)
    | 2 => .of_flat (by kernel_rfl)
    | i + 3 => .und) (fun b k h => ?_)
  exact (hget_nil b k h).elim
theorem good_hol_hol (a2 : Int) {w : World} (ad0 : Addr) (ac0 : Nat) (ad1 : Addr) (ac1 : Nat) : GoodL a2 (.slice (some ad0) 0 ac0) (.slice (some ad1) 0 ac1) w := by
  have hL : LawOK Try.prog callW 10 100 5 [.slice (some ⟨0, 0, some 0⟩) 0 0, .slice (some ⟨0, 0, some 0⟩) 0 0, .int .i64 a2] [] 2 := law_hol_hol a2
  refine law_calls callW_spec mixed (ρ := fun b => if b = 0 then default else default) hL rfl (fun i => match i with
    | 0 => .hollow _ _ _ _ _
    | 1 => .hollow _ _ _ _ _
    | 2 => .of_flat (by kernel_rfl)
    | i + 3 => .und) (fun b k h => ?_)
  exact (hget_nil b k h).elim
theorem good_hol_blk (a2 : Int) {w : World} (ad0 : Addr) (ac0 : Nat) {l1 : List NS} {b1 o1 c1 el1 : Nat} {cs1 : Array Value} {fz1 : Nat × Nat} (hp1 : 0 < l1.length) (hc1 : l1.length ≤ c1) (hh1 : w.heap[b1]? = some (.cells cs1 el1 fz1)) (hx1 : ∀ (i : Nat) (u : Value), (l1.flatMap (fun t : NS => [Value.string t.1]))[i]? = some u → cs1[o1 + i]? = some u) : GoodL a2 (.slice (some ad0) 0 ac0) (.slice (some ⟨b1, o1, none⟩) l1.length c1) w := by
  have hL : LawOK Try.prog callW 10 100 5 [.slice (some ⟨0, 0, some 0⟩) 0 0, .slice (some ⟨1, 0, none⟩) l1.length c1, .int .i64 a2] [(1, ⟨el1, (l1.map fun t : NS => Value.string t.1), 2⟩)] 2 := law_hol_blk a2 l1 c1 el1 hp1 hc1
  refine law_calls callW_spec mixed (ρ := fun b => if b = 0 then default else ⟨b1, o1, none⟩) hL rfl (fun i => match i with
    | 0 => .hollow _ _ _ _ _
    | 1 => vr_slice (by decide) (by first | rfl | simp) hc1
    | 2 => .of_flat (by kernel_rfl)
    | i + 3 => .und) (fun b k h => ?_)
  rcases hget_cons h with ⟨rfl, rfl⟩ | h
  · refine ⟨by decide, ?_, rfl⟩
    have this : ∀ D ρ, BR D ρ ⟨b1, o1, none⟩ ⟨el1, l1.flatMap (fun t : NS => [Value.string t.1]), 2⟩ (szP Try.prog) w := fun D ρ => br_rows (f := (fun t : NS => [Value.string t.1])) (fun t u hu => by simp at hu; subst hu; rfl) hh1 hx1 D ρ
    simp only [flatMap_one] at this
    exact this _ _
  exact (hget_nil b k h).elim
theorem good_blk_nil (a2 : Int) {w : World} {l0 : List NS} {b0 o0 c0 el0 : Nat} {cs0 : Array Value} {fz0 : Nat × Nat} (hp0 : 0 < l0.length) (hc0 : l0.length ≤ c0) (hh0 : w.heap[b0]? = some (.cells cs0 el0 fz0)) (hx0 : ∀ (i : Nat) (u : Value), (l0.flatMap (fun t : NS => [Value.string t.1]))[i]? = some u → cs0[o0 + i]? = some u) : GoodL a2 (.slice (some ⟨b0, o0, none⟩) l0.length c0) (.slice none 0 0) w := by
  have hL : LawOK Try.prog callW 10 100 5 [.slice (some ⟨0, 0, none⟩) l0.length c0, .slice none 0 0, .int .i64 a2] [(0, ⟨el0, (l0.map fun t : NS => Value.string t.1), 2⟩)] 2 := law_blk_nil a2 l0 c0 el0 hp0 hc0
  refine law_calls callW_spec mixed (ρ := fun b => if b = 0 then ⟨b0, o0, none⟩ else default) hL rfl (fun i => match i with
    | 0 => vr_slice (by decide) (by first | rfl | simp) hc0
    | 1 => .of_flat (by kernel_rfl)
    | 2 => .of_flat (by kernel_rfl)
    | i + 3 => .und) (fun b k h => ?_)
  rcases hget_cons h with ⟨rfl, rfl⟩ | h
  · refine ⟨by decide, ?_, rfl⟩
    have this : ∀ D ρ, BR D ρ ⟨b0, o0, none⟩ ⟨el0, l0.flatMap (fun t : NS => [Value.string t.1]), 2⟩ (szP Try.prog) w := fun D ρ => br_rows (f := (fun t : NS => [Value.string t.1])) (fun t u hu => by simp at hu; subst hu; rfl) hh0 hx0 D ρ
    simp only [flatMap_one] at this
    exact this _ _
  exact (hget_nil b k h).elim
theorem good_blk_hol (a2 : Int) {w : World} {l0 : List NS} {b0 o0 c0 el0 : Nat} {cs0 : Array Value} {fz0 : Nat × Nat} (hp0 : 0 < l0.length) (hc0 : l0.length ≤ c0) (hh0 : w.heap[b0]? = some (.cells cs0 el0 fz0)) (hx0 : ∀ (i : Nat) (u : Value), (l0.flatMap (fun t : NS => [Value.string t.1]))[i]? = some u → cs0[o0 + i]? = some u) (ad1 : Addr) (ac1 : Nat) : GoodL a2 (.slice (some ⟨b0, o0, none⟩) l0.length c0) (.slice (some ad1) 0 ac1) w := by
  have hL : LawOK Try.prog callW 10 100 5 [.slice (some ⟨0, 0, none⟩) l0.length c0, .slice (some ⟨0, 0, some 0⟩) 0 0, .int .i64 a2] [(0, ⟨el0, (l0.map fun t : NS => Value.string t.1), 2⟩)] 2 := law_blk_hol a2 l0 c0 el0 hp0 hc0
  refine law_calls callW_spec mixed (ρ := fun b => if b = 0 then ⟨b0, o0, none⟩ else default) hL rfl (fun i => match i with
    | 0 => vr_slice (by decide) (by first | rfl | simp) hc0
    | 1 => .hollow _ _ _ _ _
    | 2 => .of_flat (by kernel_rfl)
    | i + 3 => .und) (fun b k h => ?_)
  rcases hget_cons h with ⟨rfl, rfl⟩ | h
  · refine ⟨by decide, ?_, rfl⟩
    have this : ∀ D ρ, BR D ρ ⟨b0, o0, none⟩ ⟨el0, l0.flatMap (fun t : NS => [Value.string t.1]), 2⟩ (szP Try.prog) w := fun D ρ => br_rows (f := (fun t : NS => [Value.string t.1])) (fun t u hu => by simp at hu; subst hu; rfl) hh0 hx0 D ρ
    simp only [flatMap_one] at this
    exact this _ _
  exact (hget_nil b k h).elim
theorem good_blk_blk (a2 : Int) {w : World} {l0 : List NS} {b0 o0 c0 el0 : Nat} {cs0 : Array Value} {fz0 : Nat × Nat} (hp0 : 0 < l0.length) (hc0 : l0.length ≤ c0) (hh0 : w.heap[b0]? = some (.cells cs0 el0 fz0)) (hx0 : ∀ (i : Nat) (u : Value), (l0.flatMap (fun t : NS => [Value.string t.1]))[i]? = some u → cs0[o0 + i]? = some u) {l1 : List NS} {b1 o1 c1 el1 : Nat} {cs1 : Array Value} {fz1 : Nat × Nat} (hp1 : 0 < l1.length) (hc1 : l1.length ≤ c1) (hh1 : w.heap[b1]? = some (.cells cs1 el1 fz1)) (hx1 : ∀ (i : Nat) (u : Value), (l1.flatMap (fun t : NS => [Value.string t.1]))[i]? = some u → cs1[o1 + i]? = some u) : GoodL a2 (.slice (some ⟨b0, o0, none⟩) l0.length c0) (.slice (some ⟨b1, o1, none⟩) l1.length c1) w := by
  have hL : LawOK Try.prog callW 10 100 5 [.slice (some ⟨0, 0, none⟩) l0.length c0, .slice (some ⟨1, 0, none⟩) l1.length c1, .int .i64 a2] [(0, ⟨el0, (l0.map fun t : NS => Value.string t.1), 2⟩), (1, ⟨el1, (l1.map fun t : NS => Value.string t.1), 2⟩)] 2 := law_blk_blk a2 l0 c0 el0 l1 c1 el1 hp0 hc0 hp1 hc1
  refine law_calls callW_spec mixed (ρ := fun b => if b = 0 then ⟨b0, o0, none⟩ else ⟨b1, o1, none⟩) hL rfl (fun i => match i with
    | 0 => vr_slice (by decide) (by first | rfl | simp) hc0
    | 1 => vr_slice (by decide) (by first | rfl | simp) hc1
    | 2 => .of_flat (by kernel_rfl)
    | i + 3 => .und) (fun b k h => ?_)
  rcases hget_cons h with ⟨rfl, rfl⟩ | h
  · refine ⟨by decide, ?_, rfl⟩
    have this : ∀ D ρ, BR D ρ ⟨b0, o0, none⟩ ⟨el0, l0.flatMap (fun t : NS => [Value.string t.1]), 2⟩ (szP Try.prog) w := fun D ρ => br_rows (f := (fun t : NS => [Value.string t.1])) (fun t u hu => by simp at hu; subst hu; rfl) hh0 hx0 D ρ
    simp only [flatMap_one] at this
    exact this _ _
  rcases hget_cons h with ⟨rfl, rfl⟩ | h
  · refine ⟨by decide, ?_, rfl⟩
    have this : ∀ D ρ, BR D ρ ⟨b1, o1, none⟩ ⟨el1, l1.flatMap (fun t : NS => [Value.string t.1]), 2⟩ (szP Try.prog) w := fun D ρ => br_rows (f := (fun t : NS => [Value.string t.1])) (fun t u hu => by simp at hu; subst hu; rfl) hh1 hx1 D ρ
    simp only [flatMap_one] at this
    exact this _ _
  exact (hget_nil b k h).elim
theorem lawgood_any (a2 : Int) {w : World} {v0 : Value} {v1 : Value} (s0 : Sh w (fun t : NS => [Value.string t.1]) v0) (s1 : Sh w (fun t : NS => [Value.string t.1]) v1) : GoodL a2 v0 v1 w := by
  rcases s0 with rfl | ⟨ad0, ac0, rfl⟩ | ⟨l0, b0, o0, c0, el0, cs0, fz0, hp0, hc0, rfl, hh0, hx0⟩ <;> rcases s1 with rfl | ⟨ad1, ac1, rfl⟩ | ⟨l1, b1, o1, c1, el1, cs1, fz1, hp1, hc1, rfl, hh1, hx1⟩
  · exact good_nil_nil a2
  · exact good_nil_hol a2 ad1 ac1
  · exact good_nil_blk a2 hp1 hc1 hh1 hx1
  · exact good_hol_nil a2 ad0 ac0
  · exact good_hol_hol a2 ad0 ac0 ad1 ac1
  · exact good_hol_blk a2 ad0 ac0 hp1 hc1 hh1 hx1
  · exact good_blk_nil a2 hp0 hc0 hh0 hx0
  · exact good_blk_hol a2 hp0 hc0 hh0 hx0 ad1 ac1
  · exact good_blk_blk a2 hp0 hc0 hh0 hx0 hp1 hc1 hh1 hx1
theorem opened (W : World) {H : Type} {enc : TypeId × Value → H} {r : Reach} {base : Nat} {d0 d1 d2 : DataW H} {p0 p1 p2 : List MemPlace} (v0 v1 v2 : Value) (o0 : Value.okWide Try.prog W r base 41 v0) (o1 : Value.okWide Try.prog W r base 41 v1) (o2 : Value.okWide Try.prog W r base 3 v2)
    (h0 : DataW.Trod enc Try.prog W 0 (fun _ => true) true 41 v0 d0 p0) (h1 : DataW.Trod enc Try.prog W 0 (fun _ => true) true 41 v1 d1 p1) (h2 : DataW.Trod enc Try.prog W 0 (fun _ => true) true 3 v2 d2 p2) : Calls Try.prog 5 #[v0, v1, v2] W fun e W' => e = .returned (.bool true) ∧ Below W.heap.size W W' := by
  obtain ⟨a2, rfl⟩ := okWide_int Try.underlying3 o2
  exact lawgood_any a2 (sh_of_trod (f := (fun t : NS => [Value.string t.1])) (sz := 1) Try.underlying41 (by kernel_rfl) (by decide) (fun _ => rfl) (fun fu cs y hl ht => by obtain ⟨b, e_b, _, hb⟩ := DataW.trod_string Try.underlying9 ht; exact ⟨⟨b, Nat.le_trans hb (by decide)⟩, by simpa using e_b⟩) o0 h0) (sh_of_trod (f := (fun t : NS => [Value.string t.1])) (sz := 1) Try.underlying41 (by kernel_rfl) (by decide) (fun _ => rfl) (fun fu cs y hl ht => by obtain ⟨b, e_b, _, hb⟩ := DataW.trod_string Try.underlying9 ht; exact ⟨⟨b, Nat.le_trans hb (by decide)⟩, by simpa using e_b⟩) o1 h1)
theorem weighMoves_holds_lifted (os : Os) (started : os.Started) (H : Type) (enc : TypeId × Value → H) :
    ReturnsInHanded {} Try.checked os 5 .any (Rows.weighMovesSpec.pre6 enc Try.prog Try.f5 Rows.weighMovesRow.domain false) (Rows.weighMovesSpec.post enc Try.prog Try.f5 false true false false) := by
  refine returnsInHanded_of_change (C := Try.checked) own started (by kernel_rfl) Try.func5
    (ChangeSpec.witness6 (enc := enc) (C := Try.checked) false ⟨#[], #[.slice none 0 0, .slice none 0 0, .int .i64 0], []⟩ 8 (by kernel_rfl) (by kernel_rfl) (by kernel_rfl) (by kernel_rfl)) ?_
  intro W base args ds gs before hval0 hW hcnd _
  have hval : ∀ (j : Nat) t v, Try.f5.params[j]? = some t → args[j]? = some v → Value.okWide Try.prog W .any base t v := hval0
  have hW' := hW
  obtain ⟨p, q, hA0, hV, rfl, hfz, hnd⟩ := hW
  have hA : DataW.TrodAll enc Try.prog W 0 (fun _ => true) true Try.f5.params.toList args.toList ds p := hA0
  rw [Try.params5] at hA hval
  obtain ⟨v0, vs0, d0, ds0, p0, q0, hargs, rfl, rfl, h0, r0⟩ := trodAll_cons hA
  obtain ⟨v1, vs1, d1, ds1, p1, q1, rfl, rfl, rfl, h1, r1⟩ := trodAll_cons r0
  obtain ⟨v2, vs2, d2, ds2, p2, q2, rfl, rfl, rfl, h2, r2⟩ := trodAll_cons r1
  obtain ⟨rfl, rfl, rfl⟩ := trodAll_nil r2
  obtain rfl : args = #[v0, v1, v2] := by cases args; simp_all
  obtain ⟨rfl, rfl⟩ := trodVars_none hV
  have lt0 : ∀ x ∈ p0, x.block < W.heap.size := by obtain ⟨m, hm⟩ := h0; exact DataW.trod_lt m _ _ _ hm
  have lt1 : ∀ x ∈ p1, x.block < W.heap.size := by obtain ⟨m, hm⟩ := h1; exact DataW.trod_lt m _ _ _ hm
  have lt2 : ∀ x ∈ p2, x.block < W.heap.size := by obtain ⟨m, hm⟩ := h2; exact DataW.trod_lt m _ _ _ hm
  clear hA0 hval0
  refine (opened W v0 v1 v2 (hval 0 41 v0 rfl rfl) (hval 1 41 v1 rfl rfl) (hval 2 3 v2 rfl rfl) h0 h1 h2).mono fun e W' ⟨he, bel⟩ => ?_
  subst he
  exact ⟨_, rfl, _, _, _, [], _, [], hW', trodAll_mk1 (shut_bool Try.underlying4 _), (trodAll_cons_mk (Below.trod laidOut (by kernel_rfl) (of_decide_eq_true (by kernel_rfl)) h0 bel lt0) (trodAll_cons_mk (Below.trod laidOut (by kernel_rfl) (of_decide_eq_true (by kernel_rfl)) h1 bel lt1) (trodAll_cons_mk (Below.trod laidOut (by kernel_rfl) (of_decide_eq_true (by kernel_rfl)) h2 bel lt2) trodAll_mk0))), rfl, bel.frame _, fun h => by cases h⟩
theorem weighMoves_holds : Rows.WeighMovesSaid :=
  OpenClaim.holds_of_wide 5 Try.f5 rfl rfl rfl rfl rfl rfl rfl ⟨rfl, rfl, rfl, rfl, rfl⟩ rfl rfl rfl rfl rfl (by kernel_rfl) Try.func5 (by kernel_rfl)
    (of_decide_eq_true (by kernel_rfl)) (by unfold Func.isWrapper; first | (rw [if_pos (by decide +kernel)]; kernel_rfl) | (rw [if_neg (by decide +kernel)]; exact ⟨rfl, rfl⟩))
    (fun os started H enc _ => weighMoves_holds_lifted os started H enc)
#print axioms weighMoves_holds
end Go.Proofs.Ytbjfckcgpbejkaa
