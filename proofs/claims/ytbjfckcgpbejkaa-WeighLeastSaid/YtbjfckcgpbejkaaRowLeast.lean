/- The law WeighLeast returns true for all arguments. No condition. -/
import Derived.Test.YtbjfckcgpbejkaaRows
import Derived.Test.YtbjfckcgpbejkaaV10
import Derived.Test.YtbjfckcgpbejkaaX15
namespace Go.Proofs.Ytbjfckcgpbejkaa
open Go.RowKit Go.ChangeShapes Go.WideShapes Go.ChangeAt Go.Deep Go.Joins
set_option linter.unusedSimpArgs false
set_option maxRecDepth 100000
theorem own : ownKnob Try.prog.godebug = none := by kernel_rfl
theorem laidOut : laidOutB Try.prog = true := by kernel_rfl
theorem trod_float1 {HH : Type} {enc : TypeId × Value → HH} {w : World} {fuel : Nat} {t : TypeId} {cs : List Value} {x : DataW HH × List MemPlace} (ht : Try.prog.underlying t = some (.float .f64)) (h : DataW.trod enc Try.prog w 0 (fun _ => true) true fuel t cs = some x) : ∃ n : Nat, cs = [.float .f64 n] := by
  cases fuel with
  | zero => simp [DataW.trod] at h
  | succ n =>
    unfold DataW.trod at h
    rw [ht] at h
    split at h <;> simp_all
abbrev GoodL  (v0 : Value) (v1 : Value) (v2 : Value) (w : World) : Prop := Calls Try.prog 6 #[v0, v1, v2] w (fun e w1 => e = .returned (.bool true) ∧ Below w.heap.size w w1)
theorem good_nil_nil_nil  {w : World} : GoodL  (.slice none 0 0) (.slice none 0 0) (.slice none 0 0) w := by
  have hL : LawOK Try.prog callW 10 100 6 [.slice none 0 0, .slice none 0 0, .slice none 0 0] [] 3 := law_nil_nil_nil 
  refine law_calls callW_spec mixed (ρ := fun b => if b = 0 then default else if b = 1 then default else default) hL rfl (fun i => match i with
    | 0 => .of_flat (by kernel_rfl)
    | 1 => .of_flat (by kernel_rfl)
    | 2 => .of_flat (by kernel_rfl)
    | i + 3 => .und) (fun b k h => ?_)
  exact (hget_nil b k h).elim
theorem good_nil_nil_hol  {w : World} (ad2 : Addr) (ac2 : Nat) : GoodL  (.slice none 0 0) (.slice none 0 0) (.slice (some ad2) 0 ac2) w := by
  have hL : LawOK Try.prog callW 10 100 6 [.slice none 0 0, .slice none 0 0, .slice (some ⟨0, 0, some 0⟩) 0 0] [] 3 := law_nil_nil_hol 
  refine law_calls callW_spec mixed (ρ := fun b => if b = 0 then default else if b = 1 then default else default) hL rfl (fun i => match i with
    | 0 => .of_flat (by kernel_rfl)
    | 1 => .of_flat (by kernel_rfl)
    | 2 => .hollow _ _ _ _ _
    | i + 3 => .und) (fun b k h => ?_)
  exact (hget_nil b k h).elim
theorem good_nil_nil_blk  {w : World} {l2 : List Int} {b2 o2 c2 el2 : Nat} {cs2 : Array Value} {fz2 : Nat × Nat} (hp2 : 0 < l2.length) (hc2 : l2.length ≤ c2) (hh2 : w.heap[b2]? = some (.cells cs2 el2 fz2)) (hx2 : ∀ (i : Nat) (u : Value), (l2.flatMap (fun t : Int => [Value.int .i64 t]))[i]? = some u → cs2[o2 + i]? = some u) : GoodL  (.slice none 0 0) (.slice none 0 0) (.slice (some ⟨b2, o2, none⟩) l2.length c2) w := by
  have hL : LawOK Try.prog callW 10 100 6 [.slice none 0 0, .slice none 0 0, .slice (some ⟨2, 0, none⟩) l2.length c2] [(2, ⟨el2, (l2.map fun t : Int => Value.int .i64 t), 2⟩)] 3 := law_nil_nil_blk  l2 c2 el2 hp2 hc2
  refine law_calls callW_spec mixed (ρ := fun b => if b = 0 then default else if b = 1 then default else ⟨b2, o2, none⟩) hL rfl (fun i => match i with
    | 0 => .of_flat (by kernel_rfl)
    | 1 => .of_flat (by kernel_rfl)
    | 2 => vr_slice (by decide) (by first | rfl | simp) hc2
    | i + 3 => .und) (fun b k h => ?_)
  rcases hget_cons h with ⟨rfl, rfl⟩ | h
  · refine ⟨by decide, ?_, rfl⟩
    have this : ∀ D ρ, BR D ρ ⟨b2, o2, none⟩ ⟨el2, l2.flatMap (fun t : Int => [Value.int .i64 t]), 2⟩ (szP Try.prog) w := fun D ρ => br_rows (f := (fun t : Int => [Value.int .i64 t])) (fun t u hu => by simp at hu; subst hu; rfl) hh2 hx2 D ρ
    simp only [flatMap_one] at this
    exact this _ _
  exact (hget_nil b k h).elim
theorem good_nil_hol_nil  {w : World} (ad1 : Addr) (ac1 : Nat) : GoodL  (.slice none 0 0) (.slice (some ad1) 0 ac1) (.slice none 0 0) w := by
  have hL : LawOK Try.prog callW 10 100 6 [.slice none 0 0, .slice (some ⟨0, 0, some 0⟩) 0 0, .slice none 0 0] [] 3 := law_nil_hol_nil 
  refine law_calls callW_spec mixed (ρ := fun b => if b = 0 then default else if b = 1 then default else default) hL rfl (fun i => match i with
    | 0 => .of_flat (by kernel_rfl)
    | 1 => .hollow _ _ _ _ _
    | 2 => .of_flat (by kernel_rfl)
    | i + 3 => .und) (fun b k h => ?_)
  exact (hget_nil b k h).elim
theorem good_nil_hol_hol  {w : World} (ad1 : Addr) (ac1 : Nat) (ad2 : Addr) (ac2 : Nat) : GoodL  (.slice none 0 0) (.slice (some ad1) 0 ac1) (.slice (some ad2) 0 ac2) w := by
  have hL : LawOK Try.prog callW 10 100 6 [.slice none 0 0, .slice (some ⟨0, 0, some 0⟩) 0 0, .slice (some ⟨0, 0, some 0⟩) 0 0] [] 3 := law_nil_hol_hol 
  refine law_calls callW_spec mixed (ρ := fun b => if b = 0 then default else if b = 1 then default else default) hL rfl (fun i => match i with
    | 0 => .of_flat (by kernel_rfl)
    | 1 => .hollow _ _ _ _ _
    | 2 => .hollow _ _ _ _ _
    | i + 3 => .und) (fun b k h => ?_)
  exact (hget_nil b k h).elim
theorem good_nil_hol_blk  {w : World} (ad1 : Addr) (ac1 : Nat) {l2 : List Int} {b2 o2 c2 el2 : Nat} {cs2 : Array Value} {fz2 : Nat × Nat} (hp2 : 0 < l2.length) (hc2 : l2.length ≤ c2) (hh2 : w.heap[b2]? = some (.cells cs2 el2 fz2)) (hx2 : ∀ (i : Nat) (u : Value), (l2.flatMap (fun t : Int => [Value.int .i64 t]))[i]? = some u → cs2[o2 + i]? = some u) : GoodL  (.slice none 0 0) (.slice (some ad1) 0 ac1) (.slice (some ⟨b2, o2, none⟩) l2.length c2) w := by
  have hL : LawOK Try.prog callW 10 100 6 [.slice none 0 0, .slice (some ⟨0, 0, some 0⟩) 0 0, .slice (some ⟨2, 0, none⟩) l2.length c2] [(2, ⟨el2, (l2.map fun t : Int => Value.int .i64 t), 2⟩)] 3 := law_nil_hol_blk  l2 c2 el2 hp2 hc2
  refine law_calls callW_spec mixed (ρ := fun b => if b = 0 then default else if b = 1 then default else ⟨b2, o2, none⟩) hL rfl (fun i => match i with
    | 0 => .of_flat (by kernel_rfl)
    | 1 => .hollow _ _ _ _ _
    | 2 => vr_slice (by decide) (by first | rfl | simp) hc2
    | i + 3 => .und) (fun b k h => ?_)
  rcases hget_cons h with ⟨rfl, rfl⟩ | h
  · refine ⟨by decide, ?_, rfl⟩
    have this : ∀ D ρ, BR D ρ ⟨b2, o2, none⟩ ⟨el2, l2.flatMap (fun t : Int => [Value.int .i64 t]), 2⟩ (szP Try.prog) w := fun D ρ => br_rows (f := (fun t : Int => [Value.int .i64 t])) (fun t u hu => by simp at hu; subst hu; rfl) hh2 hx2 D ρ
    simp only [flatMap_one] at this
    exact this _ _
  exact (hget_nil b k h).elim
theorem good_nil_blk_nil  {w : World} {l1 : List Nat} {b1 o1 c1 el1 : Nat} {cs1 : Array Value} {fz1 : Nat × Nat} (hp1 : 0 < l1.length) (hc1 : l1.length ≤ c1) (hh1 : w.heap[b1]? = some (.cells cs1 el1 fz1)) (hx1 : ∀ (i : Nat) (u : Value), (l1.flatMap (fun t : Nat => [Value.float .f64 t]))[i]? = some u → cs1[o1 + i]? = some u) : GoodL  (.slice none 0 0) (.slice (some ⟨b1, o1, none⟩) l1.length c1) (.slice none 0 0) w := by
  have hL : LawOK Try.prog callW 10 100 6 [.slice none 0 0, .slice (some ⟨1, 0, none⟩) l1.length c1, .slice none 0 0] [(1, ⟨el1, (l1.map fun t : Nat => Value.float .f64 t), 2⟩)] 3 := law_nil_blk_nil  l1 c1 el1 hp1 hc1
  refine law_calls callW_spec mixed (ρ := fun b => if b = 0 then default else if b = 1 then ⟨b1, o1, none⟩ else default) hL rfl (fun i => match i with
    | 0 => .of_flat (by kernel_rfl)
    | 1 => vr_slice (by decide) (by first | rfl | simp) hc1
    | 2 => .of_flat (by kernel_rfl)
    | i + 3 => .und) (fun b k h => ?_)
  rcases hget_cons h with ⟨rfl, rfl⟩ | h
  · refine ⟨by decide, ?_, rfl⟩
    have this : ∀ D ρ, BR D ρ ⟨b1, o1, none⟩ ⟨el1, l1.flatMap (fun t : Nat => [Value.float .f64 t]), 2⟩ (szP Try.prog) w := fun D ρ => br_rows (f := (fun t : Nat => [Value.float .f64 t])) (fun t u hu => by simp at hu; subst hu; rfl) hh1 hx1 D ρ
    simp only [flatMap_one] at this
    exact this _ _
  exact (hget_nil b k h).elim
theorem good_nil_blk_hol  {w : World} {l1 : List Nat} {b1 o1 c1 el1 : Nat} {cs1 : Array Value} {fz1 : Nat × Nat} (hp1 : 0 < l1.length) (hc1 : l1.length ≤ c1) (hh1 : w.heap[b1]? = some (.cells cs1 el1 fz1)) (hx1 : ∀ (i : Nat) (u : Value), (l1.flatMap (fun t : Nat => [Value.float .f64 t]))[i]? = some u → cs1[o1 + i]? = some u) (ad2 : Addr) (ac2 : Nat) : GoodL  (.slice none 0 0) (.slice (some ⟨b1, o1, none⟩) l1.length c1) (.slice (some ad2) 0 ac2) w := by
  have hL : LawOK Try.prog callW 10 100 6 [.slice none 0 0, .slice (some ⟨1, 0, none⟩) l1.length c1, .slice (some ⟨0, 0, some 0⟩) 0 0] [(1, ⟨el1, (l1.map fun t : Nat => Value.float .f64 t), 2⟩)] 3 := law_nil_blk_hol  l1 c1 el1 hp1 hc1
  refine law_calls callW_spec mixed (ρ := fun b => if b = 0 then default else if b = 1 then ⟨b1, o1, none⟩ else default) hL rfl (fun i => match i with
    | 0 => .of_flat (by kernel_rfl)
    | 1 => vr_slice (by decide) (by first | rfl | simp) hc1
    | 2 => .hollow _ _ _ _ _
    | i + 3 => .und) (fun b k h => ?_)
  rcases hget_cons h with ⟨rfl, rfl⟩ | h
  · refine ⟨by decide, ?_, rfl⟩
    have this : ∀ D ρ, BR D ρ ⟨b1, o1, none⟩ ⟨el1, l1.flatMap (fun t : Nat => [Value.float .f64 t]), 2⟩ (szP Try.prog) w := fun D ρ => br_rows (f := (fun t : Nat => [Value.float .f64 t])) (fun t u hu => by simp at hu; subst hu; rfl) hh1 hx1 D ρ
    simp only [flatMap_one] at this
    exact this _ _
  exact (hget_nil b k h).elim
theorem good_nil_blk_blk  {w : World} {l1 : List Nat} {b1 o1 c1 el1 : Nat} {cs1 : Array Value} {fz1 : Nat × Nat} (hp1 : 0 < l1.length) (hc1 : l1.length ≤ c1) (hh1 : w.heap[b1]? = some (.cells cs1 el1 fz1)) (hx1 : ∀ (i : Nat) (u : Value), (l1.flatMap (fun t : Nat => [Value.float .f64 t]))[i]? = some u → cs1[o1 + i]? = some u) {l2 : List Int} {b2 o2 c2 el2 : Nat} {cs2 : Array Value} {fz2 : Nat × Nat} (hp2 : 0 < l2.length) (hc2 : l2.length ≤ c2) (hh2 : w.heap[b2]? = some (.cells cs2 el2 fz2)) (hx2 : ∀ (i : Nat) (u : Value), (l2.flatMap (fun t : Int => [Value.int .i64 t]))[i]? = some u → cs2[o2 + i]? = some u) : GoodL  (.slice none 0 0) (.slice (some ⟨b1, o1, none⟩) l1.length c1) (.slice (some ⟨b2, o2, none⟩) l2.length c2) w := by
  have hL : LawOK Try.prog callW 10 100 6 [.slice none 0 0, .slice (some ⟨1, 0, none⟩) l1.length c1, .slice (some ⟨2, 0, none⟩) l2.length c2] [(1, ⟨el1, (l1.map fun t : Nat => Value.float .f64 t), 2⟩), (2, ⟨el2, (l2.map fun t : Int => Value.int .i64 t), 2⟩)] 3 := law_nil_blk_blk  l1 c1 el1 l2 c2 el2 hp1 hc1 hp2 hc2
  refine law_calls callW_spec mixed (ρ := fun b => if b = 0 then default else if b = 1 then ⟨b1, o1, none⟩ else ⟨b2, o2, none⟩) hL rfl (fun i => match i with
    | 0 => .of_flat (by kernel_rfl)
    | 1 => vr_slice (by decide) (by first | rfl | simp) hc1
    | 2 => vr_slice (by decide) (by first | rfl | simp) hc2
    | i + 3 => .und) (fun b k h => ?_)
  rcases hget_cons h with ⟨rfl, rfl⟩ | h
  · refine ⟨by decide, ?_, rfl⟩
    have this : ∀ D ρ, BR D ρ ⟨b1, o1, none⟩ ⟨el1, l1.flatMap (fun t : Nat => [Value.float .f64 t]), 2⟩ (szP Try.prog) w := fun D ρ => br_rows (f := (fun t : Nat => [Value.float .f64 t])) (fun t u hu => by simp at hu; subst hu; rfl) hh1 hx1 D ρ
    simp only [flatMap_one] at this
    exact this _ _
  rcases hget_cons h with ⟨rfl, rfl⟩ | h
  · refine ⟨by decide, ?_, rfl⟩
    have this : ∀ D ρ, BR D ρ ⟨b2, o2, none⟩ ⟨el2, l2.flatMap (fun t : Int => [Value.int .i64 t]), 2⟩ (szP Try.prog) w := fun D ρ => br_rows (f := (fun t : Int => [Value.int .i64 t])) (fun t u hu => by simp at hu; subst hu; rfl) hh2 hx2 D ρ
    simp only [flatMap_one] at this
    exact this _ _
  exact (hget_nil b k h).elim
theorem good_hol_nil_nil  {w : World} (ad0 : Addr) (ac0 : Nat) : GoodL  (.slice (some ad0) 0 ac0) (.slice none 0 0) (.slice none 0 0) w := by
  have hL : LawOK Try.prog callW 10 100 6 [.slice (some ⟨0, 0, some 0⟩) 0 0, .slice none 0 0, .slice none 0 0] [] 3 := law_hol_nil_nil 
  refine law_calls callW_spec mixed (ρ := fun b => if b = 0 then default else if b = 1 then default else default) hL rfl (fun i => match i with
    | 0 => .hollow _ _ _ _ _
    | 1 => .of_flat (by kernel_rfl)
    | 2 => .of_flat (by kernel_rfl)
    | i + 3 => .und) (fun b k h => ?_)
  exact (hget_nil b k h).elim
theorem good_hol_nil_hol  {w : World} (ad0 : Addr) (ac0 : Nat) (ad2 : Addr) (ac2 : Nat) : GoodL  (.slice (some ad0) 0 ac0) (.slice none 0 0) (.slice (some ad2) 0 ac2) w := by
  have hL : LawOK Try.prog callW 10 100 6 [.slice (some ⟨0, 0, some 0⟩) 0 0, .slice none 0 0, .slice (some ⟨0, 0, some 0⟩) 0 0] [] 3 := law_hol_nil_hol 
  refine law_calls callW_spec mixed (ρ := fun b => if b = 0 then default else if b = 1 then default else default) hL rfl (fun i => match i with
    | 0 => .hollow _ _ _ _ _
    | 1 => .of_flat (by kernel_rfl)
    | 2 => .hollow _ _ _ _ _
    | i + 3 => .und) (fun b k h => ?_)
  exact (hget_nil b k h).elim
theorem good_hol_nil_blk  {w : World} (ad0 : Addr) (ac0 : Nat) {l2 : List Int} {b2 o2 c2 el2 : Nat} {cs2 : Array Value} {fz2 : Nat × Nat} (hp2 : 0 < l2.length) (hc2 : l2.length ≤ c2) (hh2 : w.heap[b2]? = some (.cells cs2 el2 fz2)) (hx2 : ∀ (i : Nat) (u : Value), (l2.flatMap (fun t : Int => [Value.int .i64 t]))[i]? = some u → cs2[o2 + i]? = some u) : GoodL  (.slice (some ad0) 0 ac0) (.slice none 0 0) (.slice (some ⟨b2, o2, none⟩) l2.length c2) w := by
  have hL : LawOK Try.prog callW 10 100 6 [.slice (some ⟨0, 0, some 0⟩) 0 0, .slice none 0 0, .slice (some ⟨2, 0, none⟩) l2.length c2] [(2, ⟨el2, (l2.map fun t : Int => Value.int .i64 t), 2⟩)] 3 := law_hol_nil_blk  l2 c2 el2 hp2 hc2
  refine law_calls callW_spec mixed (ρ := fun b => if b = 0 then default else if b = 1 then default else ⟨b2, o2, none⟩) hL rfl (fun i => match i with
    | 0 => .hollow _ _ _ _ _
    | 1 => .of_flat (by kernel_rfl)
    | 2 => vr_slice (by decide) (by first | rfl | simp) hc2
    | i + 3 => .und) (fun b k h => ?_)
  rcases hget_cons h with ⟨rfl, rfl⟩ | h
  · refine ⟨by decide, ?_, rfl⟩
    have this : ∀ D ρ, BR D ρ ⟨b2, o2, none⟩ ⟨el2, l2.flatMap (fun t : Int => [Value.int .i64 t]), 2⟩ (szP Try.prog) w := fun D ρ => br_rows (f := (fun t : Int => [Value.int .i64 t])) (fun t u hu => by simp at hu; subst hu; rfl) hh2 hx2 D ρ
    simp only [flatMap_one] at this
    exact this _ _
  exact (hget_nil b k h).elim
theorem good_hol_hol_nil  {w : World} (ad0 : Addr) (ac0 : Nat) (ad1 : Addr) (ac1 : Nat) : GoodL  (.slice (some ad0) 0 ac0) (.slice (some ad1) 0 ac1) (.slice none 0 0) w := by
  have hL : LawOK Try.prog callW 10 100 6 [.slice (some ⟨0, 0, some 0⟩) 0 0, .slice (some ⟨0, 0, some 0⟩) 0 0, .slice none 0 0] [] 3 := law_hol_hol_nil 
  refine law_calls callW_spec mixed (ρ := fun b => if b = 0 then default else if b = 1 then default else default) hL rfl (fun i => match i with
    | 0 => .hollow _ _ _ _ _
    | 1 => .hollow _ _ _ _ _
    | 2 => .of_flat (by kernel_rfl)
    | i + 3 => .und) (fun b k h => ?_)
  exact (hget_nil b k h).elim
theorem good_hol_hol_hol  {w : World} (ad0 : Addr) (ac0 : Nat) (ad1 : Addr) (ac1 : Nat) (ad2 : Addr) (ac2 : Nat) : GoodL  (.slice (some ad0) 0 ac0) (.slice (some ad1) 0 ac1) (.slice (some ad2) 0 ac2) w := by
  have hL : LawOK Try.prog callW 10 100 6 [.slice (some ⟨0, 0, some 0⟩) 0 0, .slice (some ⟨0, 0, some 0⟩) 0 0, .slice (some ⟨0, 0, some 0⟩) 0 0] [] 3 := law_hol_hol_hol 
  refine law_calls callW_spec mixed (ρ := fun b => if b = 0 then default else if b = 1 then default else default) hL rfl (fun i => match i with
    | 0 => .hollow _ _ _ _ _
    | 1 => .hollow _ _ _ _ _
    | 2 => .hollow _ _ _ _ _
    | i + 3 => .und) (fun b k h => ?_)
  exact (hget_nil b k h).elim
theorem good_hol_hol_blk  {w : World} (ad0 : Addr) (ac0 : Nat) (ad1 : Addr) (ac1 : Nat) {l2 : List Int} {b2 o2 c2 el2 : Nat} {cs2 : Array Value} {fz2 : Nat × Nat} (hp2 : 0 < l2.length) (hc2 : l2.length ≤ c2) (hh2 : w.heap[b2]? = some (.cells cs2 el2 fz2)) (hx2 : ∀ (i : Nat) (u : Value), (l2.flatMap (fun t : Int => [Value.int .i64 t]))[i]? = some u → cs2[o2 + i]? = some u) : GoodL  (.slice (some ad0) 0 ac0) (.slice (some ad1) 0 ac1) (.slice (some ⟨b2, o2, none⟩) l2.length c2) w := by
  have hL : LawOK Try.prog callW 10 100 6 [.slice (some ⟨0, 0, some 0⟩) 0 0, .slice (some ⟨0, 0, some 0⟩) 0 0, .slice (some ⟨2, 0, none⟩) l2.length c2] [(2, ⟨el2, (l2.map fun t : Int => Value.int .i64 t), 2⟩)] 3 := law_hol_hol_blk  l2 c2 el2 hp2 hc2
  refine law_calls callW_spec mixed (ρ := fun b => if b = 0 then default else if b = 1 then default else ⟨b2, o2, none⟩) hL rfl (fun i => match i with
    | 0 => .hollow _ _ _ _ _
    | 1 => .hollow _ _ _ _ _
    | 2 => vr_slice (by decide) (by first | rfl | simp) hc2
    | i + 3 => .und) (fun b k h => ?_)
  rcases hget_cons h with ⟨rfl, rfl⟩ | h
  · refine ⟨by decide, ?_, rfl⟩
    have this : ∀ D ρ, BR D ρ ⟨b2, o2, none⟩ ⟨el2, l2.flatMap (fun t : Int => [Value.int .i64 t]), 2⟩ (szP Try.prog) w := fun D ρ => br_rows (f := (fun t : Int => [Value.int .i64 t])) (fun t u hu => by simp at hu; subst hu; rfl) hh2 hx2 D ρ
    simp only [flatMap_one] at this
    exact this _ _
  exact (hget_nil b k h).elim
theorem good_hol_blk_nil  {w : World} (ad0 : Addr) (ac0 : Nat) {l1 : List Nat} {b1 o1 c1 el1 : Nat} {cs1 : Array Value} {fz1 : Nat × Nat} (hp1 : 0 < l1.length) (hc1 : l1.length ≤ c1) (hh1 : w.heap[b1]? = some (.cells cs1 el1 fz1)) (hx1 : ∀ (i : Nat) (u : Value), (l1.flatMap (fun t : Nat => [Value.float .f64 t]))[i]? = some u → cs1[o1 + i]? = some u) : GoodL  (.slice (some ad0) 0 ac0) (.slice (some ⟨b1, o1, none⟩) l1.length c1) (.slice none 0 0) w := by
  have hL : LawOK Try.prog callW 10 100 6 [.slice (some ⟨0, 0, some 0⟩) 0 0, .slice (some ⟨1, 0, none⟩) l1.length c1, .slice none 0 0] [(1, ⟨el1, (l1.map fun t : Nat => Value.float .f64 t), 2⟩)] 3 := law_hol_blk_nil  l1 c1 el1 hp1 hc1
  refine law_calls callW_spec mixed (ρ := fun b => if b = 0 then default else if b = 1 then ⟨b1, o1, none⟩ else default) hL rfl (fun i => match i with
    | 0 => .hollow _ _ _ _ _
    | 1 => vr_slice (by decide) (by first | rfl | simp) hc1
    | 2 => .of_flat (by kernel_rfl)
    | i + 3 => .und) (fun b k h => ?_)
  rcases hget_cons h with ⟨rfl, rfl⟩ | h
  · refine ⟨by decide, ?_, rfl⟩
    have this : ∀ D ρ, BR D ρ ⟨b1, o1, none⟩ ⟨el1, l1.flatMap (fun t : Nat => [Value.float .f64 t]), 2⟩ (szP Try.prog) w := fun D ρ => br_rows (f := (fun t : Nat => [Value.float .f64 t])) (fun t u hu => by simp at hu; subst hu; rfl) hh1 hx1 D ρ
    simp only [flatMap_one] at this
    exact this _ _
  exact (hget_nil b k h).elim
theorem good_hol_blk_hol  {w : World} (ad0 : Addr) (ac0 : Nat) {l1 : List Nat} {b1 o1 c1 el1 : Nat} {cs1 : Array Value} {fz1 : Nat × Nat} (hp1 : 0 < l1.length) (hc1 : l1.length ≤ c1) (hh1 : w.heap[b1]? = some (.cells cs1 el1 fz1)) (hx1 : ∀ (i : Nat) (u : Value), (l1.flatMap (fun t : Nat => [Value.float .f64 t]))[i]? = some u → cs1[o1 + i]? = some u) (ad2 : Addr) (ac2 : Nat) : GoodL  (.slice (some ad0) 0 ac0) (.slice (some ⟨b1, o1, none⟩) l1.length c1) (.slice (some ad2) 0 ac2) w := by
  have hL : LawOK Try.prog callW 10 100 6 [.slice (some ⟨0, 0, some 0⟩) 0 0, .slice (some ⟨1, 0, none⟩) l1.length c1, .slice (some ⟨0, 0, some 0⟩) 0 0] [(1, ⟨el1, (l1.map fun t : Nat => Value.float .f64 t), 2⟩)] 3 := law_hol_blk_hol  l1 c1 el1 hp1 hc1
  refine law_calls callW_spec mixed (ρ := fun b => if b = 0 then default else if b = 1 then ⟨b1, o1, none⟩ else default) hL rfl (fun i => match i with
    | 0 => .hollow _ _ _ _ _
    | 1 => vr_slice (by decide) (by first | rfl | simp) hc1
    | 2 => .hollow _ _ _ _ _
    | i + 3 => .und) (fun b k h => ?_)
  rcases hget_cons h with ⟨rfl, rfl⟩ | h
  · refine ⟨by decide, ?_, rfl⟩
    have this : ∀ D ρ, BR D ρ ⟨b1, o1, none⟩ ⟨el1, l1.flatMap (fun t : Nat => [Value.float .f64 t]), 2⟩ (szP Try.prog) w := fun D ρ => br_rows (f := (fun t : Nat => [Value.float .f64 t])) (fun t u hu => by simp at hu; subst hu; rfl) hh1 hx1 D ρ
    simp only [flatMap_one] at this
    exact this _ _
  exact (hget_nil b k h).elim
theorem good_hol_blk_blk  {w : World} (ad0 : Addr) (ac0 : Nat) {l1 : List Nat} {b1 o1 c1 el1 : Nat} {cs1 : Array Value} {fz1 : Nat × Nat} (hp1 : 0 < l1.length) (hc1 : l1.length ≤ c1) (hh1 : w.heap[b1]? = some (.cells cs1 el1 fz1)) (hx1 : ∀ (i : Nat) (u : Value), (l1.flatMap (fun t : Nat => [Value.float .f64 t]))[i]? = some u → cs1[o1 + i]? = some u) {l2 : List Int} {b2 o2 c2 el2 : Nat} {cs2 : Array Value} {fz2 : Nat × Nat} (hp2 : 0 < l2.length) (hc2 : l2.length ≤ c2) (hh2 : w.heap[b2]? = some (.cells cs2 el2 fz2)) (hx2 : ∀ (i : Nat) (u : Value), (l2.flatMap (fun t : Int => [Value.int .i64 t]))[i]? = some u → cs2[o2 + i]? = some u) : GoodL  (.slice (some ad0) 0 ac0) (.slice (some ⟨b1, o1, none⟩) l1.length c1) (.slice (some ⟨b2, o2, none⟩) l2.length c2) w := by
  have hL : LawOK Try.prog callW 10 100 6 [.slice (some ⟨0, 0, some 0⟩) 0 0, .slice (some ⟨1, 0, none⟩) l1.length c1, .slice (some ⟨2, 0, none⟩) l2.length c2] [(1, ⟨el1, (l1.map fun t : Nat => Value.float .f64 t), 2⟩), (2, ⟨el2, (l2.map fun t : Int => Value.int .i64 t), 2⟩)] 3 := law_hol_blk_blk  l1 c1 el1 l2 c2 el2 hp1 hc1 hp2 hc2
  refine law_calls callW_spec mixed (ρ := fun b => if b = 0 then default else if b = 1 then ⟨b1, o1, none⟩ else ⟨b2, o2, none⟩) hL rfl (fun i => match i with
    | 0 => .hollow _ _ _ _ _
    | 1 => vr_slice (by decide) (by first | rfl | simp) hc1
    | 2 => vr_slice (by decide) (by first | rfl | simp) hc2
    | i + 3 => .und) (fun b k h => ?_)
  rcases hget_cons h with ⟨rfl, rfl⟩ | h
  · refine ⟨by decide, ?_, rfl⟩
    have this : ∀ D ρ, BR D ρ ⟨b1, o1, none⟩ ⟨el1, l1.flatMap (fun t : Nat => [Value.float .f64 t]), 2⟩ (szP Try.prog) w := fun D ρ => br_rows (f := (fun t : Nat => [Value.float .f64 t])) (fun t u hu => by simp at hu; subst hu; rfl) hh1 hx1 D ρ
    simp only [flatMap_one] at this
    exact this _ _
  rcases hget_cons h with ⟨rfl, rfl⟩ | h
  · refine ⟨by decide, ?_, rfl⟩
    have this : ∀ D ρ, BR D ρ ⟨b2, o2, none⟩ ⟨el2, l2.flatMap (fun t : Int => [Value.int .i64 t]), 2⟩ (szP Try.prog) w := fun D ρ => br_rows (f := (fun t : Int => [Value.int .i64 t])) (fun t u hu => by simp at hu; subst hu; rfl) hh2 hx2 D ρ
    simp only [flatMap_one] at this
    exact this _ _
  exact (hget_nil b k h).elim
theorem good_blk_nil_nil  {w : World} {l0 : List Int} {b0 o0 c0 el0 : Nat} {cs0 : Array Value} {fz0 : Nat × Nat} (hp0 : 0 < l0.length) (hc0 : l0.length ≤ c0) (hh0 : w.heap[b0]? = some (.cells cs0 el0 fz0)) (hx0 : ∀ (i : Nat) (u : Value), (l0.flatMap (fun t : Int => [Value.int .i64 t]))[i]? = some u → cs0[o0 + i]? = some u) : GoodL  (.slice (some ⟨b0, o0, none⟩) l0.length c0) (.slice none 0 0) (.slice none 0 0) w := by
  have hL : LawOK Try.prog callW 10 100 6 [.slice (some ⟨0, 0, none⟩) l0.length c0, .slice none 0 0, .slice none 0 0] [(0, ⟨el0, (l0.map fun t : Int => Value.int .i64 t), 2⟩)] 3 := law_blk_nil_nil  l0 c0 el0 hp0 hc0
  refine law_calls callW_spec mixed (ρ := fun b => if b = 0 then ⟨b0, o0, none⟩ else if b = 1 then default else default) hL rfl (fun i => match i with
    | 0 => vr_slice (by decide) (by first | rfl | simp) hc0
    | 1 => .of_flat (by kernel_rfl)
    | 2 => .of_flat (by kernel_rfl)
    | i + 3 => .und) (fun b k h => ?_)
  rcases hget_cons h with ⟨rfl, rfl⟩ | h
  · refine ⟨by decide, ?_, rfl⟩
    have this : ∀ D ρ, BR D ρ ⟨b0, o0, none⟩ ⟨el0, l0.flatMap (fun t : Int => [Value.int .i64 t]), 2⟩ (szP Try.prog) w := fun D ρ => br_rows (f := (fun t : Int => [Value.int .i64 t])) (fun t u hu => by simp at hu; subst hu; rfl) hh0 hx0 D ρ
    simp only [flatMap_one] at this
    exact this _ _
  exact (hget_nil b k h).elim
theorem good_blk_nil_hol  {w : World} {l0 : List Int} {b0 o0 c0 el0 : Nat} {cs0 : Array Value} {fz0 : Nat × Nat} (hp0 : 0 < l0.length) (hc0 : l0.length ≤ c0) (hh0 : w.heap[b0]? = some (.cells cs0 el0 fz0)) (hx0 : ∀ (i : Nat) (u : Value), (l0.flatMap (fun t : Int => [Value.int .i64 t]))[i]? = some u → cs0[o0 + i]? = some u) (ad2 : Addr) (ac2 : Nat) : GoodL  (.slice (some ⟨b0, o0, none⟩) l0.length c0) (.slice none 0 0) (.slice (some ad2) 0 ac2) w := by
  have hL : LawOK Try.prog callW 10 100 6 [.slice (some ⟨0, 0, none⟩) l0.length c0, .slice none 0 0, .slice (some ⟨0, 0, some 0⟩) 0 0] [(0, ⟨el0, (l0.map fun t : Int => Value.int .i64 t), 2⟩)] 3 := law_blk_nil_hol  l0 c0 el0 hp0 hc0
  refine law_calls callW_spec mixed (ρ := fun b => if b = 0 then ⟨b0, o0, none⟩ else if b = 1 then default else default) hL rfl (fun i => match i with
    | 0 => vr_slice (by decide) (by first | rfl | simp) hc0
    | 1 => .of_flat (by kernel_rfl)
    | 2 => .hollow _ _ _ _ _
    | i + 3 => .und) (fun b k h => ?_)
  rcases hget_cons h with ⟨rfl, rfl⟩ | h
  · refine ⟨by decide, ?_, rfl⟩
    have this : ∀ D ρ, BR D ρ ⟨b0, o0, none⟩ ⟨el0, l0.flatMap (fun t : Int => [Value.int .i64 t]), 2⟩ (szP Try.prog) w := fun D ρ => br_rows (f := (fun t : Int => [Value.int .i64 t])) (fun t u hu => by simp at hu; subst hu; rfl) hh0 hx0 D ρ
    simp only [flatMap_one] at this
    exact this _ _
  exact (hget_nil b k h).elim
theorem good_blk_nil_blk  {w : World} {l0 : List Int} {b0 o0 c0 el0 : Nat} {cs0 : Array Value} {fz0 : Nat × Nat} (hp0 : 0 < l0.length) (hc0 : l0.length ≤ c0) (hh0 : w.heap[b0]? = some (.cells cs0 el0 fz0)) (hx0 : ∀ (i : Nat) (u : Value), (l0.flatMap (fun t : Int => [Value.int .i64 t]))[i]? = some u → cs0[o0 + i]? = some u) {l2 : List Int} {b2 o2 c2 el2 : Nat} {cs2 : Array Value} {fz2 : Nat × Nat} (hp2 : 0 < l2.length) (hc2 : l2.length ≤ c2) (hh2 : w.heap[b2]? = some (.cells cs2 el2 fz2)) (hx2 : ∀ (i : Nat) (u : Value), (l2.flatMap (fun t : Int => [Value.int .i64 t]))[i]? = some u → cs2[o2 + i]? = some u) : GoodL  (.slice (some ⟨b0, o0, none⟩) l0.length c0) (.slice none 0 0) (.slice (some ⟨b2, o2, none⟩) l2.length c2) w := by
  have hL : LawOK Try.prog callW 10 100 6 [.slice (some ⟨0, 0, none⟩) l0.length c0, .slice none 0 0, .slice (some ⟨2, 0, none⟩) l2.length c2] [(0, ⟨el0, (l0.map fun t : Int => Value.int .i64 t), 2⟩), (2, ⟨el2, (l2.map fun t : Int => Value.int .i64 t), 2⟩)] 3 := law_blk_nil_blk  l0 c0 el0 l2 c2 el2 hp0 hc0 hp2 hc2
  refine law_calls callW_spec mixed (ρ := fun b => if b = 0 then ⟨b0, o0, none⟩ else if b = 1 then default else ⟨b2, o2, none⟩) hL rfl (fun i => match i with
    | 0 => vr_slice (by decide) (by first | rfl | simp) hc0
    | 1 => .of_flat (by kernel_rfl)
    | 2 => vr_slice (by decide) (by first | rfl | simp) hc2
    | i + 3 => .und) (fun b k h => ?_)
  rcases hget_cons h with ⟨rfl, rfl⟩ | h
  · refine ⟨by decide, ?_, rfl⟩
    have this : ∀ D ρ, BR D ρ ⟨b0, o0, none⟩ ⟨el0, l0.flatMap (fun t : Int => [Value.int .i64 t]), 2⟩ (szP Try.prog) w := fun D ρ => br_rows (f := (fun t : Int => [Value.int .i64 t])) (fun t u hu => by simp at hu; subst hu; rfl) hh0 hx0 D ρ
    simp only [flatMap_one] at this
    exact this _ _
  rcases hget_cons h with ⟨rfl, rfl⟩ | h
  · refine ⟨by decide, ?_, rfl⟩
    have this : ∀ D ρ, BR D ρ ⟨b2, o2, none⟩ ⟨el2, l2.flatMap (fun t : Int => [Value.int .i64 t]), 2⟩ (szP Try.prog) w := fun D ρ => br_rows (f := (fun t : Int => [Value.int .i64 t])) (fun t u hu => by simp at hu; subst hu; rfl) hh2 hx2 D ρ
    simp only [flatMap_one] at this
    exact this _ _
  exact (hget_nil b k h).elim
theorem good_blk_hol_nil  {w : World} {l0 : List Int} {b0 o0 c0 el0 : Nat} {cs0 : Array Value} {fz0 : Nat × Nat} (hp0 : 0 < l0.length) (hc0 : l0.length ≤ c0) (hh0 : w.heap[b0]? = some (.cells cs0 el0 fz0)) (hx0 : ∀ (i : Nat) (u : Value), (l0.flatMap (fun t : Int => [Value.int .i64 t]))[i]? = some u → cs0[o0 + i]? = some u) (ad1 : Addr) (ac1 : Nat) : GoodL  (.slice (some ⟨b0, o0, none⟩) l0.length c0) (.slice (some ad1) 0 ac1) (.slice none 0 0) w := by
  have hL : LawOK Try.prog callW 10 100 6 [.slice (some ⟨0, 0, none⟩) l0.length c0, .slice (some ⟨0, 0, some 0⟩) 0 0, .slice none 0 0] [(0, ⟨el0, (l0.map fun t : Int => Value.int .i64 t), 2⟩)] 3 := law_blk_hol_nil  l0 c0 el0 hp0 hc0
  refine law_calls callW_spec mixed (ρ := fun b => if b = 0 then ⟨b0, o0, none⟩ else if b = 1 then default else default) hL rfl (fun i => match i with
    | 0 => vr_slice (by decide) (by first | rfl | simp) hc0
    | 1 => .hollow _ _ _ _ _
    | 2 => .of_flat (by kernel_rfl)
    | i + 3 => .und) (fun b k h => ?_)
  rcases hget_cons h with ⟨rfl, rfl⟩ | h
  · refine ⟨by decide, ?_, rfl⟩
    have this : ∀ D ρ, BR D ρ ⟨b0, o0, none⟩ ⟨el0, l0.flatMap (fun t : Int => [Value.int .i64 t]), 2⟩ (szP Try.prog) w := fun D ρ => br_rows (f := (fun t : Int => [Value.int .i64 t])) (fun t u hu => by simp at hu; subst hu; rfl) hh0 hx0 D ρ
    simp only [flatMap_one] at this
    exact this _ _
  exact (hget_nil b k h).elim
theorem good_blk_hol_hol  {w : World} {l0 : List Int} {b0 o0 c0 el0 : Nat} {cs0 : Array Value} {fz0 : Nat × Nat} (hp0 : 0 < l0.length) (hc0 : l0.length ≤ c0) (hh0 : w.heap[b0]? = some (.cells cs0 el0 fz0)) (hx0 : ∀ (i : Nat) (u : Value), (l0.flatMap (fun t : Int => [Value.int .i64 t]))[i]? = some u → cs0[o0 + i]? = some u) (ad1 : Addr) (ac1 : Nat) (ad2 : Addr) (ac2 : Nat) : GoodL  (.slice (some ⟨b0, o0, none⟩) l0.length c0) (.slice (some ad1) 0 ac1) (.slice (some ad2) 0 ac2) w := by
  have hL : LawOK Try.prog callW 10 100 6 [.slice (some ⟨0, 0, none⟩) l0.length c0, .slice (some ⟨0, 0, some 0⟩) 0 0, .slice (some ⟨0, 0, some 0⟩) 0 0] [(0, ⟨el0, (l0.map fun t : Int => Value.int .i64 t), 2⟩)] 3 := law_blk_hol_hol  l0 c0 el0 hp0 hc0
  refine law_calls callW_spec mixed (ρ := fun b => if b = 0 then ⟨b0, o0, none⟩ else if b = 1 then default else default) hL rfl (fun i => match i with
    | 0 => vr_slice (by decide) (by first | rfl | simp) hc0
    | 1 => .hollow _ _ _ _ _
    | 2 => .hollow _ _ _ _ _
    | i + 3 => .und) (fun b k h => ?_)
  rcases hget_cons h with ⟨rfl, rfl⟩ | h
  · refine ⟨by decide, ?_, rfl⟩
    have this : ∀ D ρ, BR D ρ ⟨b0, o0, none⟩ ⟨el0, l0.flatMap (fun t : Int => [Value.int .i64 t]), 2⟩ (szP Try.prog) w := fun D ρ => br_rows (f := (fun t : Int => [Value.int .i64 t])) (fun t u hu => by simp at hu; subst hu; rfl) hh0 hx0 D ρ
    simp only [flatMap_one] at this
    exact this _ _
  exact (hget_nil b k h).elim
theorem good_blk_hol_blk  {w : World} {l0 : List Int} {b0 o0 c0 el0 : Nat} {cs0 : Array Value} {fz0 : Nat × Nat} (hp0 : 0 < l0.length) (hc0 : l0.length ≤ c0) (hh0 : w.heap[b0]? = some (.cells cs0 el0 fz0)) (hx0 : ∀ (i : Nat) (u : Value), (l0.flatMap (fun t : Int => [Value.int .i64 t]))[i]? = some u → cs0[o0 + i]? = some u) (ad1 : Addr) (ac1 : Nat) {l2 : List Int} {b2 o2 c2 el2 : Nat} {cs2 : Array Value} {fz2 : Nat × Nat} (hp2 : 0 < l2.length) (hc2 : l2.length ≤ c2) (hh2 : w.heap[b2]? = some (.cells cs2 el2 fz2)) (hx2 : ∀ (i : Nat) (u : Value), (l2.flatMap (fun t : Int => [Value.int .i64 t]))[i]? = some u → cs2[o2 + i]? = some u) : GoodL  (.slice (some ⟨b0, o0, none⟩) l0.length c0) (.slice (some ad1) 0 ac1) (.slice (some ⟨b2, o2, none⟩) l2.length c2) w := by
  have hL : LawOK Try.prog callW 10 100 6 [.slice (some ⟨0, 0, none⟩) l0.length c0, .slice (some ⟨0, 0, some 0⟩) 0 0, .slice (some ⟨2, 0, none⟩) l2.length c2] [(0, ⟨el0, (l0.map fun t : Int => Value.int .i64 t), 2⟩), (2, ⟨el2, (l2.map fun t : Int => Value.int .i64 t), 2⟩)] 3 := law_blk_hol_blk  l0 c0 el0 l2 c2 el2 hp0 hc0 hp2 hc2
  refine law_calls callW_spec mixed (ρ := fun b => if b = 0 then ⟨b0, o0, none⟩ else if b = 1 then default else ⟨b2, o2, none⟩) hL rfl (fun i => match i with
    | 0 => vr_slice (by decide) (by first | rfl | simp) hc0
    | 1 => .hollow _ _ _ _ _
    | 2 => vr_slice (by decide) (by first | rfl | simp) hc2
    | i + 3 => .und) (fun b k h => ?_)
  rcases hget_cons h with ⟨rfl, rfl⟩ | h
  · refine ⟨by decide, ?_, rfl⟩
    have this : ∀ D ρ, BR D ρ ⟨b0, o0, none⟩ ⟨el0, l0.flatMap (fun t : Int => [Value.int .i64 t]), 2⟩ (szP Try.prog) w := fun D ρ => br_rows (f := (fun t : Int => [Value.int .i64 t])) (fun t u hu => by simp at hu; subst hu; rfl) hh0 hx0 D ρ
    simp only [flatMap_one] at this
    exact this _ _
  rcases hget_cons h with ⟨rfl, rfl⟩ | h
  · refine ⟨by decide, ?_, rfl⟩
    have this : ∀ D ρ, BR D ρ ⟨b2, o2, none⟩ ⟨el2, l2.flatMap (fun t : Int => [Value.int .i64 t]), 2⟩ (szP Try.prog) w := fun D ρ => br_rows (f := (fun t : Int => [Value.int .i64 t])) (fun t u hu => by simp at hu; subst hu; rfl) hh2 hx2 D ρ
    simp only [flatMap_one] at this
    exact this _ _
  exact (hget_nil b k h).elim
theorem good_blk_blk_nil  {w : World} {l0 : List Int} {b0 o0 c0 el0 : Nat} {cs0 : Array Value} {fz0 : Nat × Nat} (hp0 : 0 < l0.length) (hc0 : l0.length ≤ c0) (hh0 : w.heap[b0]? = some (.cells cs0 el0 fz0)) (hx0 : ∀ (i : Nat) (u : Value), (l0.flatMap (fun t : Int => [Value.int .i64 t]))[i]? = some u → cs0[o0 + i]? = some u) {l1 : List Nat} {b1 o1 c1 el1 : Nat} {cs1 : Array Value} {fz1 : Nat × Nat} (hp1 : 0 < l1.length) (hc1 : l1.length ≤ c1) (hh1 : w.heap[b1]? = some (.cells cs1 el1 fz1)) (hx1 : ∀ (i : Nat) (u : Value), (l1.flatMap (fun t : Nat => [Value.float .f64 t]))[i]? = some u → cs1[o1 + i]? = some u) : GoodL  (.slice (some ⟨b0, o0, none⟩) l0.length c0) (.slice (some ⟨b1, o1, none⟩) l1.length c1) (.slice none 0 0) w := by
  have hL : LawOK Try.prog callW 10 100 6 [.slice (some ⟨0, 0, none⟩) l0.length c0, .slice (some ⟨1, 0, none⟩) l1.length c1, .slice none 0 0] [(0, ⟨el0, (l0.map fun t : Int => Value.int .i64 t), 2⟩), (1, ⟨el1, (l1.map fun t : Nat => Value.float .f64 t), 2⟩)] 3 := law_blk_blk_nil  l0 c0 el0 l1 c1 el1 hp0 hc0 hp1 hc1
  refine law_calls callW_spec mixed (ρ := fun b => if b = 0 then ⟨b0, o0, none⟩ else if b = 1 then ⟨b1, o1, none⟩ else default) hL rfl (fun i => match i with
    | 0 => vr_slice (by decide) (by first | rfl | simp) hc0
    | 1 => vr_slice (by decide) (by first | rfl | simp) hc1
    | 2 => .of_flat (by kernel_rfl)
    | i + 3 => .und) (fun b k h => ?_)
  rcases hget_cons h with ⟨rfl, rfl⟩ | h
  · refine ⟨by decide, ?_, rfl⟩
    have this : ∀ D ρ, BR D ρ ⟨b0, o0, none⟩ ⟨el0, l0.flatMap (fun t : Int => [Value.int .i64 t]), 2⟩ (szP Try.prog) w := fun D ρ => br_rows (f := (fun t : Int => [Value.int .i64 t])) (fun t u hu => by simp at hu; subst hu; rfl) hh0 hx0 D ρ
    simp only [flatMap_one] at this
    exact this _ _
  rcases hget_cons h with ⟨rfl, rfl⟩ | h
  · refine ⟨by decide, ?_, rfl⟩
    have this : ∀ D ρ, BR D ρ ⟨b1, o1, none⟩ ⟨el1, l1.flatMap (fun t : Nat => [Value.float .f64 t]), 2⟩ (szP Try.prog) w := fun D ρ => br_rows (f := (fun t : Nat => [Value.float .f64 t])) (fun t u hu => by simp at hu; subst hu; rfl) hh1 hx1 D ρ
    simp only [flatMap_one] at this
    exact this _ _
  exact (hget_nil b k h).elim
theorem good_blk_blk_hol  {w : World} {l0 : List Int} {b0 o0 c0 el0 : Nat} {cs0 : Array Value} {fz0 : Nat × Nat} (hp0 : 0 < l0.length) (hc0 : l0.length ≤ c0) (hh0 : w.heap[b0]? = some (.cells cs0 el0 fz0)) (hx0 : ∀ (i : Nat) (u : Value), (l0.flatMap (fun t : Int => [Value.int .i64 t]))[i]? = some u → cs0[o0 + i]? = some u) {l1 : List Nat} {b1 o1 c1 el1 : Nat} {cs1 : Array Value} {fz1 : Nat × Nat} (hp1 : 0 < l1.length) (hc1 : l1.length ≤ c1) (hh1 : w.heap[b1]? = some (.cells cs1 el1 fz1)) (hx1 : ∀ (i : Nat) (u : Value), (l1.flatMap (fun t : Nat => [Value.float .f64 t]))[i]? = some u → cs1[o1 + i]? = some u) (ad2 : Addr) (ac2 : Nat) : GoodL  (.slice (some ⟨b0, o0, none⟩) l0.length c0) (.slice (some ⟨b1, o1, none⟩) l1.length c1) (.slice (some ad2) 0 ac2) w := by
  have hL : LawOK Try.prog callW 10 100 6 [.slice (some ⟨0, 0, none⟩) l0.length c0, .slice (some ⟨1, 0, none⟩) l1.length c1, .slice (some ⟨0, 0, some 0⟩) 0 0] [(0, ⟨el0, (l0.map fun t : Int => Value.int .i64 t), 2⟩), (1, ⟨el1, (l1.map fun t : Nat => Value.float .f64 t), 2⟩)] 3 := law_blk_blk_hol  l0 c0 el0 l1 c1 el1 hp0 hc0 hp1 hc1
  refine law_calls callW_spec mixed (ρ := fun b => if b = 0 then ⟨b0, o0, none⟩ else if b = 1 then ⟨b1, o1, none⟩ else default) hL rfl (fun i => match i with
    | 0 => vr_slice (by decide) (by first | rfl | simp) hc0
    | 1 => vr_slice (by decide) (by first | rfl | simp) hc1
    | 2 => .hollow _ _ _ _ _
    | i + 3 => .und) (fun b k h => ?_)
  rcases hget_cons h with ⟨rfl, rfl⟩ | h
  · refine ⟨by decide, ?_, rfl⟩
    have this : ∀ D ρ, BR D ρ ⟨b0, o0, none⟩ ⟨el0, l0.flatMap (fun t : Int => [Value.int .i64 t]), 2⟩ (szP Try.prog) w := fun D ρ => br_rows (f := (fun t : Int => [Value.int .i64 t])) (fun t u hu => by simp at hu; subst hu; rfl) hh0 hx0 D ρ
    simp only [flatMap_one] at this
    exact this _ _
  rcases hget_cons h with ⟨rfl, rfl⟩ | h
  · refine ⟨by decide, ?_, rfl⟩
    have this : ∀ D ρ, BR D ρ ⟨b1, o1, none⟩ ⟨el1, l1.flatMap (fun t : Nat => [Value.float .f64 t]), 2⟩ (szP Try.prog) w := fun D ρ => br_rows (f := (fun t : Nat => [Value.float .f64 t])) (fun t u hu => by simp at hu; subst hu; rfl) hh1 hx1 D ρ
    simp only [flatMap_one] at this
    exact this _ _
  exact (hget_nil b k h).elim
theorem good_blk_blk_blk  {w : World} {l0 : List Int} {b0 o0 c0 el0 : Nat} {cs0 : Array Value} {fz0 : Nat × Nat} (hp0 : 0 < l0.length) (hc0 : l0.length ≤ c0) (hh0 : w.heap[b0]? = some (.cells cs0 el0 fz0)) (hx0 : ∀ (i : Nat) (u : Value), (l0.flatMap (fun t : Int => [Value.int .i64 t]))[i]? = some u → cs0[o0 + i]? = some u) {l1 : List Nat} {b1 o1 c1 el1 : Nat} {cs1 : Array Value} {fz1 : Nat × Nat} (hp1 : 0 < l1.length) (hc1 : l1.length ≤ c1) (hh1 : w.heap[b1]? = some (.cells cs1 el1 fz1)) (hx1 : ∀ (i : Nat) (u : Value), (l1.flatMap (fun t : Nat => [Value.float .f64 t]))[i]? = some u → cs1[o1 + i]? = some u) {l2 : List Int} {b2 o2 c2 el2 : Nat} {cs2 : Array Value} {fz2 : Nat × Nat} (hp2 : 0 < l2.length) (hc2 : l2.length ≤ c2) (hh2 : w.heap[b2]? = some (.cells cs2 el2 fz2)) (hx2 : ∀ (i : Nat) (u : Value), (l2.flatMap (fun t : Int => [Value.int .i64 t]))[i]? = some u → cs2[o2 + i]? = some u) : GoodL  (.slice (some ⟨b0, o0, none⟩) l0.length c0) (.slice (some ⟨b1, o1, none⟩) l1.length c1) (.slice (some ⟨b2, o2, none⟩) l2.length c2) w := by
  have hL : LawOK Try.prog callW 10 100 6 [.slice (some ⟨0, 0, none⟩) l0.length c0, .slice (some ⟨1, 0, none⟩) l1.length c1, .slice (some ⟨2, 0, none⟩) l2.length c2] [(0, ⟨el0, (l0.map fun t : Int => Value.int .i64 t), 2⟩), (1, ⟨el1, (l1.map fun t : Nat => Value.float .f64 t), 2⟩), (2, ⟨el2, (l2.map fun t : Int => Value.int .i64 t), 2⟩)] 3 := law_blk_blk_blk  l0 c0 el0 l1 c1 el1 l2 c2 el2 hp0 hc0 hp1 hc1 hp2 hc2
  refine law_calls callW_spec mixed (ρ := fun b => if b = 0 then ⟨b0, o0, none⟩ else if b = 1 then ⟨b1, o1, none⟩ else ⟨b2, o2, none⟩) hL rfl (fun i => match i with
    | 0 => vr_slice (by decide) (by first | rfl | simp) hc0
    | 1 => vr_slice (by decide) (by first | rfl | simp) hc1
    | 2 => vr_slice (by decide) (by first | rfl | simp) hc2
    | i + 3 => .und) (fun b k h => ?_)
  rcases hget_cons h with ⟨rfl, rfl⟩ | h
  · refine ⟨by decide, ?_, rfl⟩
    have this : ∀ D ρ, BR D ρ ⟨b0, o0, none⟩ ⟨el0, l0.flatMap (fun t : Int => [Value.int .i64 t]), 2⟩ (szP Try.prog) w := fun D ρ => br_rows (f := (fun t : Int => [Value.int .i64 t])) (fun t u hu => by simp at hu; subst hu; rfl) hh0 hx0 D ρ
    simp only [flatMap_one] at this
    exact this _ _
  rcases hget_cons h with ⟨rfl, rfl⟩ | h
  · refine ⟨by decide, ?_, rfl⟩
    have this : ∀ D ρ, BR D ρ ⟨b1, o1, none⟩ ⟨el1, l1.flatMap (fun t : Nat => [Value.float .f64 t]), 2⟩ (szP Try.prog) w := fun D ρ => br_rows (f := (fun t : Nat => [Value.float .f64 t])) (fun t u hu => by simp at hu; subst hu; rfl) hh1 hx1 D ρ
    simp only [flatMap_one] at this
    exact this _ _
  rcases hget_cons h with ⟨rfl, rfl⟩ | h
  · refine ⟨by decide, ?_, rfl⟩
    have this : ∀ D ρ, BR D ρ ⟨b2, o2, none⟩ ⟨el2, l2.flatMap (fun t : Int => [Value.int .i64 t]), 2⟩ (szP Try.prog) w := fun D ρ => br_rows (f := (fun t : Int => [Value.int .i64 t])) (fun t u hu => by simp at hu; subst hu; rfl) hh2 hx2 D ρ
    simp only [flatMap_one] at this
    exact this _ _
  exact (hget_nil b k h).elim
theorem lawgood_any  {w : World} {v0 : Value} {v1 : Value} {v2 : Value} (s0 : Sh w (fun t : Int => [Value.int .i64 t]) v0) (s1 : Sh w (fun t : Nat => [Value.float .f64 t]) v1) (s2 : Sh w (fun t : Int => [Value.int .i64 t]) v2) : GoodL  v0 v1 v2 w := by
  rcases s0 with rfl | ⟨ad0, ac0, rfl⟩ | ⟨l0, b0, o0, c0, el0, cs0, fz0, hp0, hc0, rfl, hh0, hx0⟩ <;> rcases s1 with rfl | ⟨ad1, ac1, rfl⟩ | ⟨l1, b1, o1, c1, el1, cs1, fz1, hp1, hc1, rfl, hh1, hx1⟩ <;> rcases s2 with rfl | ⟨ad2, ac2, rfl⟩ | ⟨l2, b2, o2, c2, el2, cs2, fz2, hp2, hc2, rfl, hh2, hx2⟩
  · exact good_nil_nil_nil 
  · exact good_nil_nil_hol  ad2 ac2
  · exact good_nil_nil_blk  hp2 hc2 hh2 hx2
  · exact good_nil_hol_nil  ad1 ac1
  · exact good_nil_hol_hol  ad1 ac1 ad2 ac2
  · exact good_nil_hol_blk  ad1 ac1 hp2 hc2 hh2 hx2
  · exact good_nil_blk_nil  hp1 hc1 hh1 hx1
  · exact good_nil_blk_hol  hp1 hc1 hh1 hx1 ad2 ac2
  · exact good_nil_blk_blk  hp1 hc1 hh1 hx1 hp2 hc2 hh2 hx2
  · exact good_hol_nil_nil  ad0 ac0
  · exact good_hol_nil_hol  ad0 ac0 ad2 ac2
  · exact good_hol_nil_blk  ad0 ac0 hp2 hc2 hh2 hx2
  · exact good_hol_hol_nil  ad0 ac0 ad1 ac1
  · exact good_hol_hol_hol  ad0 ac0 ad1 ac1 ad2 ac2
  · exact good_hol_hol_blk  ad0 ac0 ad1 ac1 hp2 hc2 hh2 hx2
  · exact good_hol_blk_nil  ad0 ac0 hp1 hc1 hh1 hx1
  · exact good_hol_blk_hol  ad0 ac0 hp1 hc1 hh1 hx1 ad2 ac2
  · exact good_hol_blk_blk  ad0 ac0 hp1 hc1 hh1 hx1 hp2 hc2 hh2 hx2
  · exact good_blk_nil_nil  hp0 hc0 hh0 hx0
  · exact good_blk_nil_hol  hp0 hc0 hh0 hx0 ad2 ac2
  · exact good_blk_nil_blk  hp0 hc0 hh0 hx0 hp2 hc2 hh2 hx2
  · exact good_blk_hol_nil  hp0 hc0 hh0 hx0 ad1 ac1
  · exact good_blk_hol_hol  hp0 hc0 hh0 hx0 ad1 ac1 ad2 ac2
  · exact good_blk_hol_blk  hp0 hc0 hh0 hx0 ad1 ac1 hp2 hc2 hh2 hx2
  · exact good_blk_blk_nil  hp0 hc0 hh0 hx0 hp1 hc1 hh1 hx1
  · exact good_blk_blk_hol  hp0 hc0 hh0 hx0 hp1 hc1 hh1 hx1 ad2 ac2
  · exact good_blk_blk_blk  hp0 hc0 hh0 hx0 hp1 hc1 hh1 hx1 hp2 hc2 hh2 hx2
theorem opened (W : World) {H : Type} {enc : TypeId × Value → H} {r : Reach} {base : Nat} {d0 d1 d2 : DataW H} {p0 p1 p2 : List MemPlace} (v0 v1 v2 : Value) (o0 : Value.okWide Try.prog W r base 30 v0) (o1 : Value.okWide Try.prog W r base 24 v1) (o2 : Value.okWide Try.prog W r base 30 v2)
    (h0 : DataW.Trod enc Try.prog W 0 (fun _ => true) true 30 v0 d0 p0) (h1 : DataW.Trod enc Try.prog W 0 (fun _ => true) true 24 v1 d1 p1) (h2 : DataW.Trod enc Try.prog W 0 (fun _ => true) true 30 v2 d2 p2) : Calls Try.prog 6 #[v0, v1, v2] W fun e W' => e = .returned (.bool true) ∧ Below W.heap.size W W' := by
  exact lawgood_any  (sh_of_trod (f := (fun t : Int => [Value.int .i64 t])) (sz := 1) Try.underlying30 (by kernel_rfl) (by decide) (fun _ => rfl) (fun fu cs y hl ht => by obtain ⟨b, e_b, _, _⟩ := DataW.trod_int Try.underlying3 ht; exact ⟨b, by simpa using e_b⟩) o0 h0) (sh_of_trod (f := (fun t : Nat => [Value.float .f64 t])) (sz := 1) Try.underlying24 (by kernel_rfl) (by decide) (fun _ => rfl) (fun fu cs y hl ht => by obtain ⟨b, e_b⟩ := trod_float1 Try.underlying25 ht; exact ⟨b, by simpa using e_b⟩) o1 h1) (sh_of_trod (f := (fun t : Int => [Value.int .i64 t])) (sz := 1) Try.underlying30 (by kernel_rfl) (by decide) (fun _ => rfl) (fun fu cs y hl ht => by obtain ⟨b, e_b, _, _⟩ := DataW.trod_int Try.underlying3 ht; exact ⟨b, by simpa using e_b⟩) o2 h2)
theorem weighLeast_holds_lifted (os : Os) (started : os.Started) (H : Type) (enc : TypeId × Value → H) :
    ReturnsInHanded {} Try.checked os 6 .any (Rows.weighLeastSpec.pre6 enc Try.prog Try.f6 Rows.weighLeastRow.domain false) (Rows.weighLeastSpec.post enc Try.prog Try.f6 false true false false) := by
  refine returnsInHanded_of_change (C := Try.checked) own started (by kernel_rfl) Try.func6
    (ChangeSpec.witness6 (enc := enc) (C := Try.checked) false ⟨#[], #[.slice none 0 0, .slice none 0 0, .slice none 0 0], []⟩ 8 (by kernel_rfl) (by kernel_rfl) (by kernel_rfl) (by kernel_rfl)) ?_
  intro W base args ds gs before hval0 hW hcnd _
  have hval : ∀ (j : Nat) t v, Try.f6.params[j]? = some t → args[j]? = some v → Value.okWide Try.prog W .any base t v := hval0
  have hW' := hW
  obtain ⟨p, q, hA0, hV, rfl, hfz, hnd⟩ := hW
  have hA : DataW.TrodAll enc Try.prog W 0 (fun _ => true) true Try.f6.params.toList args.toList ds p := hA0
  rw [Try.params6] at hA hval
  obtain ⟨v0, vs0, d0, ds0, p0, q0, hargs, rfl, rfl, h0, r0⟩ := trodAll_cons hA
  obtain ⟨v1, vs1, d1, ds1, p1, q1, rfl, rfl, rfl, h1, r1⟩ := trodAll_cons r0
  obtain ⟨v2, vs2, d2, ds2, p2, q2, rfl, rfl, rfl, h2, r2⟩ := trodAll_cons r1
  obtain ⟨rfl, rfl, rfl⟩ := trodAll_nil r2
  obtain rfl : args = #[v0, v1, v2] := by cases args; simp_all
  obtain ⟨rfl, rfl⟩ := trodVars_none hV
  have lt0 : ∀ x ∈ p0, x.block < W.heap.size := by obtain ⟨m, hm⟩ := h0; exact DataW.trod_lt m _ _ _ hm
  have lt1 : ∀ x ∈ p1, x.block < W.heap.size := by obtain ⟨m, hm⟩ := h1; exact DataW.trod_lt m _ _ _ hm
  have lt2 : ∀ x ∈ p2, x.block < W.heap.size := by obtain ⟨m, hm⟩ := h2; exact DataW.trod_lt m _ _ _ hm
  clear hA0 hval0
  refine (opened W v0 v1 v2 (hval 0 30 v0 rfl rfl) (hval 1 24 v1 rfl rfl) (hval 2 30 v2 rfl rfl) h0 h1 h2).mono fun e W' ⟨he, bel⟩ => ?_
  subst he
  exact ⟨_, rfl, _, _, _, [], _, [], hW', trodAll_mk1 (shut_bool Try.underlying4 _), (trodAll_cons_mk (Below.trod laidOut (by kernel_rfl) (of_decide_eq_true (by kernel_rfl)) h0 bel lt0) (trodAll_cons_mk (Below.trod laidOut (by kernel_rfl) (of_decide_eq_true (by kernel_rfl)) h1 bel lt1) (trodAll_cons_mk (Below.trod laidOut (by kernel_rfl) (of_decide_eq_true (by kernel_rfl)) h2 bel lt2) trodAll_mk0))), rfl, bel.frame _, fun h => by cases h⟩
theorem weighLeast_holds : Rows.WeighLeastSaid :=
  OpenClaim.holds_of_wide 6 Try.f6 rfl rfl rfl rfl rfl rfl rfl ⟨rfl, rfl, rfl, rfl, rfl⟩ rfl rfl rfl rfl rfl (by kernel_rfl) Try.func6 (by kernel_rfl)
    (of_decide_eq_true (by kernel_rfl)) (by unfold Func.isWrapper; first | (rw [if_pos (by decide +kernel)]; kernel_rfl) | (rw [if_neg (by decide +kernel)]; exact ⟨rfl, rfl⟩))
    (fun os started H enc _ => weighLeast_holds_lifted os started H enc)
#print axioms weighLeast_holds
end Go.Proofs.Ytbjfckcgpbejkaa
