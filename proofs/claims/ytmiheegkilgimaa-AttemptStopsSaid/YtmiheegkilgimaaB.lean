import Derived.Test.YtmiheegkilgimaaA
import Derived.Deep.RegionHeld3
import Derived.Deep.DrawnRows
import Derived.Deep.DeepCutAuto
namespace Go.Proofs.Ytmiheegkilgimaa
open Go.RowKit
attribute [local go_sem ↓] Go.wp_at_zero Go.wp_at_succ
set_option maxHeartbeats 4000000

def Up (w w' : World) : Prop := Below w.heap.size w w'
theorem Up.refl (w : World) : Up w w := Below.refl _ _
theorem Up.trans {a b c : World} (h : Up a b) (k : Up b c) : Up a c := Below.trans h (Below.mono k h.size)
theorem Up.cell {a b : World} (h : Up a b) {p : Addr} {v : Value} (hc : a.cell? p = some v) : b.cell? p = some v := by
  have := World.block_lt_of_cell? a _ hc
  rw [Below.cell h this]; exact hc
theorem Up.of_drew {a b : World} (h : Up a.drew b) : Up a b := ⟨h.os, h.tape, h.output, h.size, h.block⟩
theorem Up.alloc (a : World) (o : Obj) : Up a (a.alloc o) := (Below.refl _ _).alloc (Nat.le_refl _) _
theorem Up.of {a b : World} (h : Below a.heap.size a b) : Up a b := h

def lastE (ts : List T) : Int := (ts.getLast?.map (·.e)).getD 0
theorem last_nil (again : Bool) (most : Int) (A : Option Addr) (c : Nat) (w : World)  :
    Calls Try.prog 11 #[.agg #[.bool again, .int .i64 most, .slice A 0 c]] w fun e w' => e = .returned (.int .i64 0) ∧ Below w.heap.size w w' := by
  go_enter Try.func11, Try.ntmps11
  go_wp2_with fail
  go_ret
  exact ⟨rfl, (Below.refl _ _).alloc (Nat.le_refl _) _⟩
theorem lastE_at {ts : List T} {n : Nat} {t : T} (hn : ts.length = n) (h : ts[n - 1]? = some t) : lastE ts = t.e := by
  unfold lastE
  rw [List.getLast?_eq_getElem?, hn, h]
  rfl
theorem last_any (again : Bool) (most : Int) (A : Option Addr) (n c : Nat) (ts : List T) (w : World) (hts : TAt w w.heap.size A n ts)  :
    Calls Try.prog 11 #[.agg #[.bool again, .int .i64 most, .slice A n c]] w fun e w' => e = .returned (.int .i64 (lastE ts)) ∧ Below w.heap.size w w' := by
  have hl := hts.len
  have hs := hts.small
  rcases Nat.eq_zero_or_pos n with h0 | h0
  · subst h0
    have : ts = [] := List.eq_nil_of_length_eq_zero hl
    subst this
    exact last_nil again most A c w
  · obtain ⟨g, o, rfl, hg, hc⟩ := hts.at_ (by rintro rfl; simp at hl; omega)
    obtain ⟨t, ht⟩ : ∃ t, ts[n - 1]? = some t := ⟨_, List.getElem?_eq_getElem (by omega)⟩
    obtain ⟨c1, c2, c3⟩ := hc (n - 1) t ht
    rw [lastE_at hl ht]
    clear hc hts ht hl
    obtain ⟨m, rfl⟩ : ∃ m, n = m + 1 := ⟨n - 1, by omega⟩
    simp only [Nat.add_sub_cancel] at c1 c2 c3
    have hz : ((m : Int) + 1 == 0) = false := by simp; omega
    go_enter Try.func11, Try.ntmps11
    go_wp2_with fail
    go_ret
    exact ⟨rfl, (Below.refl _ _).alloc (Nat.le_refl _) _⟩
theorem enter36 (args : Array Value) (w : World) : (callFunc 36 args).run Try.prog w = .ok (.enter 36 args) w := by
  simp [callFunc, Try.func36]
  rfl
abbrev good (t : T) : Bool := t.e == 1 || t.e == 7
abbrev sent (t : T) : Bool := t.s
theorem ctf_good (A : Option Addr) (n c : Nat) (ts : List T) (w : World) (hts : TAt w w.heap.size A n ts) : Calls Try.prog 34 #[.slice A n c, .func (.func 35) #[] #[]] w fun e w' => e = .returned (.bool (ts.any good)) ∧ Below w.heap.size w w' :=
  ctf 35 enter35 _ (fun t w => good_any _ _ _ _) A n c ts w hts
theorem ctf_sent (A : Option Addr) (n c : Nat) (ts : List T) (w : World) (hts : TAt w w.heap.size A n ts) : Calls Try.prog 34 #[.slice A n c, .func (.func 36) #[] #[]] w fun e w' => e = .returned (.bool (ts.any sent)) ∧ Below w.heap.size w w' :=
  ctf 36 enter36 _ (fun t w => sent_any _ _ _ _) A n c ts w hts
theorem stopKeep {w0 w' w1 : World} {g : Nat} {again : Bool} {most : Int} {A : Option Addr} {n c : Nat} {ts : List T} (hg : g < w0.heap.size) (h : Below w0.heap.size w0 w' ∧ w'.cell? ⟨g, 0, none⟩ = some (.bool again) ∧ w'.cell? ⟨g, 1, none⟩ = some (.int .i64 most) ∧ w'.cell? ⟨g, 2, none⟩ = some (.slice A n c) ∧ TAt w' w'.heap.size A n ts) (hb : Below w'.heap.size w' w1) :
   Below w0.heap.size w0 w1 ∧ w1.cell? ⟨g, 0, none⟩ = some (.bool again) ∧ w1.cell? ⟨g, 1, none⟩ = some (.int .i64 most) ∧ w1.cell? ⟨g, 2, none⟩ = some (.slice A n c) ∧ TAt w1 w1.heap.size A n ts := by
  obtain ⟨h1, h2, h3, h4, h5⟩ := h
  have := h1.size
  have := hb.size
  refine ⟨h1.trans (hb.mono h1.size), ?_, ?_, ?_, h5.below hb hb.size⟩ <;> rw [hb.cell (by simp; omega)] <;> assumption
theorem stopT {w0 w' : World} {g : Nat} {again : Bool} {most : Int} {A : Option Addr} {n c : Nat} {ts : List T} (h : Below w0.heap.size w0 w' ∧ w'.cell? ⟨g, 0, none⟩ = some (.bool again) ∧ w'.cell? ⟨g, 1, none⟩ = some (.int .i64 most) ∧ w'.cell? ⟨g, 2, none⟩ = some (.slice A n c) ∧ TAt w' w'.heap.size A n ts) : TAt w' w'.heap.size A n ts := h.2.2.2.2
def reasons (again budget : Bool) (most : Int) (mn n : Nat) (ts : List T) : List Bool :=
  [decide (0 < n) && lastE ts == 0, ts.any good, decide (most ≤ (n : Int)), !again && ts.any sent, decide (0 < n) && !budget, (mn : Int) == 0]
/-- The reasons' slice lies at block g. -/
def RAt (w : World) (g : Nat) (rs : List Bool) : Prop := ∀ j b, rs[j]? = some b → w.cell? ⟨g, j * 2, none⟩ = some (.bool b) ∧ w.cell? ⟨g, j * 2 + 1, none⟩ = some (.int .i64 ((j : Int) + 1))
theorem RAt.new (w : World) (b0 b1 b2 b3 b4 b5 : Bool) : RAt (w.alloc (.cells #[.bool b0, .int .i64 1, .bool b1, .int .i64 2, .bool b2, .int .i64 3, .bool b3, .int .i64 4, .bool b4, .int .i64 5, .bool b5, .int .i64 6] 53)) w.heap.size [b0, b1, b2, b3, b4, b5] := by
  intro j b hj
  match j, hj with
  | 0, hj | 1, hj | 2, hj | 3, hj | 4, hj | 5, hj => simp at hj; subst hj; simp
theorem RAt.below {w w' : World} {g : Nat} {rs : List Bool} (h : RAt w g rs) (hg : g < w.heap.size) (hb : Below w.heap.size w w') : RAt w' g rs := by
  intro j b hj
  rw [hb.cell hg, hb.cell hg]
  exact h j b hj
def firstOf : Nat → List Bool → Int
  | _, [] => 0
  | k, b :: r => if b then (k : Int) + 1 else firstOf (k + 1) r
theorem firstOf_hit : ∀ (rs : List Bool) (k j : Nat), rs[j]? = some true → (∀ i, i < j → rs[i]? = some false) → firstOf k rs = (k : Int) + j + 1
  | [], _, _, h, _ => by simp at h
  | b :: r, k, 0, h, _ => by simp at h; subst h; simp [firstOf]
  | b :: r, k, j + 1, h, hn => by
    have h0 := hn 0 (by omega)
    simp at h0
    subst h0
    have := firstOf_hit r (k + 1) j (by simpa using h) (fun i hi => by simpa using hn (i + 1) (by omega))
    simp [firstOf, this]
    omega
theorem firstOf_miss : ∀ (rs : List Bool) (k : Nat), (∀ i, i < rs.length → rs[i]? = some false) → firstOf k rs = 0
  | [], _, _ => rfl
  | b :: r, k, hn => by
    have h0 := hn 0 (by simp)
    simp at h0
    subst h0
    simpa [firstOf] using firstOf_miss r (k + 1) (fun i hi => by simpa using hn (i + 1) (by simpa using hi))
theorem firstOf_hit0 {rs : List Bool} {k : Nat} (h : rs[k]? = some true) (hn : ∀ i, i < k → rs[i]? = some false) : firstOf 0 rs = (k : Int) + 1 := by
  rw [firstOf_hit rs 0 k h hn]; simp
end Go.Proofs.Ytmiheegkilgimaa
