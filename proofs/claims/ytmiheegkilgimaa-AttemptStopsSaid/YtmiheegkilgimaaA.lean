import Derived.Test.YtmiheegkilgimaaProg
import Derived.WalkKit
import Derived.WalkLawsBesides
import Derived.WalkSpells
import Derived.Outline
import Derived.Deep.QuietTactic
import Derived.BigQuiet
import Derived.Below
import Derived.Lib.Hide
import Derived.Deep.RegionWith
namespace Go.Proofs.Ytmiheegkilgimaa
open Go.RowKit
set_option maxHeartbeats 400000
structure T where
  b : Int
  s : Bool
  e : Int
def T.v (t : T) : Value := .agg #[.int .i64 t.b, .bool t.s, .int .i64 t.e]
/-- The slice 'A' of 'n' tries reads as 'ts', below block B. -/
structure TAt (w : World) (B : Nat) (A : Option Addr) (n : Nat) (ts : List T) : Prop where
  len : ts.length = n
  small : n ≤ 9223372036854775807
  at_ : ts ≠ [] → ∃ g o, A = some ⟨g, o, none⟩ ∧ g < B ∧ ∀ j t, ts[j]? = some t → w.cell? ⟨g, o + j * 3, none⟩ = some (.int .i64 t.b) ∧ w.cell? ⟨g, o + j * 3 + 1, none⟩ = some (.bool t.s) ∧ w.cell? ⟨g, o + j * 3 + 2, none⟩ = some (.int .i64 t.e)
theorem TAt.below {w w' : World} {B B' n : Nat} {A : Option Addr} {ts : List T} (h : TAt w B A n ts) (hb : Below B w w') (hB : B ≤ B') : TAt w' B' A n ts := by
  refine ⟨h.len, h.small, fun hne => ?_⟩
  obtain ⟨g, o, h1, h2, h3⟩ := h.at_ hne
  refine ⟨g, o, h1, by omega, fun j t hj => ?_⟩
  have := h3 j t hj
  rw [hb.cell h2, hb.cell h2, hb.cell h2]
  exact this
theorem good_any (b en : Int) (s : Bool) (w : World) : Calls Try.prog 35 #[.agg #[.int .i64 b, .bool s, .int .i64 en]] w fun e w' => e = .returned (.bool (en == 1 || en == 7)) ∧ Below w.heap.size w w' := by
  go_enter Try.func35, Try.ntmps35
  go_wp2_with fail
  all_goals
    go_ret
    exact ⟨by simp [*], (Below.refl _ _).alloc (Nat.le_refl _) _⟩
theorem sent_any (b en : Int) (s : Bool) (w : World) : Calls Try.prog 36 #[.agg #[.int .i64 b, .bool s, .int .i64 en]] w fun e w' => e = .returned (.bool s) ∧ Below w.heap.size w w' := by
  go_enter Try.func36, Try.ntmps36
  go_wp2_with fail
  all_goals
    go_ret
    exact ⟨by simp [*], (Below.refl _ _).alloc (Nat.le_refl _) _⟩
theorem enter35 (args : Array Value) (w : World) : (callFunc 35 args).run Try.prog w = .ok (.enter 35 args) w := by
  simp [callFunc, Try.func35]
  rfl
theorem findIdx_hit {p : T → Bool} {ts : List T} {k : Nat} {t : T} (ht : ts[k]? = some t) (hp : p t = true) (hno : ∀ j t, ts[j]? = some t → j < k → p t = false) : (ts.findIdx? p).elim (-1) (fun n => (n : Int)) = (k : Int) := by
  have : ts.findIdx? p = some k := by
    rw [List.findIdx?_eq_some_iff_getElem]
    obtain ⟨hk, rfl⟩ := List.getElem?_eq_some_iff.1 ht
    refine ⟨hk, hp, fun j hj => ?_⟩
    simpa using hno j _ (List.getElem?_eq_getElem (by omega)) hj
  rw [this]; rfl
theorem findIdx_miss {p : T → Bool} {ts : List T} {k : Nat} (hk : ts.length ≤ k) (hno : ∀ j t, ts[j]? = some t → j < k → p t = false) : (ts.findIdx? p).elim (-1) (fun n => (n : Int)) = -1 := by
  have : ts.findIdx? p = none := by
    rw [List.findIdx?_eq_none_iff]
    intro x hx
    obtain ⟨j, hj⟩ := List.getElem?_of_mem hx
    exact hno j x hj (by have := (List.getElem?_eq_some_iff.1 hj).1; omega)
  rw [this]; rfl
theorem ret_int {k : IntKind} {a b : Int} (h : a = b) : Ending.returned (.int k a) = Ending.returned (.int k b) := by rw [h]
theorem idx (K : Nat) (hK : ∀ (args : Array Value) (w : World), (callFunc K args).run Try.prog w = .ok (.enter K args) w) (p : T → Bool) (hf : ∀ (t : T) (w : World), Calls Try.prog K (#[t.v]) w fun e w' => e = .returned (.bool (p t)) ∧ Below w.heap.size w w')
    (A : Option Addr) (n c : Nat) (ts : List T) (w : World) (hts : TAt w w.heap.size A n ts) : Calls Try.prog 45 #[.slice A n c, .func (.func K) #[] #[]] w fun e w' => e = .returned (.int .i64 ((ts.findIdx? p).elim (-1) (fun n => (n : Int)))) ∧ Below w.heap.size w w' := by
  have hn := hts.small
  have HL := Lib.hid hts.len
  have HF := Lib.hid hf
  clear hf
  go_enter Try.func45, Try.ntmps45
  go_wp2_with fail
  go_loopw [8] (fun i wr => ∃ k : Nat, k ≤ n ∧ i = .int .i64 k ∧ Below w.heap.size w wr ∧ ∀ j t, ts[j]? = some t → j < k → p t = false) (fun i _ => n - (intOf i).toNat)
  case atStart => exact ⟨0, by omega, rfl, Below.refl _ _, fun _ _ _ h => by omega⟩
  case round =>
    obtain ⟨k, hk, rfl, hb, hno⟩ := hrel
    have HN := Lib.hid hno
    clear hno
    by_cases hlt : k < n
    · obtain ⟨g, o, rfl, hg, hc⟩ := (hts.below hb (Nat.le_refl _)).at_ (by intro h; have := HL.out; subst h; simp at this; omega)
      obtain ⟨t, ht⟩ : ∃ t, ts[k]? = some t := ⟨_, List.getElem?_eq_getElem (by rw [HL.out]; exact hlt)⟩
      obtain ⟨c1, c2, c3⟩ := hc k t ht
      clear hc
      have HT := Lib.hid ht
      clear ht
      have HB := Lib.hid hb
      have hbs := hb.size
      clear hb
      go_wp2_with (refine (HF.out t _).mono ?_; rintro e w1 ⟨rfl, hb1⟩)
      · rename_i hp
        go_ret
        exact ⟨ret_int (findIdx_hit HT.out hp HN.out).symm, HB.out.trans (hb1.mono hbs)⟩
      · go_roundw
        case rel => 
          refine ⟨k + 1, by omega, by go_num, HB.out.trans (hb1.mono hbs), fun j t' hj hjk => ?_⟩
          rcases Nat.lt_or_ge j k with h | h
          · exact HN.out j t' hj h
          · obtain rfl : j = k := by omega
            have := HT.out
            rw [this] at hj
            cases hj
            assumption
        case measure => simp [intOf]; omega
    · go_wp2_with fail
      go_ret
      exact ⟨ret_int (findIdx_miss (by rw [HL.out]; omega) HN.out).symm, hb⟩
theorem any_of_findIdx (p : T → Bool) (ts : List T) : decide (0 ≤ (ts.findIdx? p).elim (-1) (fun n => (n : Int))) = ts.any p := by
  cases h : ts.findIdx? p with
  | none =>
    rw [List.findIdx?_eq_none_iff] at h
    simp only [Option.elim_none]
    symm
    rw [Bool.eq_iff_iff]
    simp
    intro x hx
    simpa using h x hx
  | some k =>
    rw [List.findIdx?_eq_some_iff_getElem] at h
    obtain ⟨hk, hp, _⟩ := h
    simp only [Option.elim_some]
    rw [Bool.eq_iff_iff]
    simp
    exact ⟨_, List.getElem_mem hk, hp⟩
theorem ctf (K : Nat) (hK : ∀ (args : Array Value) (w : World), (callFunc K args).run Try.prog w = .ok (.enter K args) w) (p : T → Bool) (hf : ∀ (t : T) (w : World), Calls Try.prog K (#[t.v]) w fun e w' => e = .returned (.bool (p t)) ∧ Below w.heap.size w w')
    (A : Option Addr) (n c : Nat) (ts : List T) (w : World) (hts : TAt w w.heap.size A n ts) : Calls Try.prog 34 #[.slice A n c, .func (.func K) #[] #[]] w fun e w' => e = .returned (.bool (ts.any p)) ∧ Below w.heap.size w w' := by
  have HF := Lib.hid hf
  clear hf
  have HK := Lib.hid hK
  clear hK
  go_enter Try.func34, Try.ntmps34
  go_wp2_with (go_at_call 45; refine (idx K HK.out p HF.out A n c ts w hts).mono ?_; rintro e w1 ⟨rfl, hb1⟩)
  go_ret
  exact ⟨by rw [any_of_findIdx]; rfl, hb1⟩
