import Derived.Test.YtmiheegkilgimaaB
namespace Go.Proofs.Ytmiheegkilgimaa
open Go.RowKit
set_option maxHeartbeats 1000000
def oddB (t : T) (last : Bool) : Bool := decide (t.b < 0) || decide (64 ≤ t.b) || decide (t.e < 0) || decide (7 < t.e) || (t.e == 0 && !last)
theorem odd_any (t : T) (last : Bool) (w : World) : Calls Try.prog 33 #[t.v, .bool last] w fun e w' => e = .returned (.bool (oddB t last)) ∧ Up w w' := by
  obtain ⟨b, s, en⟩ := t
  unfold T.v
  simp only
  go_enter Try.func33, Try.ntmps33
  go_wp2_with fail
  all_goals
    go_ret
    exact ⟨by simp [oddB, *], Up.alloc _ _⟩
def okB (most : Int) (n : Nat) (ts : List T) : Bool := decide (1 ≤ most) && decide (most ≤ 65) && decide ((n : Int) ≤ most) && (List.range n).all fun j => !oddB (ts.getD j ⟨0, false, 0⟩) (decide (j + 1 = n))
theorem okB_hit {most : Int} {n : Nat} {ts : List T} {k : Nat} {t : T} (hk : k < n) (ht : ts[k]? = some t) (ho : oddB t (decide (k + 1 = n)) = true) : okB most n ts = false := by
  unfold okB
  rw [Bool.and_eq_false_iff]
  right
  rw [List.all_eq_false]
  exact ⟨k, by simpa using hk, by simp [List.getD_eq_getElem?_getD, ht, ho]⟩
theorem okB_all {most : Int} {n : Nat} {ts : List T} (h1 : 1 ≤ most) (h2 : most ≤ 65) (h3 : (n : Int) ≤ most) (hn : ts.length = n) (h : ∀ j t, ts[j]? = some t → j < n → oddB t (decide (j + 1 = n)) = false) : okB most n ts = true := by
  unfold okB
  simp only [h1, h2, h3, decide_true, Bool.true_and, List.all_eq_true, List.mem_range]
  intro j hj
  obtain ⟨t, ht⟩ : ∃ t, ts[j]? = some t := ⟨_, List.getElem?_eq_getElem (by omega)⟩
  simp [List.getD_eq_getElem?_getD, ht, h j t ht hj]
def chkR (most : Int) (n : Nat) (ts : List T) : Int := if okB most n ts then 0 else 2
theorem chkR_no {most : Int} {n : Nat} {ts : List T} (h : okB most n ts = false) : chkR most n ts = 2 := by unfold chkR; simp [h]
theorem chkR_ok {most : Int} {n : Nat} {ts : List T} (h : okB most n ts = true) : chkR most n ts = 0 := by unfold chkR; simp [h]
theorem check_any (again : Bool) (most : Int) (A : Option Addr) (n c : Nat) (ts : List T) (w : World) (hts : TAt w w.heap.size A n ts) :
    Calls Try.prog 9 #[.agg #[.bool again, .int .i64 most, .slice A n c]] w fun e w' => e = .returned (.int .i64 (chkR most n ts)) ∧ Up w w' := by
  have hn := hts.small
  by_cases h1 : most < 1
  · have : okB most n ts = false := by unfold okB; simp [show ¬ 1 ≤ most by omega]
    have H := Lib.hid this
    clear this hts
    go_enter Try.func9, Try.ntmps9
    go_wp2_with fail
    go_ret
    exact ⟨by rw [chkR_no H.out]; rfl, Up.alloc _ _⟩
  by_cases h2 : 65 < most
  · have : okB most n ts = false := by unfold okB; simp [show ¬ most ≤ 65 by omega]
    have H := Lib.hid this
    clear this hts
    go_enter Try.func9, Try.ntmps9
    go_wp2_with fail
    go_ret
    exact ⟨by rw [chkR_no H.out]; rfl, Up.alloc _ _⟩
  by_cases h3 : most < (n : Int)
  · have : okB most n ts = false := by unfold okB; simp [show ¬ (n : Int) ≤ most by omega]
    have H := Lib.hid this
    clear this hts
    go_enter Try.func9, Try.ntmps9
    go_wp2_with fail
    go_ret
    exact ⟨by rw [chkR_no H.out]; rfl, Up.alloc _ _⟩
  have HT := Lib.hid hts
  clear hts
  go_enter Try.func9, Try.ntmps9
  go_wp2_with fail
  obtain ⟨W, hW⟩ : ∃ W, W = w.alloc (Obj.cells #[Value.bool again, Value.int IntKind.i64 most, Value.slice A n c] 24) := ⟨_, rfl⟩
  have hUW : Up w W := by subst hW; exact Up.alloc _ _
  have F0 : W.cell? ⟨w.heap.size, 2, none⟩ = some (.slice A n c) := by subst hW; simp
  have FT : TAt W W.heap.size A n ts := HT.out.below hUW hUW.size
  have hus : w.heap.size < W.heap.size := by subst hW; simp
  rw [← hW]
  clear hW
  go_loopw [24] (fun i wr => ∃ k : Nat, k ≤ n ∧ i = .int .i64 k ∧ Up W wr ∧ ∀ j t, ts[j]? = some t → j < k → oddB t (decide (j + 1 = n)) = false) (fun i _ => n - (intOf i).toNat)
  case atStart => exact ⟨0, by omega, rfl, Up.refl _, fun _ _ _ h => by omega⟩
  case round =>
    obtain ⟨k, hk, rfl, hb, hno⟩ := hrel
    have HNO := Lib.hid hno
    clear hno
    by_cases hlt : k < n
    · obtain ⟨g, o, rfl, hg, hc⟩ := (FT.below hb hb.size).at_ (by intro h; have := HT.out.len; subst h; simp at this; omega)
      obtain ⟨t, ht⟩ : ∃ t, ts[k]? = some t := ⟨_, List.getElem?_eq_getElem (by rw [HT.out.len]; exact hlt)⟩
      obtain ⟨c1, c2, c3⟩ := hc k t ht
      have f0 := Up.cell hb F0
      have hkn : decide (k + 1 = n) = ((k : Int) + 1 == (n : Int)) := by rw [Bool.eq_iff_iff]; simp; omega
      have HKN := Lib.hid hkn
      have HTK := Lib.hid ht
      have HB := Lib.hid hb
      have hbs := hb.size
      have hws : w.heap.size < wr.heap.size := by omega
      clear hc ht hkn hb F0 FT
      go_wp2_with (go_at_call 33; refine (odd_any t _ _).mono ?_; rintro e w1 ⟨rfl, hb1⟩)
      · rename_i ho
        go_ret
        refine ⟨?_, ?_⟩
        · rw [chkR_no (okB_hit hlt HTK.out (by rw [HKN.out]; exact ho))]; rfl
        · exact ((hUW.trans HB.out).trans (Up.alloc _ _)).trans hb1
      · rename_i ho
        go_roundw
        case rel =>
          refine ⟨k + 1, by omega, by go_num, (HB.out.trans (Up.alloc _ _)).trans hb1, fun j t' hj hjk => ?_⟩
          rcases Nat.lt_or_ge j k with h | h
          · exact HNO.out j t' hj h
          · obtain rfl : j = k := by omega
            have := HTK.out
            rw [this] at hj
            cases hj
            rw [HKN.out]; simpa using ho
        case measure => simp [intOf]; omega
    · have HB := Lib.hid hb
      clear hb
      go_wp2_with fail
      go_ret
      refine ⟨?_, hUW.trans HB.out⟩
      rw [chkR_ok (okB_all (by omega) (by omega) (by omega) HT.out.len (fun j t hj hjn => HNO.out j t hj (by omega)))]; rfl
end Go.Proofs.Ytmiheegkilgimaa
