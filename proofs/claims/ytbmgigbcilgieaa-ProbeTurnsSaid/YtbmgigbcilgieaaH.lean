import Derived.Test.YtbmgigbcilgieaaG
namespace Go.Proofs.Ytbmgigbcilgieaa
open Go.RowKit
set_option maxHeartbeats 400000
set_option maxRecDepth 100000
theorem beq_false_at {l l' : List Bool} {k : Nat} {a b : Bool} (h1 : l[k]? = some a) (h2 : l'[k]? = some b) (hne : a ≠ b) : (l == l') = false := by
  rw [beq_eq_false_iff_ne]
  rintro rfl
  rw [h1] at h2
  injection h2 with h2
  exact hne h2
theorem beq_true_all {l l' : List Bool} {n : Nat} (h1 : l.length = n) (h2 : l'.length = n) (h : ∀ j, j < n → l[j]? = l'[j]?) : (l == l') = true := by
  rw [beq_iff_eq]
  apply List.ext_getElem?
  intro i
  rcases Nat.lt_or_ge i n with hi | hi
  · exact h i hi
  · rw [List.getElem?_eq_none (by omega), List.getElem?_eq_none (by omega)]
theorem map_bool_at {l : List Bool} {k : Nat} {v : Value} (h : (l.map Value.bool)[k]? = some v) : ∃ b, l[k]? = some b ∧ v = .bool b := by
  rw [List.getElem?_map] at h
  cases h2 : l[k]? with
  | none => rw [h2] at h; cases h
  | some b => rw [h2] at h; exact ⟨b, rfl, by injection h with h; exact h.symm⟩
theorem same_any (A B : Option Addr) (n m c d : Nat) (l l' : List Bool) (w : World) (h1 : VAt w w.heap.size A n (l.map .bool)) (h2 : VAt w w.heap.size B m (l'.map .bool)) :
    Calls Try.prog 22 #[.slice A n c, .slice B m d] w fun e w' => e = .returned (.bool (l == l')) ∧ Up w w' := by
  have hl1 : l.length = n := by simpa using h1.len
  have hl2 : l'.length = m := by simpa using h2.len
  have hn1 := h1.small
  by_cases hnm : n = m
  · subst hnm
    have HL1 := Lib.hid hl1
    have HL2 := Lib.hid hl2
    clear hl1 hl2
    go_enter Try.func22, Try.ntmps22
    go_wp2_with fail
    go_loopw [5] (fun i wr => ∃ k : Nat, k ≤ n ∧ i = .int .i64 k ∧ Up w wr ∧ ∀ j, j < k → l[j]? = l'[j]?) (fun i _ => n - (intOf i).toNat)
    case atStart => exact ⟨0, by omega, rfl, Up.refl _, fun _ h => by omega⟩
    case round =>
      obtain ⟨k, hk, rfl, hb, hno⟩ := hrel
      have HNO := Lib.hid hno
      clear hno
      by_cases hlt : k < n
      · obtain ⟨g, o, v, rfl, hg, hv, c1⟩ := (h1.up hb).cell hlt
        obtain ⟨g2, o2, v2, rfl, hg2, hv2, c2⟩ := (h2.up hb).cell hlt
        obtain ⟨a, ha, rfl⟩ := map_bool_at hv
        obtain ⟨b, hb2, rfl⟩ := map_bool_at hv2
        have HA := Lib.hid ha
        have HB := Lib.hid hb2
        have HUP := Lib.hid hb
        clear ha hb2 hv hv2 h1 h2 hb
        have i1 : (0 : Int) ≤ (k : Int) := by omega
        have i2 : (k : Int) < (n : Int) := by omega
        by_cases hab : a = b
        · subst hab
          go_wp2_with (go_quiet (fail))
          go_roundw
          case rel =>
            refine ⟨k + 1, by omega, by go_num, Up.drewN HUP.out _, fun j hj => ?_⟩
            rcases Nat.lt_or_ge j k with h | h
            · exact HNO.out j h
            · obtain rfl : j = k := by omega
              rw [HA.out, HB.out]
          case measure => simp [intOf]; omega
        · have hne : (a == b) = false := by simpa using hab
          have HAB := Lib.hid hab
          clear hab
          go_wp2_with (go_quiet (fail))
          go_ret
          exact ⟨by rw [beq_false_at HA.out HB.out HAB.out]; rfl, Up.drewN HUP.out _⟩
      · have HUP := Lib.hid hb
        clear hb h1 h2
        go_wp2_with fail
        go_ret
        exact ⟨by rw [beq_true_all HL1.out HL2.out (fun j hj => HNO.out j (by omega))]; rfl, HUP.out⟩
  · have H := Lib.hid (show (l == l') = false by rw [beq_eq_false_iff_ne]; rintro rfl; omega)
    have hne : ((n : Int) != (m : Int)) = true := by rw [bne_iff_ne]; omega
    clear h1 h2
    go_enter Try.func22, Try.ntmps22
    go_wp2_with fail
    go_ret
    exact ⟨by rw [H.out]; rfl, Up.refl _⟩
end Go.Proofs.Ytbmgigbcilgieaa
