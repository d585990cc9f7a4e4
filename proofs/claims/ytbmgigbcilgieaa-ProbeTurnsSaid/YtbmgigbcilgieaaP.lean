import Derived.Test.YtbmgigbcilgieaaL
namespace Go.Proofs.Ytbmgigbcilgieaa
open Go.RowKit
set_option maxHeartbeats 1000000
set_option maxRecDepth 100000
theorem turns_bad (c : PC) (A : Option Addr) (n cp : Nat) (w : World) (h : 200 < n ∨ chkB c = false) : Calls Try.prog 3 #[c.v, .slice A n cp] w fun e w' => e = .returned (.bool true) ∧ Up w w' := by
  by_cases hn : 200 < n
  · have hn' : (200 : Int) < (n : Int) := by omega
    clear h
    obtain ⟨a, b, r, f⟩ := c
    simp only [PC.v]
    go_enter Try.func3, Try.ntmps3
    go_wp2_with fail
    refine (lives_any _).mono ?_; rintro e w1 ⟨rfl, h1⟩
    go_wp2_with fail
    go_ret
    exact ⟨rfl, (Up.alloc _ _).trans h1⟩
  · have hc : chkB c = false := by rcases h with h | h; exact absurd h hn; exact h
    have CK : Hid (∀ v, Calls Try.prog 9 #[c.v] v fun e w' => e = .returned (.int .i64 210) ∧ Up v w') := fun v => by rw [← chkE_no hc]; exact check_any c v
    have hn' : ¬ (200 : Int) < (n : Int) := by omega
    clear h hc
    obtain ⟨a, b, r, f⟩ := c
    simp only [PC.v] at CK ⊢
    go_enter Try.func3, Try.ntmps3
    go_wp2_with fail
    refine (lives_any _).mono ?_; rintro e w1 ⟨rfl, h1⟩
    have B := (Blk.new w 23 #[.int .i64 a, .int .i64 b, .int .i64 r, .int .i64 f]).up h1
    obtain ⟨e0, e1, e2, e3, ef⟩ := B.c4
    clear B
    go_wp2_with fail
    refine (CK.out _).mono ?_; rintro e w2 ⟨rfl, h2⟩
    go_wp2_with fail
    go_ret
    exact ⟨rfl, ((Up.alloc _ _).trans h1).trans h2⟩
theorem turns_ok (c : PC) (A : Option Addr) (n cp : Nat) (l : List Bool) (w : World) (hl : VAt w w.heap.size A n (l.map .bool)) (hn : ¬ 200 < n) (hc : chkB c = true) : Calls Try.prog 3 #[c.v, .slice A n cp] w fun e w' => e = .returned (.bool true) ∧ Up w w' := by
  have CK : Hid (∀ v, Calls Try.prog 9 #[c.v] v fun e w' => e = .returned (.int .i64 0) ∧ Up v w') := fun v => by rw [← chkE_ok hc]; exact check_any c v
  have RK := Lib.hid (fun v h => run_ok c A n cp l v h (by omega) hc)
  have hll : l.length = n := by simpa using hl.len
  have HLL := Lib.hid hll
  have HC := Lib.hid hc
  have hlim : 1 ≤ c.rise ∧ c.rise ≤ 1048576 ∧ 1 ≤ c.fall ∧ c.fall ≤ 1048576 := by simp [chkB, inB] at hc; omega
  obtain ⟨l1, l2, l3, l4⟩ := hlim
  have hn' : ¬ (200 : Int) < (n : Int) := by omega
  have T0 := Lib.hid (TI.zero (c := c) (l := l) hc)
  have TY := Lib.hid (fun i up fr => TI.yes (c := c) (l := l) (i := i) (up := up) (fr := fr) hc)
  have TN := Lib.hid (fun i up fr => TI.no (c := c) (l := l) (i := i) (up := up) (fr := fr) hc)
  clear hc hll
  obtain ⟨W, hW⟩ : ∃ W, W = w.alloc (.cells #[.int .i64 c.every, .int .i64 c.wait, .int .i64 c.rise, .int .i64 c.fall] 23) := ⟨_, rfl⟩
  have B : Blk W w.heap.size 23 #[.int .i64 c.every, .int .i64 c.wait, .int .i64 c.rise, .int .i64 c.fall] := by subst hW; exact Blk.new _ _ _
  have hU : Up w W := by subst hW; exact Up.alloc _ _
  have HW := Lib.hid hW
  clear hW
  simp only [PC.v] at CK RK ⊢
  go_enter Try.func3, Try.ntmps3
  go_wp2_with fail
  rw [← HW.out]
  refine (lives_any _).mono ?_; rintro e w1 ⟨rfl, h1⟩
  replace B := B.up h1
  replace hU := hU.trans h1
  clear h1
  obtain ⟨e0, e1, e2, e3, ef⟩ := B.c4
  go_wp2_with fail
  refine (CK.out _).mono ?_; rintro e w2 ⟨rfl, h2⟩
  clear e0 e1 e2 e3 ef
  replace B := B.up h2
  replace hU := hU.trans h2
  clear h2
  obtain ⟨e0, e1, e2, e3, ef⟩ := B.c4
  go_wp2_with fail
  refine (RK.out _ (hl.up hU)).mono ?_; rintro e w3 ⟨A', c', rfl, hown, h3⟩
  clear e0 e1 e2 e3 ef
  replace B := B.up h3
  replace hU := hU.trans h3
  have hv := VAt.of_own hown
  have hl3 := hl.up hU
  clear h3 hown hl
  obtain ⟨e0, e1, e2, e3, ef⟩ := B.c4
  clear B
  go_wp2_with fail
  go_loop [6, 7, 8] (fun u f i => ∃ (k fr : Nat) (up : Bool), k ≤ n ∧ i = .int .i64 k ∧ f = .int .i64 fr ∧ u = .bool up ∧ TI c l k up fr) (fun _ _ i => n - (intOf i).toNat)
  case atStart => exact ⟨0, 0, true, by omega, rfl, rfl, rfl, T0.out⟩
  case round =>
    obtain ⟨k, fr, up, hk, rfl, rfl, rfl, ht⟩ := hrel
    have hfr := ht.le
    have HT := Lib.hid ht
    clear ht
    by_cases hlt : k < n
    · have hlk : Hid (k < l.length) := by rw [HLL.out]; exact hlt
      obtain ⟨g, o, v, rfl, hg, hvv, cv⟩ := hv.cell hlt
      obtain ⟨ob, hob, rfl⟩ := map_bool_at hvv
      have HOB : Hid (ob = (foldP c (l.take (k + 1))).up) := by
        have := upsP_at (c := c) hlk.out
        rw [this] at hob
        injection hob with hob
        exact hob.symm
      clear hvv hob
      cases up
      case false =>
        have hlp : 1 ≤ c.rise := by omega
        go_wp2_with fail
        go_loop [10, 11] (fun s10 s11 => ∃ (j : Nat) (tb : Bool), (j : Int) ≤ c.rise ∧ s11 = .int .i64 j ∧ s10 = .bool tb ∧ (tb = true → c.rise ≤ (k : Int) + 1 - fr ∧ ∀ i, i < j → l[k - i]? = some true) ∧ (tb = false → ¬ turnP c l k false fr)) (fun _ s11 => 1048576 - (intOf s11).toNat)
        case atStart =>
          refine ⟨0, _, by omega, rfl, rfl, fun h => ⟨by simpa using h, by omega⟩, fun h ht => ?_⟩
          have := ht.1
          simp [limOf] at h this
          omega
        case round =>
          obtain ⟨j, tb, hj, rfl, rfl, ht1, ht2⟩ := hrel
          cases tb
          case true =>
            have H1 := ht1 rfl
            obtain ⟨hq1, hq2⟩ := H1
            have HQ2 := Lib.hid hq2
            clear ht1 ht2 hq2
            by_cases hjl : (j : Int) < c.rise
            · obtain ⟨g2, o2, v2, rfl, hg2, hv2, c2⟩ := hl3.cell (show k - j < n by omega)
              obtain ⟨b, hb, rfl⟩ := map_bool_at hv2
              have HB := Lib.hid hb
              clear hb hv2 hl3 hv
              have hjk : (j : Int) ≤ (k : Int) := by omega
              cases b
              all_goals
                go_wp2_with fail
                go_round
                case rel =>
                  refine ⟨j + 1, _, by omega, by go_num, rfl, fun h => ?_, fun h => ?_⟩
                  · first
                      | (cases h; done)
                      | (refine ⟨hq1, fun i hi => ?_⟩
                         rcases Nat.lt_or_ge i j with h' | h'
                         · exact HQ2.out i h'
                         · obtain rfl : i = j := by omega
                           exact HB.out)
                  · first
                      | (cases h; done)
                      | (intro ht
                         have := ht.2 j hjl
                         rw [HB.out] at this
                         simp at this)
                case measure => simp [intOf]; omega
            · have hty : turnP c l k false fr := ⟨hq1, fun i hi => HQ2.out i (by simp [limOf] at hi; omega)⟩
              have TY2 := Lib.hid (TY.out k false fr HT.out hlk.out hty)
              have hob : ob = true := by rw [HOB.out, TY2.out.up_]; rfl
              subst hob
              clear hl3 hv hty
              go_wp2_with fail
              go_round
              case rel => exact ⟨k + 1, k + 1, true, by omega, by go_num, by go_num, rfl, TY2.out⟩
              case measure => simp [intOf]; omega
          case false =>
            have TN2 := Lib.hid (TN.out k false fr HT.out hlk.out (ht2 rfl))
            have hob : ob = false := by rw [HOB.out, TN2.out.up_]
            subst hob
            clear hl3 hv ht1 ht2
            go_wp2_with fail
            all_goals
              go_round
              case rel => exact ⟨k + 1, fr, false, by omega, by go_num, rfl, rfl, TN2.out⟩
              case measure => simp [intOf]; omega
      case true =>
        have hlp : 1 ≤ c.fall := by omega
        go_wp2_with fail
        go_loop [10, 11] (fun s10 s11 => ∃ (j : Nat) (tb : Bool), (j : Int) ≤ c.fall ∧ s11 = .int .i64 j ∧ s10 = .bool tb ∧ (tb = true → c.fall ≤ (k : Int) + 1 - fr ∧ ∀ i, i < j → l[k - i]? = some false) ∧ (tb = false → ¬ turnP c l k true fr)) (fun _ s11 => 1048576 - (intOf s11).toNat)
        case atStart =>
          refine ⟨0, _, by omega, rfl, rfl, fun h => ⟨by simpa using h, by omega⟩, fun h ht => ?_⟩
          have := ht.1
          simp [limOf] at h this
          omega
        case round =>
          obtain ⟨j, tb, hj, rfl, rfl, ht1, ht2⟩ := hrel
          cases tb
          case true =>
            have H1 := ht1 rfl
            obtain ⟨hq1, hq2⟩ := H1
            have HQ2 := Lib.hid hq2
            clear ht1 ht2 hq2
            by_cases hjl : (j : Int) < c.fall
            · obtain ⟨g2, o2, v2, rfl, hg2, hv2, c2⟩ := hl3.cell (show k - j < n by omega)
              obtain ⟨b, hb, rfl⟩ := map_bool_at hv2
              have HB := Lib.hid hb
              clear hb hv2 hl3 hv
              have hjk : (j : Int) ≤ (k : Int) := by omega
              cases b
              all_goals
                go_wp2_with fail
                go_round
                case rel =>
                  refine ⟨j + 1, _, by omega, by go_num, rfl, fun h => ?_, fun h => ?_⟩
                  · first
                      | (cases h; done)
                      | (refine ⟨hq1, fun i hi => ?_⟩
                         rcases Nat.lt_or_ge i j with h' | h'
                         · exact HQ2.out i h'
                         · obtain rfl : i = j := by omega
                           exact HB.out)
                  · first
                      | (cases h; done)
                      | (intro ht
                         have := ht.2 j hjl
                         rw [HB.out] at this
                         simp at this)
                case measure => simp [intOf]; omega
            · have hty : turnP c l k true fr := ⟨hq1, fun i hi => HQ2.out i (by simp [limOf] at hi; omega)⟩
              have TY2 := Lib.hid (TY.out k true fr HT.out hlk.out hty)
              have hob : ob = false := by rw [HOB.out, TY2.out.up_]; rfl
              subst hob
              clear hl3 hv hty
              go_wp2_with fail
              go_round
              case rel => exact ⟨k + 1, k + 1, false, by omega, by go_num, by go_num, rfl, TY2.out⟩
              case measure => simp [intOf]; omega
          case false =>
            have TN2 := Lib.hid (TN.out k true fr HT.out hlk.out (ht2 rfl))
            have hob : ob = true := by rw [HOB.out, TN2.out.up_]
            subst hob
            clear hl3 hv ht1 ht2
            go_wp2_with fail
            all_goals
              go_round
              case rel => exact ⟨k + 1, fr, true, by omega, by go_num, rfl, rfl, TN2.out⟩
              case measure => simp [intOf]; omega
    · go_wp2_with fail
      go_ret
      exact ⟨rfl, hU⟩
theorem turns_any (c : PC) (A : Option Addr) (n cp : Nat) (l : List Bool) (w : World) (hl : VAt w w.heap.size A n (l.map .bool)) : Calls Try.prog 3 #[c.v, .slice A n cp] w fun e w' => e = .returned (.bool true) ∧ Up w w' := by
  by_cases hn : 200 < n
  · exact turns_bad c A n cp w (.inl hn)
  · cases hc : chkB c
    · exact turns_bad c A n cp w (.inr hc)
    · exact turns_ok c A n cp l w hl hn hc
end Go.Proofs.Ytbmgigbcilgieaa
