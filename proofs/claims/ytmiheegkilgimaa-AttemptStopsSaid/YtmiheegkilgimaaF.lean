import Derived.Test.YtmiheegkilgimaaE
import Derived.Deep.RegionHeld3
namespace Go.Proofs.Ytmiheegkilgimaa
open Go.RowKit
set_option maxHeartbeats 1000000
set_option maxRecDepth 100000
attribute [local go_sem] Gives givesUpon
theorem plain (again budget : Bool) (most : Int) (mn n : Nat) (ts : List T) (why best : Int) (hw : why = firstOf 0 (reasons again budget most mn n ts)) (hb : best = firstOf 0 (reasons again true most 1 n ts)) :
    (why = 0 ∧ best = 0 ∧ 0 < mn ∧ (budget = true ∨ n = 0)) ∨ (why = 6 ∧ best = 0 ∧ mn = 0) ∨ (why = 5 ∧ best = 0 ∧ budget = false ∧ 0 < n) ∨ (why = 1 ∧ best = 1 ∧ 0 < n ∧ lastE ts = 0) ∨
    ((why = 2 ∧ best = 2 ∨ why = 3 ∧ best = 3 ∨ why = 4 ∧ best = 4) ∧ (n = 0 ∨ 0 < n ∧ lastE ts ≠ 0)) := by
  subst hw hb
  have hb0 : (((1 : Nat) : Int) == 0) = false := rfl
  simp only [reasons, hb0, Bool.not_true, Bool.and_false]
  generalize ts.any good = g
  generalize decide (most ≤ (n : Int)) = m
  generalize ts.any sent = s
  by_cases hn : n = 0
  · subst hn
    by_cases hm : mn = 0
    · subst hm
      cases again <;> cases g <;> cases m <;> cases s <;> simp [firstOf]
    · have : ((mn : Int) == 0) = false := by simp; omega
      simp only [this]
      cases again <;> cases g <;> cases m <;> cases s <;> simp [firstOf] <;> omega
  · have hn' : decide (0 < n) = true := by simp; omega
    simp only [hn', Bool.true_and]
    by_cases hl : lastE ts = 0
    · simp [hl, firstOf]; omega
    · have : (lastE ts == 0) = false := by simp [hl]
      simp only [this]
      by_cases hm : mn = 0
      · subst hm
        cases again <;> cases g <;> cases m <;> cases s <;> cases budget <;> simp [firstOf, hl] <;> omega
      · have : ((mn : Int) == 0) = false := by simp; omega
        simp only [this]
        cases again <;> cases g <;> cases m <;> cases s <;> cases budget <;> simp [firstOf, hl] <;> omega
theorem law_ok (again budget : Bool) (most : Int) (A M : Option Addr) (n c mn mc : Nat) (ts : List T) (w : World) (hts : TAt w w.heap.size A n ts) (hm : ¬ 64 < mn) (hok : okB most n ts = true) :
    Calls Try.prog 3 #[.agg #[.bool again, .int .i64 most, .slice A n c], .slice M mn mc, .bool budget] w fun e w' => e = .returned (.bool true) ∧ Up w w' := by
  have HOK := Lib.hid hok
  clear hok
  have hn := hts.small
  obtain ⟨W, hW⟩ : ∃ W, W = w.alloc (Obj.cells #[.bool again, .int .i64 most, .slice A n c] 24) := ⟨_, rfl⟩
  have hUW : Up w W := by subst hW; exact Up.alloc _ _
  have F0 : Hid (W.cell? ⟨w.heap.size, 0, none⟩ = some (.bool again) ∧ W.cell? ⟨w.heap.size, 1, none⟩ = some (.int .i64 most) ∧ W.cell? ⟨w.heap.size, 2, none⟩ = some (.slice A n c)) := by subst hW; simp [Hid]
  have hT := hts.up hUW
  clear hts
  have HW := Lib.hid hW
  clear hW
  go_enter Try.func3, Try.ntmps3
  go_wp2_with fail
  rw [← HW.out]
  refine (lives_any _).mono ?_; rintro e w1 ⟨rfl, h1⟩
  have f0 := Up.cell h1 F0.out.1
  have f1 := Up.cell h1 F0.out.2.1
  have f2 := Up.cell h1 F0.out.2.2
  replace hT := hT.up h1
  go_wp2_with fail
  refine (check_any again most A n c ts _ hT).mono ?_; rintro e w2 ⟨rfl, h2⟩
  rw [chkR_ok HOK.out]
  replace hT := hT.up h2
  replace f0 := Up.cell h2 f0
  replace f1 := Up.cell h2 f1
  replace f2 := Up.cell h2 f2
  have hU := (hUW.trans h1).trans h2
  clear hUW h1 h2 F0 HW
  go_wp2_with fail
  have F : Hid (∀ (v : World), Up w2.drew v → v.cell? ⟨w.heap.size, 0, none⟩ = some (.bool again) ∧ v.cell? ⟨w.heap.size, 1, none⟩ = some (.int .i64 most) ∧ v.cell? ⟨w.heap.size, 2, none⟩ = some (.slice A n c) ∧ TAt v v.heap.size A n ts) :=
    fun v h => ⟨Up.cell h f0, Up.cell h f1, Up.cell h f2, hT.up (Up.of_drew h)⟩
  clear f0 f1 f2 hT
  obtain ⟨why, hwhy⟩ : ∃ x, x = firstOf 0 (reasons again budget most mn n ts) := ⟨_, rfl⟩
  obtain ⟨best, hbest⟩ : ∃ x, x = firstOf 0 (reasons again true most 1 n ts) := ⟨_, rfl⟩
  have P := Lib.hid (plain again budget most mn n ts why best hwhy hbest)
  have S1 : Hid (∀ M' mc' v, TAt v v.heap.size A n ts → Calls Try.prog 10 #[.agg #[.bool again, .int .i64 most, .slice A n c], .slice M' mn mc', .bool budget] v (fun e w' => e = .returned (.int .i64 why) ∧ Up v w')) := fun M' mc' v h => by rw [hwhy]; exact stop_any again budget most A M' n c mn mc' ts v h
  have S2 : Hid (∀ M' mc' v, TAt v v.heap.size A n ts → Calls Try.prog 10 #[.agg #[.bool again, .int .i64 most, .slice A n c], .slice M' 1 mc', .bool true] v (fun e w' => e = .returned (.int .i64 best) ∧ Up v w')) := fun M' mc' v h => by rw [hbest]; exact stop_any again true most A M' n c 1 mc' ts v h
  clear hwhy hbest
  refine wp_region_noPanic (wp_region_plan ((0, true) :: (1, true) :: (2, true) :: (3, true) :: (4, true) :: (5, false) :: (6, true) :: (7, true) :: (8, true) :: []) Up Up.refl (fun _ _ _ => Up.trans) (by kernel_rfl) (by kernel_rfl) (fun _ _ _ _ _ h => h) ?_)
  (refine wpP_take rfl rfl ?_; apply Exists.intro; refine ⟨fun w1 hw1 => ?_, ?_⟩; (have f0 := (F.out w1 hw1).1; have f1 := (F.out w1 hw1).2.1; have f2 := (F.out w1 hw1).2.2.1; go_simp; exact ⟨rfl, Up.refl _⟩); (simp only [Act.put, List.setIfInBounds_toArray, List.set_cons_succ, List.set_cons_zero]))
  (refine wpP_take rfl rfl ?_; apply Exists.intro; refine ⟨fun w1 hw1 => ?_, ?_⟩; (have f0 := (F.out w1 hw1).1; have f1 := (F.out w1 hw1).2.1; have f2 := (F.out w1 hw1).2.2.1; go_simp; exact ⟨rfl, Up.refl _⟩); (simp only [Act.put, List.setIfInBounds_toArray, List.set_cons_succ, List.set_cons_zero]))
  (refine wpP_take rfl rfl ?_; apply Exists.intro; refine ⟨fun w1 hw1 => ?_, ?_⟩; (have f0 := (F.out w1 hw1).1; have f1 := (F.out w1 hw1).2.1; have f2 := (F.out w1 hw1).2.2.1; go_simp; exact ⟨rfl, Up.refl _⟩); (simp only [Act.put, List.setIfInBounds_toArray, List.set_cons_succ, List.set_cons_zero]))
  (refine wpP_take rfl rfl ?_; apply Exists.intro; refine ⟨fun w1 hw1 => ?_, ?_⟩; (have f0 := (F.out w1 hw1).1; have f1 := (F.out w1 hw1).2.1; have f2 := (F.out w1 hw1).2.2.1; go_simp; refine (S1.out _ _ _ (F.out w1 hw1).2.2.2).mono ?_; rintro e w' ⟨rfl, hb⟩; exact ⟨_, rfl, rfl, hb⟩); (simp only [Act.put, List.setIfInBounds_toArray, List.set_cons_succ, List.set_cons_zero]))
  (refine wpP_take rfl rfl ?_; apply Exists.intro; refine ⟨fun w1 hw1 => ?_, ?_⟩; (have f0 := (F.out w1 hw1).1; have f1 := (F.out w1 hw1).2.1; have f2 := (F.out w1 hw1).2.2.1; go_simp; exact ⟨rfl, Up.refl _⟩); (simp only [Act.put, List.setIfInBounds_toArray, List.set_cons_succ, List.set_cons_zero]))
  refine wpP_only rfl rfl (fun v0 hv0 => ?_)
  go_simp
  refine ⟨Up.alloc _ _, ?_⟩
  (refine wpP_take rfl rfl ?_; apply Exists.intro; refine ⟨fun w1 hw1 => ?_, ?_⟩; (go_simp; refine (S2.out _ _ _ (F.out w1 ((hv0.trans (Up.alloc _ _)).trans hw1)).2.2.2).mono ?_; rintro e w' ⟨rfl, hb⟩; exact ⟨_, rfl, rfl, hb⟩); (simp only [Act.put, List.setIfInBounds_toArray, List.set_cons_succ, List.set_cons_zero]))
  (refine wpP_take rfl rfl ?_; apply Exists.intro; refine ⟨fun w1 hw1 => ?_, ?_⟩; (go_simp; exact ⟨rfl, Up.refl _⟩); (simp only [Act.put, List.setIfInBounds_toArray, List.set_cons_succ, List.set_cons_zero]))
  (refine wpP_take rfl rfl ?_; apply Exists.intro; refine ⟨fun w1 hw1 => ?_, ?_⟩; (go_simp; exact ⟨rfl, Up.refl _⟩); (simp only [Act.put, List.setIfInBounds_toArray, List.set_cons_succ, List.set_cons_zero]))
  refine wpP_done (fun W2 hW2 => NoPanic.normal ?_)
  have hU2 := (hU.trans (Up.of_drew ((hv0.trans (Up.alloc _ _)).trans hW2)))
  have F2 := F.out W2 ((hv0.trans (Up.alloc _ _)).trans hW2)
  have f2 := F2.2.2.1
  have f0 := F2.1
  have f1 := F2.2.1
  have hT := F2.2.2.2
  clear F2 F hW2 hv0 hU S1 S2
  rcases P.out with ⟨rfl, rfl, p1, p2 | p2⟩ | ⟨rfl, rfl, p1⟩ | ⟨rfl, rfl, p1, p2⟩ | ⟨rfl, rfl, p1, p2⟩ | ⟨⟨rfl, rfl⟩ | ⟨rfl, rfl⟩ | ⟨rfl, rfl⟩, p1 | ⟨p1, p2⟩⟩
  all_goals clear P
  all_goals (try subst p2)
  all_goals (try subst p1)
  all_goals
    go_wp2_with (go_at_call 11; refine (last_any _ _ _ _ _ ts _ hT).mono ?_; rintro e w5 ⟨rfl, h5⟩)
    all_goals (go_ret; refine ⟨?_, ?_⟩)
    all_goals first | exact hU2 | exact hU2.trans h5 | (simp; done) | (simp [*]; done) | (simp; assumption)
theorem law_bad (again budget : Bool) (most : Int) (A M : Option Addr) (n c mn mc : Nat) (ts : List T) (w : World) (hts : TAt w w.heap.size A n ts) (hbad : 64 < mn ∨ okB most n ts = false) :
    Calls Try.prog 3 #[.agg #[.bool again, .int .i64 most, .slice A n c], .slice M mn mc, .bool budget] w fun e w' => e = .returned (.bool true) ∧ Up w w' := by
  have HBAD := Lib.hid hbad
  clear hbad
  have hn := hts.small
  obtain ⟨W, hW⟩ : ∃ W, W = w.alloc (Obj.cells #[.bool again, .int .i64 most, .slice A n c] 24) := ⟨_, rfl⟩
  have hUW : Up w W := by subst hW; exact Up.alloc _ _
  have F0 : Hid (W.cell? ⟨w.heap.size, 0, none⟩ = some (.bool again) ∧ W.cell? ⟨w.heap.size, 1, none⟩ = some (.int .i64 most) ∧ W.cell? ⟨w.heap.size, 2, none⟩ = some (.slice A n c)) := by subst hW; simp [Hid]
  have hT := hts.up hUW
  clear hts
  have HW := Lib.hid hW
  clear hW
  go_enter Try.func3, Try.ntmps3
  go_wp2_with fail
  rw [← HW.out]
  refine (lives_any _).mono ?_; rintro e w1 ⟨rfl, h1⟩
  have f0 := Up.cell h1 F0.out.1
  have f1 := Up.cell h1 F0.out.2.1
  have f2 := Up.cell h1 F0.out.2.2
  replace hT := hT.up h1
  go_wp2_with fail
  refine (check_any again most A n c ts _ hT).mono ?_; rintro e w2 ⟨rfl, h2⟩
  have hU := (hUW.trans h1).trans h2
  clear hUW h1 h2 F0 HW hT f0 f1 f2
  cases hk : okB most n ts
  · rw [chkR_no hk]
    clear hk HBAD
    go_wp2_with fail
    go_ret
    exact ⟨rfl, hU⟩
  · rw [chkR_ok hk]
    have hm : 64 < mn := by
      rcases HBAD.out with h | h
      · exact h
      · rw [hk] at h; cases h
    clear hk HBAD
    have hm' : (64 : Int) < (mn : Int) := by omega
    go_wp2_with fail
    go_ret
    exact ⟨rfl, hU⟩
theorem law_any (again budget : Bool) (most : Int) (A M : Option Addr) (n c mn mc : Nat) (ts : List T) (w : World) (hts : TAt w w.heap.size A n ts) :
    Calls Try.prog 3 #[.agg #[.bool again, .int .i64 most, .slice A n c], .slice M mn mc, .bool budget] w fun e w' => e = .returned (.bool true) ∧ Up w w' := by
  by_cases hm : 64 < mn
  · exact law_bad again budget most A M n c mn mc ts w hts (.inl hm)
  · cases hk : okB most n ts
    · exact law_bad again budget most A M n c mn mc ts w hts (.inr hk)
    · exact law_ok again budget most A M n c mn mc ts w hts hm hk
end Go.Proofs.Ytmiheegkilgimaa
