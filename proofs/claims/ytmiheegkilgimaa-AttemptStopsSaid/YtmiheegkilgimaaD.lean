import Derived.Test.YtmiheegkilgimaaB
import Derived.Test.YtmiheegkilgimaaG
import Derived.Deep.RegionHeld3
namespace Go.Proofs.Ytmiheegkilgimaa
open Go.RowKit
set_option maxHeartbeats 1000000
set_option maxRecDepth 100000
attribute [local go_sem] Gives givesUpon
theorem stop_fp (n : Nat) (h0 : 0 < n) (budget : Bool) (most : Int) (A M : Option Addr) (c mn mc : Nat) (ts : List T) (w : World) (hts : TAt w w.heap.size A n ts) :
    Calls Try.prog 10 #[.agg #[.bool false, .int .i64 most, .slice A n c], .slice M mn mc, .bool budget] w fun e w' => e = .returned (.int .i64 (firstOf 0 (reasons false budget most mn n ts))) ∧ Up w w' := by
  have HT := Lib.hid hts
  have hn := hts.small
  clear hts
  have hd : decide (0 < n) = true := by simp; omega
  have HN := Lib.hid h0
  clear h0
  go_enter Try.func10, Try.ntmps10
  go_wp2_with fail
  obtain ⟨W, hW⟩ : ∃ W, W = w.alloc (Obj.cells #[Value.bool false, Value.int IntKind.i64 most, Value.slice A n c] 24) := ⟨_, rfl⟩
  have hUW : Up w W := by subst hW; exact Up.alloc _ _
  have F0 : W.cell? ⟨w.heap.size, 0, none⟩ = some (.bool false) ∧ W.cell? ⟨w.heap.size, 1, none⟩ = some (.int .i64 most) ∧ W.cell? ⟨w.heap.size, 2, none⟩ = some (.slice A n c) := by subst hW; simp
  have FT : TAt W W.heap.size A n ts := HT.out.below hUW hUW.size
  rw [← hW]
  clear hW
  have F : Hid (∀ (w1 : World), Up W.drew w1 → w1.cell? ⟨w.heap.size, 0, none⟩ = some (.bool false) ∧ w1.cell? ⟨w.heap.size, 1, none⟩ = some (.int .i64 most) ∧ w1.cell? ⟨w.heap.size, 2, none⟩ = some (.slice A n c) ∧ TAt w1 w1.heap.size A n ts) :=
    fun w1 h => ⟨Up.cell h F0.1, Up.cell h F0.2.1, Up.cell h F0.2.2, FT.below (Up.of_drew h) h.size⟩
  clear F0 FT
  refine wp_region_noPanic (wp_region_plan ((0,true)::(1,true)::(2,true)::(3,true)::(4,true)::(5,true)::(6,true)::(7,true)::(8,true)::(9,true)::(10,true)::(11,true)::(12,true)::(13,true)::(14,true)::(15,true)::(16,true)::(17,true)::(18,true)::(19,true)::(20,true)::(21,true)::(22,true)::(23,true)::(24,true)::(25,true)::(26,true)::(27,true)::(28,true)::(29,true)::(30,true)::(31,true)::(32,true)::(33,true)::(34,true)::(35,true)::(36,true)::(37,false)::(38,true)::[]) Up Up.refl (fun _ _ _ => Up.trans) (by kernel_rfl) (by kernel_rfl) (fun _ _ _ _ _ h => h) ?_)
  (refine wpP_take rfl rfl ?_; apply Exists.intro; refine ⟨fun w1 hw1 => ?_, ?_⟩; (have f1 := (F.out w1 hw1).1; have f2 := (F.out w1 hw1).2.1; have f3 := (F.out w1 hw1).2.2.1; go_simp; exact ⟨rfl, Up.refl _⟩); (simp only [Act.put, List.setIfInBounds_toArray, List.set_cons_succ, List.set_cons_zero]))
  (refine wpP_take rfl rfl ?_; apply Exists.intro; refine ⟨fun w1 hw1 => ?_, ?_⟩; (have f1 := (F.out w1 hw1).1; have f2 := (F.out w1 hw1).2.1; have f3 := (F.out w1 hw1).2.2.1; go_simp; exact ⟨rfl, Up.refl _⟩); (simp only [Act.put, List.setIfInBounds_toArray, List.set_cons_succ, List.set_cons_zero]))
  (refine wpP_take rfl rfl ?_; apply Exists.intro; refine ⟨fun w1 hw1 => ?_, ?_⟩; (have f1 := (F.out w1 hw1).1; have f2 := (F.out w1 hw1).2.1; have f3 := (F.out w1 hw1).2.2.1; go_simp; exact ⟨rfl, Up.refl _⟩); (simp only [Act.put, List.setIfInBounds_toArray, List.set_cons_succ, List.set_cons_zero]))
  (refine wpP_take rfl rfl ?_; apply Exists.intro; refine ⟨fun w1 hw1 => ?_, ?_⟩; (have f1 := (F.out w1 hw1).1; have f2 := (F.out w1 hw1).2.1; have f3 := (F.out w1 hw1).2.2.1; go_simp; go_at_call 11; (with_reducible refine (last_any _ _ _ _ _ ts _ (F.out w1 hw1).2.2.2).mono ?_); rintro e w' ⟨rfl, hb⟩; exact ⟨_, rfl, rfl, hb⟩); (simp only [Act.put, List.setIfInBounds_toArray, List.set_cons_succ, List.set_cons_zero]))
  (refine wpP_take rfl rfl ?_; apply Exists.intro; refine ⟨fun w1 hw1 => ?_, ?_⟩; (have f1 := (F.out w1 hw1).1; have f2 := (F.out w1 hw1).2.1; have f3 := (F.out w1 hw1).2.2.1; go_simp; exact ⟨rfl, Up.refl _⟩); (simp only [Act.put, List.setIfInBounds_toArray, List.set_cons_succ, List.set_cons_zero]))
  (refine wpP_take rfl rfl ?_; apply Exists.intro; refine ⟨fun w1 hw1 => ?_, ?_⟩; (have f1 := (F.out w1 hw1).1; have f2 := (F.out w1 hw1).2.1; have f3 := (F.out w1 hw1).2.2.1; go_simp; exact ⟨rfl, Up.refl _⟩); (simp only [Act.put, List.setIfInBounds_toArray, List.set_cons_succ, List.set_cons_zero]))
  (refine wpP_take rfl rfl ?_; apply Exists.intro; refine ⟨fun w1 hw1 => ?_, ?_⟩; (have f1 := (F.out w1 hw1).1; have f2 := (F.out w1 hw1).2.1; have f3 := (F.out w1 hw1).2.2.1; go_simp; exact ⟨rfl, Up.refl _⟩); (simp only [Act.put, List.setIfInBounds_toArray, List.set_cons_succ, List.set_cons_zero]))
  (refine wpP_take rfl rfl ?_; apply Exists.intro; refine ⟨fun w1 hw1 => ?_, ?_⟩; (have f1 := (F.out w1 hw1).1; have f2 := (F.out w1 hw1).2.1; have f3 := (F.out w1 hw1).2.2.1; go_simp; exact ⟨rfl, Up.refl _⟩); (simp only [Act.put, List.setIfInBounds_toArray, List.set_cons_succ, List.set_cons_zero]))
  (refine wpP_take rfl rfl ?_; apply Exists.intro; refine ⟨fun w1 hw1 => ?_, ?_⟩; (have f1 := (F.out w1 hw1).1; have f2 := (F.out w1 hw1).2.1; have f3 := (F.out w1 hw1).2.2.1; go_simp; exact ⟨rfl, Up.refl _⟩); (simp only [Act.put, List.setIfInBounds_toArray, List.set_cons_succ, List.set_cons_zero]))
  (refine wpP_take rfl rfl ?_; apply Exists.intro; refine ⟨fun w1 hw1 => ?_, ?_⟩; (have f1 := (F.out w1 hw1).1; have f2 := (F.out w1 hw1).2.1; have f3 := (F.out w1 hw1).2.2.1; go_simp; go_at_call 34; (with_reducible refine (ctf_good _ _ _ ts _ (F.out w1 hw1).2.2.2).mono ?_); rintro e w' ⟨rfl, hb⟩; exact ⟨_, rfl, rfl, hb⟩); (simp only [Act.put, List.setIfInBounds_toArray, List.set_cons_succ, List.set_cons_zero]))
  (refine wpP_take rfl rfl ?_; apply Exists.intro; refine ⟨fun w1 hw1 => ?_, ?_⟩; (have f1 := (F.out w1 hw1).1; have f2 := (F.out w1 hw1).2.1; have f3 := (F.out w1 hw1).2.2.1; go_simp; exact ⟨rfl, Up.refl _⟩); (simp only [Act.put, List.setIfInBounds_toArray, List.set_cons_succ, List.set_cons_zero]))
  (refine wpP_take rfl rfl ?_; apply Exists.intro; refine ⟨fun w1 hw1 => ?_, ?_⟩; (have f1 := (F.out w1 hw1).1; have f2 := (F.out w1 hw1).2.1; have f3 := (F.out w1 hw1).2.2.1; go_simp; exact ⟨rfl, Up.refl _⟩); (simp only [Act.put, List.setIfInBounds_toArray, List.set_cons_succ, List.set_cons_zero]))
  (refine wpP_take rfl rfl ?_; apply Exists.intro; refine ⟨fun w1 hw1 => ?_, ?_⟩; (have f1 := (F.out w1 hw1).1; have f2 := (F.out w1 hw1).2.1; have f3 := (F.out w1 hw1).2.2.1; go_simp; exact ⟨rfl, Up.refl _⟩); (simp only [Act.put, List.setIfInBounds_toArray, List.set_cons_succ, List.set_cons_zero]))
  (refine wpP_take rfl rfl ?_; apply Exists.intro; refine ⟨fun w1 hw1 => ?_, ?_⟩; (have f1 := (F.out w1 hw1).1; have f2 := (F.out w1 hw1).2.1; have f3 := (F.out w1 hw1).2.2.1; go_simp; exact ⟨rfl, Up.refl _⟩); (simp only [Act.put, List.setIfInBounds_toArray, List.set_cons_succ, List.set_cons_zero]))
  (refine wpP_take rfl rfl ?_; apply Exists.intro; refine ⟨fun w1 hw1 => ?_, ?_⟩; (have f1 := (F.out w1 hw1).1; have f2 := (F.out w1 hw1).2.1; have f3 := (F.out w1 hw1).2.2.1; go_simp; exact ⟨rfl, Up.refl _⟩); (simp only [Act.put, List.setIfInBounds_toArray, List.set_cons_succ, List.set_cons_zero]))
  (refine wpP_take rfl rfl ?_; apply Exists.intro; refine ⟨fun w1 hw1 => ?_, ?_⟩; (have f1 := (F.out w1 hw1).1; have f2 := (F.out w1 hw1).2.1; have f3 := (F.out w1 hw1).2.2.1; go_simp; exact ⟨rfl, Up.refl _⟩); (simp only [Act.put, List.setIfInBounds_toArray, List.set_cons_succ, List.set_cons_zero]))
  (refine wpP_take rfl rfl ?_; apply Exists.intro; refine ⟨fun w1 hw1 => ?_, ?_⟩; (have f1 := (F.out w1 hw1).1; have f2 := (F.out w1 hw1).2.1; have f3 := (F.out w1 hw1).2.2.1; go_simp; exact ⟨rfl, Up.refl _⟩); (simp only [Act.put, List.setIfInBounds_toArray, List.set_cons_succ, List.set_cons_zero]))
  (refine wpP_take rfl rfl ?_; apply Exists.intro; refine ⟨fun w1 hw1 => ?_, ?_⟩; (have f1 := (F.out w1 hw1).1; have f2 := (F.out w1 hw1).2.1; have f3 := (F.out w1 hw1).2.2.1; go_simp; exact ⟨rfl, Up.refl _⟩); (simp only [Act.put, List.setIfInBounds_toArray, List.set_cons_succ, List.set_cons_zero]))
  (refine wpP_take rfl rfl ?_; apply Exists.intro; refine ⟨fun w1 hw1 => ?_, ?_⟩; (have f1 := (F.out w1 hw1).1; have f2 := (F.out w1 hw1).2.1; have f3 := (F.out w1 hw1).2.2.1; go_simp; exact ⟨rfl, Up.refl _⟩); (simp only [Act.put, List.setIfInBounds_toArray, List.set_cons_succ, List.set_cons_zero]))
  (refine wpP_take rfl rfl ?_; apply Exists.intro; refine ⟨fun w1 hw1 => ?_, ?_⟩; (have f1 := (F.out w1 hw1).1; have f2 := (F.out w1 hw1).2.1; have f3 := (F.out w1 hw1).2.2.1; go_simp; exact ⟨rfl, Up.refl _⟩); (simp only [Act.put, List.setIfInBounds_toArray, List.set_cons_succ, List.set_cons_zero]))
  (refine wpP_take rfl rfl ?_; apply Exists.intro; refine ⟨fun w1 hw1 => ?_, ?_⟩; (have f1 := (F.out w1 hw1).1; have f2 := (F.out w1 hw1).2.1; have f3 := (F.out w1 hw1).2.2.1; go_simp; exact ⟨rfl, Up.refl _⟩); (simp only [Act.put, List.setIfInBounds_toArray, List.set_cons_succ, List.set_cons_zero]))
  (refine wpP_take rfl rfl ?_; apply Exists.intro; refine ⟨fun w1 hw1 => ?_, ?_⟩; (have f1 := (F.out w1 hw1).1; have f2 := (F.out w1 hw1).2.1; have f3 := (F.out w1 hw1).2.2.1; go_simp; exact ⟨rfl, Up.refl _⟩); (simp only [Act.put, List.setIfInBounds_toArray, List.set_cons_succ, List.set_cons_zero]))
  (refine wpP_take rfl rfl ?_; apply Exists.intro; refine ⟨fun w1 hw1 => ?_, ?_⟩; (have f1 := (F.out w1 hw1).1; have f2 := (F.out w1 hw1).2.1; have f3 := (F.out w1 hw1).2.2.1; go_simp; exact ⟨rfl, Up.refl _⟩); (simp only [Act.put, List.setIfInBounds_toArray, List.set_cons_succ, List.set_cons_zero]))
  (refine wpP_take rfl rfl ?_; apply Exists.intro; refine ⟨fun w1 hw1 => ?_, ?_⟩; (have f1 := (F.out w1 hw1).1; have f2 := (F.out w1 hw1).2.1; have f3 := (F.out w1 hw1).2.2.1; go_simp; exact ⟨rfl, Up.refl _⟩); (simp only [Act.put, List.setIfInBounds_toArray, List.set_cons_succ, List.set_cons_zero]))
  (refine wpP_take rfl rfl ?_; apply Exists.intro; refine ⟨fun w1 hw1 => ?_, ?_⟩; (have f1 := (F.out w1 hw1).1; have f2 := (F.out w1 hw1).2.1; have f3 := (F.out w1 hw1).2.2.1; go_simp; go_at_call 34; (with_reducible refine (ctf_sent _ _ _ ts _ (F.out w1 hw1).2.2.2).mono ?_); rintro e w' ⟨rfl, hb⟩; exact ⟨_, rfl, rfl, hb⟩); (simp only [Act.put, List.setIfInBounds_toArray, List.set_cons_succ, List.set_cons_zero]))
  (refine wpP_take rfl rfl ?_; apply Exists.intro; refine ⟨fun w1 hw1 => ?_, ?_⟩; (have f1 := (F.out w1 hw1).1; have f2 := (F.out w1 hw1).2.1; have f3 := (F.out w1 hw1).2.2.1; go_simp; exact ⟨rfl, Up.refl _⟩); (simp only [Act.put, List.setIfInBounds_toArray, List.set_cons_succ, List.set_cons_zero]))
  (refine wpP_take rfl rfl ?_; apply Exists.intro; refine ⟨fun w1 hw1 => ?_, ?_⟩; (have f1 := (F.out w1 hw1).1; have f2 := (F.out w1 hw1).2.1; have f3 := (F.out w1 hw1).2.2.1; go_simp; exact ⟨rfl, Up.refl _⟩); (simp only [Act.put, List.setIfInBounds_toArray, List.set_cons_succ, List.set_cons_zero]))
  (refine wpP_take rfl rfl ?_; apply Exists.intro; refine ⟨fun w1 hw1 => ?_, ?_⟩; (have f1 := (F.out w1 hw1).1; have f2 := (F.out w1 hw1).2.1; have f3 := (F.out w1 hw1).2.2.1; go_simp; exact ⟨rfl, Up.refl _⟩); (simp only [Act.put, List.setIfInBounds_toArray, List.set_cons_succ, List.set_cons_zero]))
  (refine wpP_take rfl rfl ?_; apply Exists.intro; refine ⟨fun w1 hw1 => ?_, ?_⟩; (have f1 := (F.out w1 hw1).1; have f2 := (F.out w1 hw1).2.1; have f3 := (F.out w1 hw1).2.2.1; go_simp; exact ⟨rfl, Up.refl _⟩); (simp only [Act.put, List.setIfInBounds_toArray, List.set_cons_succ, List.set_cons_zero]))
  (refine wpP_take rfl rfl ?_; apply Exists.intro; refine ⟨fun w1 hw1 => ?_, ?_⟩; (have f1 := (F.out w1 hw1).1; have f2 := (F.out w1 hw1).2.1; have f3 := (F.out w1 hw1).2.2.1; go_simp; exact ⟨rfl, Up.refl _⟩); (simp only [Act.put, List.setIfInBounds_toArray, List.set_cons_succ, List.set_cons_zero]))
  (refine wpP_take rfl rfl ?_; apply Exists.intro; refine ⟨fun w1 hw1 => ?_, ?_⟩; (have f1 := (F.out w1 hw1).1; have f2 := (F.out w1 hw1).2.1; have f3 := (F.out w1 hw1).2.2.1; go_simp; exact ⟨rfl, Up.refl _⟩); (simp only [Act.put, List.setIfInBounds_toArray, List.set_cons_succ, List.set_cons_zero]))
  (refine wpP_take rfl rfl ?_; apply Exists.intro; refine ⟨fun w1 hw1 => ?_, ?_⟩; (have f1 := (F.out w1 hw1).1; have f2 := (F.out w1 hw1).2.1; have f3 := (F.out w1 hw1).2.2.1; go_simp; exact ⟨rfl, Up.refl _⟩); (simp only [Act.put, List.setIfInBounds_toArray, List.set_cons_succ, List.set_cons_zero]))
  (refine wpP_take rfl rfl ?_; apply Exists.intro; refine ⟨fun w1 hw1 => ?_, ?_⟩; (have f1 := (F.out w1 hw1).1; have f2 := (F.out w1 hw1).2.1; have f3 := (F.out w1 hw1).2.2.1; go_simp; exact ⟨rfl, Up.refl _⟩); (simp only [Act.put, List.setIfInBounds_toArray, List.set_cons_succ, List.set_cons_zero]))
  (refine wpP_take rfl rfl ?_; apply Exists.intro; refine ⟨fun w1 hw1 => ?_, ?_⟩; (have f1 := (F.out w1 hw1).1; have f2 := (F.out w1 hw1).2.1; have f3 := (F.out w1 hw1).2.2.1; go_simp; exact ⟨rfl, Up.refl _⟩); (simp only [Act.put, List.setIfInBounds_toArray, List.set_cons_succ, List.set_cons_zero]))
  (refine wpP_take rfl rfl ?_; apply Exists.intro; refine ⟨fun w1 hw1 => ?_, ?_⟩; (have f1 := (F.out w1 hw1).1; have f2 := (F.out w1 hw1).2.1; have f3 := (F.out w1 hw1).2.2.1; go_simp; exact ⟨rfl, Up.refl _⟩); (simp only [Act.put, List.setIfInBounds_toArray, List.set_cons_succ, List.set_cons_zero]))
  (refine wpP_take rfl rfl ?_; apply Exists.intro; refine ⟨fun w1 hw1 => ?_, ?_⟩; (have f1 := (F.out w1 hw1).1; have f2 := (F.out w1 hw1).2.1; have f3 := (F.out w1 hw1).2.2.1; go_simp; exact ⟨rfl, Up.refl _⟩); (simp only [Act.put, List.setIfInBounds_toArray, List.set_cons_succ, List.set_cons_zero]))
  (refine wpP_take rfl rfl ?_; apply Exists.intro; refine ⟨fun w1 hw1 => ?_, ?_⟩; (have f1 := (F.out w1 hw1).1; have f2 := (F.out w1 hw1).2.1; have f3 := (F.out w1 hw1).2.2.1; go_simp; exact ⟨rfl, Up.refl _⟩); (simp only [Act.put, List.setIfInBounds_toArray, List.set_cons_succ, List.set_cons_zero]))
  refine wpP_only rfl rfl (fun w1 hw1 => ?_)
  go_simp
  refine ⟨Up.alloc _ _, ?_⟩
  have hR := RAt.new w1 (lastE ts == 0) (ts.any good) (decide (most ≤ ↑n)) (ts.any sent) (!budget) ((mn : Int) == 0)
  have hgw : w1.heap.size < (w1.alloc (Obj.cells #[Value.bool (lastE ts == 0), Value.int IntKind.i64 1, Value.bool (ts.any good), Value.int IntKind.i64 2, Value.bool (decide (most ≤ ↑n)), Value.int IntKind.i64 3, Value.bool (ts.any sent), Value.int IntKind.i64 4, Value.bool (!budget), Value.int IntKind.i64 5, Value.bool ((mn : Int) == 0), Value.int IntKind.i64 6] 53)).heap.size := by simp
  have HRS := Lib.hid (show reasons false budget most mn n ts = [(lastE ts == 0), ts.any good, decide (most ≤ ↑n), (ts.any sent), (!budget), (mn : Int) == 0] by simp [reasons, hd])
  have hB2 : Up w (w1.alloc (Obj.cells #[Value.bool (lastE ts == 0), Value.int IntKind.i64 1, Value.bool (ts.any good), Value.int IntKind.i64 2, Value.bool (decide (most ≤ ↑n)), Value.int IntKind.i64 3, Value.bool (ts.any sent), Value.int IntKind.i64 4, Value.bool (!budget), Value.int IntKind.i64 5, Value.bool ((mn : Int) == 0), Value.int IntKind.i64 6] 53)) := (hUW.trans (Up.of_drew hw1)).trans (Up.alloc _ _)
  clear hUW hw1
  revert hB2 hR hgw
  generalize w1.alloc (Obj.cells #[Value.bool (lastE ts == 0), Value.int IntKind.i64 1, Value.bool (ts.any good), Value.int IntKind.i64 2, Value.bool (decide (most ≤ ↑n)), Value.int IntKind.i64 3, Value.bool (ts.any sent), Value.int IntKind.i64 4, Value.bool (!budget), Value.int IntKind.i64 5, Value.bool ((mn : Int) == 0), Value.int IntKind.i64 6] 53) = W1
  intro hR hgw hB1
  refine wpP_take rfl rfl ?_; apply Exists.intro; refine ⟨fun w1 hw1 => ?_, ?_⟩
  (go_simp; exact ⟨rfl, Up.refl _⟩)
  (simp only [Act.put, List.setIfInBounds_toArray, List.set_cons_succ, List.set_cons_zero])
  refine wpP_done (fun W2 hW2 => NoPanic.normal ?_)
  have hB2 := hB1.trans hW2
  replace hR := hR.below hgw hW2
  replace hgw := Nat.lt_of_lt_of_le hgw hW2.size
  clear hB1 hW2 hd
  have HB := Lib.hid hB2
  have hws := hB2.size
  clear hB2
  obtain ⟨rs, hrs⟩ : ∃ rs, rs = reasons false budget most mn n ts := ⟨_, rfl⟩
  rw [← HRS.out, ← hrs] at hR
  have HL := Lib.hid (show rs.length = 6 by rw [hrs]; rfl)
  have HR2 := Lib.hid hrs
  clear hrs
  go_wp2_with fail
  go_loopw [55] (fun i wr => ∃ k : Nat, k ≤ 6 ∧ i = .int .i64 k ∧ Below W2.heap.size W2 wr ∧ ∀ j, j < k → rs[j]? = some false) (fun i _ => 6 - (intOf i).toNat)
  case atStart => exact ⟨0, by omega, rfl, Below.refl _ _, fun _ h => by omega⟩
  case round =>
    obtain ⟨k, hk, rfl, hb, hno⟩ := hrel
    have HNO := Lib.hid hno
    clear hno
    have hbs := hb.size
    by_cases hlt : k < 6
    · obtain ⟨b, hbk⟩ : ∃ b, rs[k]? = some b := ⟨_, List.getElem?_eq_getElem (by rw [HL.out]; exact hlt)⟩
      obtain ⟨c1, c2⟩ := (hR.below hgw hb) k b hbk
      have HBK := Lib.hid hbk
      have HB2 := Lib.hid hb
      clear hbk hR hb
      go_wp2_with fail
      · rename_i hbt
        go_ret
        refine ⟨ret_int (by rw [← HR2.out]; exact (firstOf_hit0 (by rw [HBK.out, hbt]) HNO.out).symm), HB.out.trans ?_⟩
        exact ((HB2.out.mono (by omega)).alloc (by omega) _)
      · rename_i hbt
        go_roundw
        case rel =>
          refine ⟨k + 1, by omega, by go_num, (HB2.out.alloc (by omega) _), fun j hj => ?_⟩
          rcases Nat.lt_or_ge j k with h | h
          · exact HNO.out j h
          · obtain rfl : j = k := by omega
            rw [HBK.out]; simpa using hbt
        case measure => simp [intOf]; omega
    · go_wp2_with fail
      go_ret
      exact ⟨ret_int (by rw [← HR2.out]; exact (firstOf_miss _ _ (fun i hi => HNO.out i (by rw [HL.out] at hi; omega))).symm), HB.out.trans hb⟩
theorem stop_tp (n : Nat) (h0 : 0 < n) (budget : Bool) (most : Int) (A M : Option Addr) (c mn mc : Nat) (ts : List T) (w : World) (hts : TAt w w.heap.size A n ts) :
    Calls Try.prog 10 #[.agg #[.bool true, .int .i64 most, .slice A n c], .slice M mn mc, .bool budget] w fun e w' => e = .returned (.int .i64 (firstOf 0 (reasons true budget most mn n ts))) ∧ Up w w' := by
  have HT := Lib.hid hts
  have hn := hts.small
  clear hts
  have hd : decide (0 < n) = true := by simp; omega
  have HN := Lib.hid h0
  clear h0
  go_enter Try.func10, Try.ntmps10
  go_wp2_with fail
  obtain ⟨W, hW⟩ : ∃ W, W = w.alloc (Obj.cells #[Value.bool true, Value.int IntKind.i64 most, Value.slice A n c] 24) := ⟨_, rfl⟩
  have hUW : Up w W := by subst hW; exact Up.alloc _ _
  have F0 : W.cell? ⟨w.heap.size, 0, none⟩ = some (.bool true) ∧ W.cell? ⟨w.heap.size, 1, none⟩ = some (.int .i64 most) ∧ W.cell? ⟨w.heap.size, 2, none⟩ = some (.slice A n c) := by subst hW; simp
  have FT : TAt W W.heap.size A n ts := HT.out.below hUW hUW.size
  rw [← hW]
  clear hW
  have F : Hid (∀ (w1 : World), Up W.drew w1 → w1.cell? ⟨w.heap.size, 0, none⟩ = some (.bool true) ∧ w1.cell? ⟨w.heap.size, 1, none⟩ = some (.int .i64 most) ∧ w1.cell? ⟨w.heap.size, 2, none⟩ = some (.slice A n c) ∧ TAt w1 w1.heap.size A n ts) :=
    fun w1 h => ⟨Up.cell h F0.1, Up.cell h F0.2.1, Up.cell h F0.2.2, FT.below (Up.of_drew h) h.size⟩
  clear F0 FT
  refine wp_region_noPanic (wp_region_plan ((0,true)::(1,true)::(2,true)::(3,true)::(4,true)::(5,true)::(6,true)::(7,true)::(8,true)::(9,true)::(10,true)::(11,true)::(12,true)::(13,true)::(14,true)::(15,true)::(16,true)::(17,true)::(18,true)::(19,true)::(20,true)::(21,true)::(22,true)::(23,true)::(24,true)::(25,true)::(26,true)::(27,true)::(28,true)::(29,true)::(30,true)::(31,true)::(32,true)::(33,true)::(34,true)::(35,true)::(36,true)::(37,false)::(38,true)::[]) Up Up.refl (fun _ _ _ => Up.trans) (by kernel_rfl) (by kernel_rfl) (fun _ _ _ _ _ h => h) ?_)
  (refine wpP_take rfl rfl ?_; apply Exists.intro; refine ⟨fun w1 hw1 => ?_, ?_⟩; (have f1 := (F.out w1 hw1).1; have f2 := (F.out w1 hw1).2.1; have f3 := (F.out w1 hw1).2.2.1; go_simp; exact ⟨rfl, Up.refl _⟩); (simp only [Act.put, List.setIfInBounds_toArray, List.set_cons_succ, List.set_cons_zero]))
  (refine wpP_take rfl rfl ?_; apply Exists.intro; refine ⟨fun w1 hw1 => ?_, ?_⟩; (have f1 := (F.out w1 hw1).1; have f2 := (F.out w1 hw1).2.1; have f3 := (F.out w1 hw1).2.2.1; go_simp; exact ⟨rfl, Up.refl _⟩); (simp only [Act.put, List.setIfInBounds_toArray, List.set_cons_succ, List.set_cons_zero]))
  (refine wpP_take rfl rfl ?_; apply Exists.intro; refine ⟨fun w1 hw1 => ?_, ?_⟩; (have f1 := (F.out w1 hw1).1; have f2 := (F.out w1 hw1).2.1; have f3 := (F.out w1 hw1).2.2.1; go_simp; exact ⟨rfl, Up.refl _⟩); (simp only [Act.put, List.setIfInBounds_toArray, List.set_cons_succ, List.set_cons_zero]))
  (refine wpP_take rfl rfl ?_; apply Exists.intro; refine ⟨fun w1 hw1 => ?_, ?_⟩; (have f1 := (F.out w1 hw1).1; have f2 := (F.out w1 hw1).2.1; have f3 := (F.out w1 hw1).2.2.1; go_simp; go_at_call 11; (with_reducible refine (last_any _ _ _ _ _ ts _ (F.out w1 hw1).2.2.2).mono ?_); rintro e w' ⟨rfl, hb⟩; exact ⟨_, rfl, rfl, hb⟩); (simp only [Act.put, List.setIfInBounds_toArray, List.set_cons_succ, List.set_cons_zero]))
  (refine wpP_take rfl rfl ?_; apply Exists.intro; refine ⟨fun w1 hw1 => ?_, ?_⟩; (have f1 := (F.out w1 hw1).1; have f2 := (F.out w1 hw1).2.1; have f3 := (F.out w1 hw1).2.2.1; go_simp; exact ⟨rfl, Up.refl _⟩); (simp only [Act.put, List.setIfInBounds_toArray, List.set_cons_succ, List.set_cons_zero]))
  (refine wpP_take rfl rfl ?_; apply Exists.intro; refine ⟨fun w1 hw1 => ?_, ?_⟩; (have f1 := (F.out w1 hw1).1; have f2 := (F.out w1 hw1).2.1; have f3 := (F.out w1 hw1).2.2.1; go_simp; exact ⟨rfl, Up.refl _⟩); (simp only [Act.put, List.setIfInBounds_toArray, List.set_cons_succ, List.set_cons_zero]))
  (refine wpP_take rfl rfl ?_; apply Exists.intro; refine ⟨fun w1 hw1 => ?_, ?_⟩; (have f1 := (F.out w1 hw1).1; have f2 := (F.out w1 hw1).2.1; have f3 := (F.out w1 hw1).2.2.1; go_simp; exact ⟨rfl, Up.refl _⟩); (simp only [Act.put, List.setIfInBounds_toArray, List.set_cons_succ, List.set_cons_zero]))
  (refine wpP_take rfl rfl ?_; apply Exists.intro; refine ⟨fun w1 hw1 => ?_, ?_⟩; (have f1 := (F.out w1 hw1).1; have f2 := (F.out w1 hw1).2.1; have f3 := (F.out w1 hw1).2.2.1; go_simp; exact ⟨rfl, Up.refl _⟩); (simp only [Act.put, List.setIfInBounds_toArray, List.set_cons_succ, List.set_cons_zero]))
  (refine wpP_take rfl rfl ?_; apply Exists.intro; refine ⟨fun w1 hw1 => ?_, ?_⟩; (have f1 := (F.out w1 hw1).1; have f2 := (F.out w1 hw1).2.1; have f3 := (F.out w1 hw1).2.2.1; go_simp; exact ⟨rfl, Up.refl _⟩); (simp only [Act.put, List.setIfInBounds_toArray, List.set_cons_succ, List.set_cons_zero]))
  (refine wpP_take rfl rfl ?_; apply Exists.intro; refine ⟨fun w1 hw1 => ?_, ?_⟩; (have f1 := (F.out w1 hw1).1; have f2 := (F.out w1 hw1).2.1; have f3 := (F.out w1 hw1).2.2.1; go_simp; go_at_call 34; (with_reducible refine (ctf_good _ _ _ ts _ (F.out w1 hw1).2.2.2).mono ?_); rintro e w' ⟨rfl, hb⟩; exact ⟨_, rfl, rfl, hb⟩); (simp only [Act.put, List.setIfInBounds_toArray, List.set_cons_succ, List.set_cons_zero]))
  (refine wpP_take rfl rfl ?_; apply Exists.intro; refine ⟨fun w1 hw1 => ?_, ?_⟩; (have f1 := (F.out w1 hw1).1; have f2 := (F.out w1 hw1).2.1; have f3 := (F.out w1 hw1).2.2.1; go_simp; exact ⟨rfl, Up.refl _⟩); (simp only [Act.put, List.setIfInBounds_toArray, List.set_cons_succ, List.set_cons_zero]))
  (refine wpP_take rfl rfl ?_; apply Exists.intro; refine ⟨fun w1 hw1 => ?_, ?_⟩; (have f1 := (F.out w1 hw1).1; have f2 := (F.out w1 hw1).2.1; have f3 := (F.out w1 hw1).2.2.1; go_simp; exact ⟨rfl, Up.refl _⟩); (simp only [Act.put, List.setIfInBounds_toArray, List.set_cons_succ, List.set_cons_zero]))
  (refine wpP_take rfl rfl ?_; apply Exists.intro; refine ⟨fun w1 hw1 => ?_, ?_⟩; (have f1 := (F.out w1 hw1).1; have f2 := (F.out w1 hw1).2.1; have f3 := (F.out w1 hw1).2.2.1; go_simp; exact ⟨rfl, Up.refl _⟩); (simp only [Act.put, List.setIfInBounds_toArray, List.set_cons_succ, List.set_cons_zero]))
  (refine wpP_take rfl rfl ?_; apply Exists.intro; refine ⟨fun w1 hw1 => ?_, ?_⟩; (have f1 := (F.out w1 hw1).1; have f2 := (F.out w1 hw1).2.1; have f3 := (F.out w1 hw1).2.2.1; go_simp; exact ⟨rfl, Up.refl _⟩); (simp only [Act.put, List.setIfInBounds_toArray, List.set_cons_succ, List.set_cons_zero]))
  (refine wpP_take rfl rfl ?_; apply Exists.intro; refine ⟨fun w1 hw1 => ?_, ?_⟩; (have f1 := (F.out w1 hw1).1; have f2 := (F.out w1 hw1).2.1; have f3 := (F.out w1 hw1).2.2.1; go_simp; exact ⟨rfl, Up.refl _⟩); (simp only [Act.put, List.setIfInBounds_toArray, List.set_cons_succ, List.set_cons_zero]))
  (refine wpP_take rfl rfl ?_; apply Exists.intro; refine ⟨fun w1 hw1 => ?_, ?_⟩; (have f1 := (F.out w1 hw1).1; have f2 := (F.out w1 hw1).2.1; have f3 := (F.out w1 hw1).2.2.1; go_simp; exact ⟨rfl, Up.refl _⟩); (simp only [Act.put, List.setIfInBounds_toArray, List.set_cons_succ, List.set_cons_zero]))
  (refine wpP_take rfl rfl ?_; apply Exists.intro; refine ⟨fun w1 hw1 => ?_, ?_⟩; (have f1 := (F.out w1 hw1).1; have f2 := (F.out w1 hw1).2.1; have f3 := (F.out w1 hw1).2.2.1; go_simp; exact ⟨rfl, Up.refl _⟩); (simp only [Act.put, List.setIfInBounds_toArray, List.set_cons_succ, List.set_cons_zero]))
  (refine wpP_take rfl rfl ?_; apply Exists.intro; refine ⟨fun w1 hw1 => ?_, ?_⟩; (have f1 := (F.out w1 hw1).1; have f2 := (F.out w1 hw1).2.1; have f3 := (F.out w1 hw1).2.2.1; go_simp; exact ⟨rfl, Up.refl _⟩); (simp only [Act.put, List.setIfInBounds_toArray, List.set_cons_succ, List.set_cons_zero]))
  (refine wpP_take rfl rfl ?_; apply Exists.intro; refine ⟨fun w1 hw1 => ?_, ?_⟩; (have f1 := (F.out w1 hw1).1; have f2 := (F.out w1 hw1).2.1; have f3 := (F.out w1 hw1).2.2.1; go_simp; exact ⟨rfl, Up.refl _⟩); (simp only [Act.put, List.setIfInBounds_toArray, List.set_cons_succ, List.set_cons_zero]))
  (refine wpP_take rfl rfl ?_; apply Exists.intro; refine ⟨fun w1 hw1 => ?_, ?_⟩; (have f1 := (F.out w1 hw1).1; have f2 := (F.out w1 hw1).2.1; have f3 := (F.out w1 hw1).2.2.1; go_simp; exact ⟨rfl, Up.refl _⟩); (simp only [Act.put, List.setIfInBounds_toArray, List.set_cons_succ, List.set_cons_zero]))
  (refine wpP_take rfl rfl ?_; apply Exists.intro; refine ⟨fun w1 hw1 => ?_, ?_⟩; (have f1 := (F.out w1 hw1).1; have f2 := (F.out w1 hw1).2.1; have f3 := (F.out w1 hw1).2.2.1; go_simp; exact ⟨rfl, Up.refl _⟩); (simp only [Act.put, List.setIfInBounds_toArray, List.set_cons_succ, List.set_cons_zero]))
  (refine wpP_take rfl rfl ?_; apply Exists.intro; refine ⟨fun w1 hw1 => ?_, ?_⟩; (have f1 := (F.out w1 hw1).1; have f2 := (F.out w1 hw1).2.1; have f3 := (F.out w1 hw1).2.2.1; go_simp; exact ⟨rfl, Up.refl _⟩); (simp only [Act.put, List.setIfInBounds_toArray, List.set_cons_succ, List.set_cons_zero]))
  (refine wpP_pass rfl rfl ?_; (simp only [Act.put, List.setIfInBounds_toArray, List.set_cons_succ, List.set_cons_zero]))
  (refine wpP_pass rfl rfl ?_; (simp only [Act.put, List.setIfInBounds_toArray, List.set_cons_succ, List.set_cons_zero]))
  (refine wpP_pass rfl rfl ?_; (simp only [Act.put, List.setIfInBounds_toArray, List.set_cons_succ, List.set_cons_zero]))
  (refine wpP_take rfl rfl ?_; apply Exists.intro; refine ⟨fun w1 hw1 => ?_, ?_⟩; (have f1 := (F.out w1 hw1).1; have f2 := (F.out w1 hw1).2.1; have f3 := (F.out w1 hw1).2.2.1; go_simp; exact ⟨rfl, Up.refl _⟩); (simp only [Act.put, List.setIfInBounds_toArray, List.set_cons_succ, List.set_cons_zero]))
  (refine wpP_take rfl rfl ?_; apply Exists.intro; refine ⟨fun w1 hw1 => ?_, ?_⟩; (have f1 := (F.out w1 hw1).1; have f2 := (F.out w1 hw1).2.1; have f3 := (F.out w1 hw1).2.2.1; go_simp; exact ⟨rfl, Up.refl _⟩); (simp only [Act.put, List.setIfInBounds_toArray, List.set_cons_succ, List.set_cons_zero]))
  (refine wpP_take rfl rfl ?_; apply Exists.intro; refine ⟨fun w1 hw1 => ?_, ?_⟩; (have f1 := (F.out w1 hw1).1; have f2 := (F.out w1 hw1).2.1; have f3 := (F.out w1 hw1).2.2.1; go_simp; exact ⟨rfl, Up.refl _⟩); (simp only [Act.put, List.setIfInBounds_toArray, List.set_cons_succ, List.set_cons_zero]))
  (refine wpP_take rfl rfl ?_; apply Exists.intro; refine ⟨fun w1 hw1 => ?_, ?_⟩; (have f1 := (F.out w1 hw1).1; have f2 := (F.out w1 hw1).2.1; have f3 := (F.out w1 hw1).2.2.1; go_simp; exact ⟨rfl, Up.refl _⟩); (simp only [Act.put, List.setIfInBounds_toArray, List.set_cons_succ, List.set_cons_zero]))
  (refine wpP_take rfl rfl ?_; apply Exists.intro; refine ⟨fun w1 hw1 => ?_, ?_⟩; (have f1 := (F.out w1 hw1).1; have f2 := (F.out w1 hw1).2.1; have f3 := (F.out w1 hw1).2.2.1; go_simp; exact ⟨rfl, Up.refl _⟩); (simp only [Act.put, List.setIfInBounds_toArray, List.set_cons_succ, List.set_cons_zero]))
  (refine wpP_take rfl rfl ?_; apply Exists.intro; refine ⟨fun w1 hw1 => ?_, ?_⟩; (have f1 := (F.out w1 hw1).1; have f2 := (F.out w1 hw1).2.1; have f3 := (F.out w1 hw1).2.2.1; go_simp; exact ⟨rfl, Up.refl _⟩); (simp only [Act.put, List.setIfInBounds_toArray, List.set_cons_succ, List.set_cons_zero]))
  (refine wpP_take rfl rfl ?_; apply Exists.intro; refine ⟨fun w1 hw1 => ?_, ?_⟩; (have f1 := (F.out w1 hw1).1; have f2 := (F.out w1 hw1).2.1; have f3 := (F.out w1 hw1).2.2.1; go_simp; exact ⟨rfl, Up.refl _⟩); (simp only [Act.put, List.setIfInBounds_toArray, List.set_cons_succ, List.set_cons_zero]))
  (refine wpP_take rfl rfl ?_; apply Exists.intro; refine ⟨fun w1 hw1 => ?_, ?_⟩; (have f1 := (F.out w1 hw1).1; have f2 := (F.out w1 hw1).2.1; have f3 := (F.out w1 hw1).2.2.1; go_simp; exact ⟨rfl, Up.refl _⟩); (simp only [Act.put, List.setIfInBounds_toArray, List.set_cons_succ, List.set_cons_zero]))
  (refine wpP_take rfl rfl ?_; apply Exists.intro; refine ⟨fun w1 hw1 => ?_, ?_⟩; (have f1 := (F.out w1 hw1).1; have f2 := (F.out w1 hw1).2.1; have f3 := (F.out w1 hw1).2.2.1; go_simp; exact ⟨rfl, Up.refl _⟩); (simp only [Act.put, List.setIfInBounds_toArray, List.set_cons_succ, List.set_cons_zero]))
  (refine wpP_take rfl rfl ?_; apply Exists.intro; refine ⟨fun w1 hw1 => ?_, ?_⟩; (have f1 := (F.out w1 hw1).1; have f2 := (F.out w1 hw1).2.1; have f3 := (F.out w1 hw1).2.2.1; go_simp; exact ⟨rfl, Up.refl _⟩); (simp only [Act.put, List.setIfInBounds_toArray, List.set_cons_succ, List.set_cons_zero]))
  (refine wpP_take rfl rfl ?_; apply Exists.intro; refine ⟨fun w1 hw1 => ?_, ?_⟩; (have f1 := (F.out w1 hw1).1; have f2 := (F.out w1 hw1).2.1; have f3 := (F.out w1 hw1).2.2.1; go_simp; exact ⟨rfl, Up.refl _⟩); (simp only [Act.put, List.setIfInBounds_toArray, List.set_cons_succ, List.set_cons_zero]))
  (refine wpP_take rfl rfl ?_; apply Exists.intro; refine ⟨fun w1 hw1 => ?_, ?_⟩; (have f1 := (F.out w1 hw1).1; have f2 := (F.out w1 hw1).2.1; have f3 := (F.out w1 hw1).2.2.1; go_simp; exact ⟨rfl, Up.refl _⟩); (simp only [Act.put, List.setIfInBounds_toArray, List.set_cons_succ, List.set_cons_zero]))
  refine wpP_only rfl rfl (fun w1 hw1 => ?_)
  go_simp
  refine ⟨Up.alloc _ _, ?_⟩
  have hR := RAt.new w1 (lastE ts == 0) (ts.any good) (decide (most ≤ ↑n)) false (!budget) ((mn : Int) == 0)
  have hgw : w1.heap.size < (w1.alloc (Obj.cells #[Value.bool (lastE ts == 0), Value.int IntKind.i64 1, Value.bool (ts.any good), Value.int IntKind.i64 2, Value.bool (decide (most ≤ ↑n)), Value.int IntKind.i64 3, Value.bool false, Value.int IntKind.i64 4, Value.bool (!budget), Value.int IntKind.i64 5, Value.bool ((mn : Int) == 0), Value.int IntKind.i64 6] 53)).heap.size := by simp
  have HRS := Lib.hid (show reasons true budget most mn n ts = [(lastE ts == 0), ts.any good, decide (most ≤ ↑n), false, (!budget), (mn : Int) == 0] by simp [reasons, hd])
  have hB2 : Up w (w1.alloc (Obj.cells #[Value.bool (lastE ts == 0), Value.int IntKind.i64 1, Value.bool (ts.any good), Value.int IntKind.i64 2, Value.bool (decide (most ≤ ↑n)), Value.int IntKind.i64 3, Value.bool false, Value.int IntKind.i64 4, Value.bool (!budget), Value.int IntKind.i64 5, Value.bool ((mn : Int) == 0), Value.int IntKind.i64 6] 53)) := (hUW.trans (Up.of_drew hw1)).trans (Up.alloc _ _)
  clear hUW hw1
  revert hB2 hR hgw
  generalize w1.alloc (Obj.cells #[Value.bool (lastE ts == 0), Value.int IntKind.i64 1, Value.bool (ts.any good), Value.int IntKind.i64 2, Value.bool (decide (most ≤ ↑n)), Value.int IntKind.i64 3, Value.bool false, Value.int IntKind.i64 4, Value.bool (!budget), Value.int IntKind.i64 5, Value.bool ((mn : Int) == 0), Value.int IntKind.i64 6] 53) = W1
  intro hR hgw hB1
  refine wpP_take rfl rfl ?_; apply Exists.intro; refine ⟨fun w1 hw1 => ?_, ?_⟩
  (go_simp; exact ⟨rfl, Up.refl _⟩)
  (simp only [Act.put, List.setIfInBounds_toArray, List.set_cons_succ, List.set_cons_zero])
  refine wpP_done (fun W2 hW2 => NoPanic.normal ?_)
  have hB2 := hB1.trans hW2
  replace hR := hR.below hgw hW2
  replace hgw := Nat.lt_of_lt_of_le hgw hW2.size
  clear hB1 hW2 hd
  have HB := Lib.hid hB2
  have hws := hB2.size
  clear hB2
  obtain ⟨rs, hrs⟩ : ∃ rs, rs = reasons true budget most mn n ts := ⟨_, rfl⟩
  rw [← HRS.out, ← hrs] at hR
  have HL := Lib.hid (show rs.length = 6 by rw [hrs]; rfl)
  have HR2 := Lib.hid hrs
  clear hrs
  go_wp2_with fail
  go_loopw [55] (fun i wr => ∃ k : Nat, k ≤ 6 ∧ i = .int .i64 k ∧ Below W2.heap.size W2 wr ∧ ∀ j, j < k → rs[j]? = some false) (fun i _ => 6 - (intOf i).toNat)
  case atStart => exact ⟨0, by omega, rfl, Below.refl _ _, fun _ h => by omega⟩
  case round =>
    obtain ⟨k, hk, rfl, hb, hno⟩ := hrel
    have HNO := Lib.hid hno
    clear hno
    have hbs := hb.size
    by_cases hlt : k < 6
    · obtain ⟨b, hbk⟩ : ∃ b, rs[k]? = some b := ⟨_, List.getElem?_eq_getElem (by rw [HL.out]; exact hlt)⟩
      obtain ⟨c1, c2⟩ := (hR.below hgw hb) k b hbk
      have HBK := Lib.hid hbk
      have HB2 := Lib.hid hb
      clear hbk hR hb
      go_wp2_with fail
      · rename_i hbt
        go_ret
        refine ⟨ret_int (by rw [← HR2.out]; exact (firstOf_hit0 (by rw [HBK.out, hbt]) HNO.out).symm), HB.out.trans ?_⟩
        exact ((HB2.out.mono (by omega)).alloc (by omega) _)
      · rename_i hbt
        go_roundw
        case rel =>
          refine ⟨k + 1, by omega, by go_num, (HB2.out.alloc (by omega) _), fun j hj => ?_⟩
          rcases Nat.lt_or_ge j k with h | h
          · exact HNO.out j h
          · obtain rfl : j = k := by omega
            rw [HBK.out]; simpa using hbt
        case measure => simp [intOf]; omega
    · go_wp2_with fail
      go_ret
      exact ⟨ret_int (by rw [← HR2.out]; exact (firstOf_miss _ _ (fun i hi => HNO.out i (by rw [HL.out] at hi; omega))).symm), HB.out.trans hb⟩
theorem stop_fz (n : Nat) (h0 : n = 0) (budget : Bool) (most : Int) (A M : Option Addr) (c mn mc : Nat) (ts : List T) (w : World) (hts : TAt w w.heap.size A n ts) :
    Calls Try.prog 10 #[.agg #[.bool false, .int .i64 most, .slice A n c], .slice M mn mc, .bool budget] w fun e w' => e = .returned (.int .i64 (firstOf 0 (reasons false budget most mn n ts))) ∧ Up w w' := by
  have HT := Lib.hid hts
  have hn := hts.small
  clear hts
  have hd : decide (0 < n) = false := by simp; omega
  have HN := Lib.hid h0
  clear h0
  go_enter Try.func10, Try.ntmps10
  go_wp2_with fail
  obtain ⟨W, hW⟩ : ∃ W, W = w.alloc (Obj.cells #[Value.bool false, Value.int IntKind.i64 most, Value.slice A n c] 24) := ⟨_, rfl⟩
  have hUW : Up w W := by subst hW; exact Up.alloc _ _
  have F0 : W.cell? ⟨w.heap.size, 0, none⟩ = some (.bool false) ∧ W.cell? ⟨w.heap.size, 1, none⟩ = some (.int .i64 most) ∧ W.cell? ⟨w.heap.size, 2, none⟩ = some (.slice A n c) := by subst hW; simp
  have FT : TAt W W.heap.size A n ts := HT.out.below hUW hUW.size
  rw [← hW]
  clear hW
  have F : Hid (∀ (w1 : World), Up W.drew w1 → w1.cell? ⟨w.heap.size, 0, none⟩ = some (.bool false) ∧ w1.cell? ⟨w.heap.size, 1, none⟩ = some (.int .i64 most) ∧ w1.cell? ⟨w.heap.size, 2, none⟩ = some (.slice A n c) ∧ TAt w1 w1.heap.size A n ts) :=
    fun w1 h => ⟨Up.cell h F0.1, Up.cell h F0.2.1, Up.cell h F0.2.2, FT.below (Up.of_drew h) h.size⟩
  clear F0 FT
  refine wp_region_noPanic (wp_region_plan ((0,true)::(1,true)::(2,true)::(3,true)::(4,true)::(5,true)::(6,true)::(7,true)::(8,true)::(9,true)::(10,true)::(11,true)::(12,true)::(13,true)::(14,true)::(15,true)::(16,true)::(17,true)::(18,true)::(19,true)::(20,true)::(21,true)::(22,true)::(23,true)::(24,true)::(25,true)::(26,true)::(27,true)::(28,true)::(29,true)::(30,true)::(31,true)::(32,true)::(33,true)::(34,true)::(35,true)::(36,true)::(37,false)::(38,true)::[]) Up Up.refl (fun _ _ _ => Up.trans) (by kernel_rfl) (by kernel_rfl) (fun _ _ _ _ _ h => h) ?_)
  (refine wpP_take rfl rfl ?_; apply Exists.intro; refine ⟨fun w1 hw1 => ?_, ?_⟩; (have f1 := (F.out w1 hw1).1; have f2 := (F.out w1 hw1).2.1; have f3 := (F.out w1 hw1).2.2.1; go_simp; exact ⟨rfl, Up.refl _⟩); (simp only [Act.put, List.setIfInBounds_toArray, List.set_cons_succ, List.set_cons_zero]))
  (refine wpP_take rfl rfl ?_; apply Exists.intro; refine ⟨fun w1 hw1 => ?_, ?_⟩; (have f1 := (F.out w1 hw1).1; have f2 := (F.out w1 hw1).2.1; have f3 := (F.out w1 hw1).2.2.1; go_simp; exact ⟨rfl, Up.refl _⟩); (simp only [Act.put, List.setIfInBounds_toArray, List.set_cons_succ, List.set_cons_zero]))
  (refine wpP_pass rfl rfl ?_; (simp only [Act.put, List.setIfInBounds_toArray, List.set_cons_succ, List.set_cons_zero]))
  (refine wpP_pass rfl rfl ?_; (simp only [Act.put, List.setIfInBounds_toArray, List.set_cons_succ, List.set_cons_zero]))
  (refine wpP_pass rfl rfl ?_; (simp only [Act.put, List.setIfInBounds_toArray, List.set_cons_succ, List.set_cons_zero]))
  (refine wpP_take rfl rfl ?_; apply Exists.intro; refine ⟨fun w1 hw1 => ?_, ?_⟩; (have f1 := (F.out w1 hw1).1; have f2 := (F.out w1 hw1).2.1; have f3 := (F.out w1 hw1).2.2.1; go_simp; exact ⟨rfl, Up.refl _⟩); (simp only [Act.put, List.setIfInBounds_toArray, List.set_cons_succ, List.set_cons_zero]))
  (refine wpP_take rfl rfl ?_; apply Exists.intro; refine ⟨fun w1 hw1 => ?_, ?_⟩; (have f1 := (F.out w1 hw1).1; have f2 := (F.out w1 hw1).2.1; have f3 := (F.out w1 hw1).2.2.1; go_simp; exact ⟨rfl, Up.refl _⟩); (simp only [Act.put, List.setIfInBounds_toArray, List.set_cons_succ, List.set_cons_zero]))
  (refine wpP_take rfl rfl ?_; apply Exists.intro; refine ⟨fun w1 hw1 => ?_, ?_⟩; (have f1 := (F.out w1 hw1).1; have f2 := (F.out w1 hw1).2.1; have f3 := (F.out w1 hw1).2.2.1; go_simp; exact ⟨rfl, Up.refl _⟩); (simp only [Act.put, List.setIfInBounds_toArray, List.set_cons_succ, List.set_cons_zero]))
  (refine wpP_take rfl rfl ?_; apply Exists.intro; refine ⟨fun w1 hw1 => ?_, ?_⟩; (have f1 := (F.out w1 hw1).1; have f2 := (F.out w1 hw1).2.1; have f3 := (F.out w1 hw1).2.2.1; go_simp; exact ⟨rfl, Up.refl _⟩); (simp only [Act.put, List.setIfInBounds_toArray, List.set_cons_succ, List.set_cons_zero]))
  (refine wpP_take rfl rfl ?_; apply Exists.intro; refine ⟨fun w1 hw1 => ?_, ?_⟩; (have f1 := (F.out w1 hw1).1; have f2 := (F.out w1 hw1).2.1; have f3 := (F.out w1 hw1).2.2.1; go_simp; go_at_call 34; (with_reducible refine (ctf_good _ _ _ ts _ (F.out w1 hw1).2.2.2).mono ?_); rintro e w' ⟨rfl, hb⟩; exact ⟨_, rfl, rfl, hb⟩); (simp only [Act.put, List.setIfInBounds_toArray, List.set_cons_succ, List.set_cons_zero]))
  (refine wpP_take rfl rfl ?_; apply Exists.intro; refine ⟨fun w1 hw1 => ?_, ?_⟩; (have f1 := (F.out w1 hw1).1; have f2 := (F.out w1 hw1).2.1; have f3 := (F.out w1 hw1).2.2.1; go_simp; exact ⟨rfl, Up.refl _⟩); (simp only [Act.put, List.setIfInBounds_toArray, List.set_cons_succ, List.set_cons_zero]))
  (refine wpP_take rfl rfl ?_; apply Exists.intro; refine ⟨fun w1 hw1 => ?_, ?_⟩; (have f1 := (F.out w1 hw1).1; have f2 := (F.out w1 hw1).2.1; have f3 := (F.out w1 hw1).2.2.1; go_simp; exact ⟨rfl, Up.refl _⟩); (simp only [Act.put, List.setIfInBounds_toArray, List.set_cons_succ, List.set_cons_zero]))
  (refine wpP_take rfl rfl ?_; apply Exists.intro; refine ⟨fun w1 hw1 => ?_, ?_⟩; (have f1 := (F.out w1 hw1).1; have f2 := (F.out w1 hw1).2.1; have f3 := (F.out w1 hw1).2.2.1; go_simp; exact ⟨rfl, Up.refl _⟩); (simp only [Act.put, List.setIfInBounds_toArray, List.set_cons_succ, List.set_cons_zero]))
  (refine wpP_take rfl rfl ?_; apply Exists.intro; refine ⟨fun w1 hw1 => ?_, ?_⟩; (have f1 := (F.out w1 hw1).1; have f2 := (F.out w1 hw1).2.1; have f3 := (F.out w1 hw1).2.2.1; go_simp; exact ⟨rfl, Up.refl _⟩); (simp only [Act.put, List.setIfInBounds_toArray, List.set_cons_succ, List.set_cons_zero]))
  (refine wpP_take rfl rfl ?_; apply Exists.intro; refine ⟨fun w1 hw1 => ?_, ?_⟩; (have f1 := (F.out w1 hw1).1; have f2 := (F.out w1 hw1).2.1; have f3 := (F.out w1 hw1).2.2.1; go_simp; exact ⟨rfl, Up.refl _⟩); (simp only [Act.put, List.setIfInBounds_toArray, List.set_cons_succ, List.set_cons_zero]))
  (refine wpP_take rfl rfl ?_; apply Exists.intro; refine ⟨fun w1 hw1 => ?_, ?_⟩; (have f1 := (F.out w1 hw1).1; have f2 := (F.out w1 hw1).2.1; have f3 := (F.out w1 hw1).2.2.1; go_simp; exact ⟨rfl, Up.refl _⟩); (simp only [Act.put, List.setIfInBounds_toArray, List.set_cons_succ, List.set_cons_zero]))
  (refine wpP_take rfl rfl ?_; apply Exists.intro; refine ⟨fun w1 hw1 => ?_, ?_⟩; (have f1 := (F.out w1 hw1).1; have f2 := (F.out w1 hw1).2.1; have f3 := (F.out w1 hw1).2.2.1; go_simp; exact ⟨rfl, Up.refl _⟩); (simp only [Act.put, List.setIfInBounds_toArray, List.set_cons_succ, List.set_cons_zero]))
  (refine wpP_take rfl rfl ?_; apply Exists.intro; refine ⟨fun w1 hw1 => ?_, ?_⟩; (have f1 := (F.out w1 hw1).1; have f2 := (F.out w1 hw1).2.1; have f3 := (F.out w1 hw1).2.2.1; go_simp; exact ⟨rfl, Up.refl _⟩); (simp only [Act.put, List.setIfInBounds_toArray, List.set_cons_succ, List.set_cons_zero]))
  (refine wpP_take rfl rfl ?_; apply Exists.intro; refine ⟨fun w1 hw1 => ?_, ?_⟩; (have f1 := (F.out w1 hw1).1; have f2 := (F.out w1 hw1).2.1; have f3 := (F.out w1 hw1).2.2.1; go_simp; exact ⟨rfl, Up.refl _⟩); (simp only [Act.put, List.setIfInBounds_toArray, List.set_cons_succ, List.set_cons_zero]))
  (refine wpP_take rfl rfl ?_; apply Exists.intro; refine ⟨fun w1 hw1 => ?_, ?_⟩; (have f1 := (F.out w1 hw1).1; have f2 := (F.out w1 hw1).2.1; have f3 := (F.out w1 hw1).2.2.1; go_simp; exact ⟨rfl, Up.refl _⟩); (simp only [Act.put, List.setIfInBounds_toArray, List.set_cons_succ, List.set_cons_zero]))
  (refine wpP_take rfl rfl ?_; apply Exists.intro; refine ⟨fun w1 hw1 => ?_, ?_⟩; (have f1 := (F.out w1 hw1).1; have f2 := (F.out w1 hw1).2.1; have f3 := (F.out w1 hw1).2.2.1; go_simp; exact ⟨rfl, Up.refl _⟩); (simp only [Act.put, List.setIfInBounds_toArray, List.set_cons_succ, List.set_cons_zero]))
  (refine wpP_take rfl rfl ?_; apply Exists.intro; refine ⟨fun w1 hw1 => ?_, ?_⟩; (have f1 := (F.out w1 hw1).1; have f2 := (F.out w1 hw1).2.1; have f3 := (F.out w1 hw1).2.2.1; go_simp; exact ⟨rfl, Up.refl _⟩); (simp only [Act.put, List.setIfInBounds_toArray, List.set_cons_succ, List.set_cons_zero]))
  (refine wpP_take rfl rfl ?_; apply Exists.intro; refine ⟨fun w1 hw1 => ?_, ?_⟩; (have f1 := (F.out w1 hw1).1; have f2 := (F.out w1 hw1).2.1; have f3 := (F.out w1 hw1).2.2.1; go_simp; exact ⟨rfl, Up.refl _⟩); (simp only [Act.put, List.setIfInBounds_toArray, List.set_cons_succ, List.set_cons_zero]))
  (refine wpP_take rfl rfl ?_; apply Exists.intro; refine ⟨fun w1 hw1 => ?_, ?_⟩; (have f1 := (F.out w1 hw1).1; have f2 := (F.out w1 hw1).2.1; have f3 := (F.out w1 hw1).2.2.1; go_simp; exact ⟨rfl, Up.refl _⟩); (simp only [Act.put, List.setIfInBounds_toArray, List.set_cons_succ, List.set_cons_zero]))
  (refine wpP_take rfl rfl ?_; apply Exists.intro; refine ⟨fun w1 hw1 => ?_, ?_⟩; (have f1 := (F.out w1 hw1).1; have f2 := (F.out w1 hw1).2.1; have f3 := (F.out w1 hw1).2.2.1; go_simp; go_at_call 34; (with_reducible refine (ctf_sent _ _ _ ts _ (F.out w1 hw1).2.2.2).mono ?_); rintro e w' ⟨rfl, hb⟩; exact ⟨_, rfl, rfl, hb⟩); (simp only [Act.put, List.setIfInBounds_toArray, List.set_cons_succ, List.set_cons_zero]))
  (refine wpP_take rfl rfl ?_; apply Exists.intro; refine ⟨fun w1 hw1 => ?_, ?_⟩; (have f1 := (F.out w1 hw1).1; have f2 := (F.out w1 hw1).2.1; have f3 := (F.out w1 hw1).2.2.1; go_simp; exact ⟨rfl, Up.refl _⟩); (simp only [Act.put, List.setIfInBounds_toArray, List.set_cons_succ, List.set_cons_zero]))
  (refine wpP_take rfl rfl ?_; apply Exists.intro; refine ⟨fun w1 hw1 => ?_, ?_⟩; (have f1 := (F.out w1 hw1).1; have f2 := (F.out w1 hw1).2.1; have f3 := (F.out w1 hw1).2.2.1; go_simp; exact ⟨rfl, Up.refl _⟩); (simp only [Act.put, List.setIfInBounds_toArray, List.set_cons_succ, List.set_cons_zero]))
  (refine wpP_take rfl rfl ?_; apply Exists.intro; refine ⟨fun w1 hw1 => ?_, ?_⟩; (have f1 := (F.out w1 hw1).1; have f2 := (F.out w1 hw1).2.1; have f3 := (F.out w1 hw1).2.2.1; go_simp; exact ⟨rfl, Up.refl _⟩); (simp only [Act.put, List.setIfInBounds_toArray, List.set_cons_succ, List.set_cons_zero]))
  (refine wpP_take rfl rfl ?_; apply Exists.intro; refine ⟨fun w1 hw1 => ?_, ?_⟩; (have f1 := (F.out w1 hw1).1; have f2 := (F.out w1 hw1).2.1; have f3 := (F.out w1 hw1).2.2.1; go_simp; exact ⟨rfl, Up.refl _⟩); (simp only [Act.put, List.setIfInBounds_toArray, List.set_cons_succ, List.set_cons_zero]))
  (refine wpP_pass rfl rfl ?_; (simp only [Act.put, List.setIfInBounds_toArray, List.set_cons_succ, List.set_cons_zero]))
  (refine wpP_pass rfl rfl ?_; (simp only [Act.put, List.setIfInBounds_toArray, List.set_cons_succ, List.set_cons_zero]))
  (refine wpP_take rfl rfl ?_; apply Exists.intro; refine ⟨fun w1 hw1 => ?_, ?_⟩; (have f1 := (F.out w1 hw1).1; have f2 := (F.out w1 hw1).2.1; have f3 := (F.out w1 hw1).2.2.1; go_simp; exact ⟨rfl, Up.refl _⟩); (simp only [Act.put, List.setIfInBounds_toArray, List.set_cons_succ, List.set_cons_zero]))
  (refine wpP_take rfl rfl ?_; apply Exists.intro; refine ⟨fun w1 hw1 => ?_, ?_⟩; (have f1 := (F.out w1 hw1).1; have f2 := (F.out w1 hw1).2.1; have f3 := (F.out w1 hw1).2.2.1; go_simp; exact ⟨rfl, Up.refl _⟩); (simp only [Act.put, List.setIfInBounds_toArray, List.set_cons_succ, List.set_cons_zero]))
  (refine wpP_take rfl rfl ?_; apply Exists.intro; refine ⟨fun w1 hw1 => ?_, ?_⟩; (have f1 := (F.out w1 hw1).1; have f2 := (F.out w1 hw1).2.1; have f3 := (F.out w1 hw1).2.2.1; go_simp; exact ⟨rfl, Up.refl _⟩); (simp only [Act.put, List.setIfInBounds_toArray, List.set_cons_succ, List.set_cons_zero]))
  (refine wpP_take rfl rfl ?_; apply Exists.intro; refine ⟨fun w1 hw1 => ?_, ?_⟩; (have f1 := (F.out w1 hw1).1; have f2 := (F.out w1 hw1).2.1; have f3 := (F.out w1 hw1).2.2.1; go_simp; exact ⟨rfl, Up.refl _⟩); (simp only [Act.put, List.setIfInBounds_toArray, List.set_cons_succ, List.set_cons_zero]))
  (refine wpP_take rfl rfl ?_; apply Exists.intro; refine ⟨fun w1 hw1 => ?_, ?_⟩; (have f1 := (F.out w1 hw1).1; have f2 := (F.out w1 hw1).2.1; have f3 := (F.out w1 hw1).2.2.1; go_simp; exact ⟨rfl, Up.refl _⟩); (simp only [Act.put, List.setIfInBounds_toArray, List.set_cons_succ, List.set_cons_zero]))
  (refine wpP_take rfl rfl ?_; apply Exists.intro; refine ⟨fun w1 hw1 => ?_, ?_⟩; (have f1 := (F.out w1 hw1).1; have f2 := (F.out w1 hw1).2.1; have f3 := (F.out w1 hw1).2.2.1; go_simp; exact ⟨rfl, Up.refl _⟩); (simp only [Act.put, List.setIfInBounds_toArray, List.set_cons_succ, List.set_cons_zero]))
  refine wpP_only rfl rfl (fun w1 hw1 => ?_)
  go_simp
  refine ⟨Up.alloc _ _, ?_⟩
  have hR := RAt.new w1 false (ts.any good) (decide (most ≤ ↑n)) (ts.any sent) false ((mn : Int) == 0)
  have hgw : w1.heap.size < (w1.alloc (Obj.cells #[Value.bool false, Value.int IntKind.i64 1, Value.bool (ts.any good), Value.int IntKind.i64 2, Value.bool (decide (most ≤ ↑n)), Value.int IntKind.i64 3, Value.bool (ts.any sent), Value.int IntKind.i64 4, Value.bool false, Value.int IntKind.i64 5, Value.bool ((mn : Int) == 0), Value.int IntKind.i64 6] 53)).heap.size := by simp
  have HRS := Lib.hid (show reasons false budget most mn n ts = [false, ts.any good, decide (most ≤ ↑n), (ts.any sent), false, (mn : Int) == 0] by simp [reasons, hd])
  have hB2 : Up w (w1.alloc (Obj.cells #[Value.bool false, Value.int IntKind.i64 1, Value.bool (ts.any good), Value.int IntKind.i64 2, Value.bool (decide (most ≤ ↑n)), Value.int IntKind.i64 3, Value.bool (ts.any sent), Value.int IntKind.i64 4, Value.bool false, Value.int IntKind.i64 5, Value.bool ((mn : Int) == 0), Value.int IntKind.i64 6] 53)) := (hUW.trans (Up.of_drew hw1)).trans (Up.alloc _ _)
  clear hUW hw1
  revert hB2 hR hgw
  generalize w1.alloc (Obj.cells #[Value.bool false, Value.int IntKind.i64 1, Value.bool (ts.any good), Value.int IntKind.i64 2, Value.bool (decide (most ≤ ↑n)), Value.int IntKind.i64 3, Value.bool (ts.any sent), Value.int IntKind.i64 4, Value.bool false, Value.int IntKind.i64 5, Value.bool ((mn : Int) == 0), Value.int IntKind.i64 6] 53) = W1
  intro hR hgw hB1
  refine wpP_take rfl rfl ?_; apply Exists.intro; refine ⟨fun w1 hw1 => ?_, ?_⟩
  (go_simp; exact ⟨rfl, Up.refl _⟩)
  (simp only [Act.put, List.setIfInBounds_toArray, List.set_cons_succ, List.set_cons_zero])
  refine wpP_done (fun W2 hW2 => NoPanic.normal ?_)
  have hB2 := hB1.trans hW2
  replace hR := hR.below hgw hW2
  replace hgw := Nat.lt_of_lt_of_le hgw hW2.size
  clear hB1 hW2 hd
  have HB := Lib.hid hB2
  have hws := hB2.size
  clear hB2
  obtain ⟨rs, hrs⟩ : ∃ rs, rs = reasons false budget most mn n ts := ⟨_, rfl⟩
  rw [← HRS.out, ← hrs] at hR
  have HL := Lib.hid (show rs.length = 6 by rw [hrs]; rfl)
  have HR2 := Lib.hid hrs
  clear hrs
  go_wp2_with fail
  go_loopw [55] (fun i wr => ∃ k : Nat, k ≤ 6 ∧ i = .int .i64 k ∧ Below W2.heap.size W2 wr ∧ ∀ j, j < k → rs[j]? = some false) (fun i _ => 6 - (intOf i).toNat)
  case atStart => exact ⟨0, by omega, rfl, Below.refl _ _, fun _ h => by omega⟩
  case round =>
    obtain ⟨k, hk, rfl, hb, hno⟩ := hrel
    have HNO := Lib.hid hno
    clear hno
    have hbs := hb.size
    by_cases hlt : k < 6
    · obtain ⟨b, hbk⟩ : ∃ b, rs[k]? = some b := ⟨_, List.getElem?_eq_getElem (by rw [HL.out]; exact hlt)⟩
      obtain ⟨c1, c2⟩ := (hR.below hgw hb) k b hbk
      have HBK := Lib.hid hbk
      have HB2 := Lib.hid hb
      clear hbk hR hb
      go_wp2_with fail
      · rename_i hbt
        go_ret
        refine ⟨ret_int (by rw [← HR2.out]; exact (firstOf_hit0 (by rw [HBK.out, hbt]) HNO.out).symm), HB.out.trans ?_⟩
        exact ((HB2.out.mono (by omega)).alloc (by omega) _)
      · rename_i hbt
        go_roundw
        case rel =>
          refine ⟨k + 1, by omega, by go_num, (HB2.out.alloc (by omega) _), fun j hj => ?_⟩
          rcases Nat.lt_or_ge j k with h | h
          · exact HNO.out j h
          · obtain rfl : j = k := by omega
            rw [HBK.out]; simpa using hbt
        case measure => simp [intOf]; omega
    · go_wp2_with fail
      go_ret
      exact ⟨ret_int (by rw [← HR2.out]; exact (firstOf_miss _ _ (fun i hi => HNO.out i (by rw [HL.out] at hi; omega))).symm), HB.out.trans hb⟩
theorem stop_tz (n : Nat) (h0 : n = 0) (budget : Bool) (most : Int) (A M : Option Addr) (c mn mc : Nat) (ts : List T) (w : World) (hts : TAt w w.heap.size A n ts) :
    Calls Try.prog 10 #[.agg #[.bool true, .int .i64 most, .slice A n c], .slice M mn mc, .bool budget] w fun e w' => e = .returned (.int .i64 (firstOf 0 (reasons true budget most mn n ts))) ∧ Up w w' := by
  have HT := Lib.hid hts
  have hn := hts.small
  clear hts
  have hd : decide (0 < n) = false := by simp; omega
  have HN := Lib.hid h0
  clear h0
  go_enter Try.func10, Try.ntmps10
  go_wp2_with fail
  obtain ⟨W, hW⟩ : ∃ W, W = w.alloc (Obj.cells #[Value.bool true, Value.int IntKind.i64 most, Value.slice A n c] 24) := ⟨_, rfl⟩
  have hUW : Up w W := by subst hW; exact Up.alloc _ _
  have F0 : W.cell? ⟨w.heap.size, 0, none⟩ = some (.bool true) ∧ W.cell? ⟨w.heap.size, 1, none⟩ = some (.int .i64 most) ∧ W.cell? ⟨w.heap.size, 2, none⟩ = some (.slice A n c) := by subst hW; simp
  have FT : TAt W W.heap.size A n ts := HT.out.below hUW hUW.size
  rw [← hW]
  clear hW
  have F : Hid (∀ (w1 : World), Up W.drew w1 → w1.cell? ⟨w.heap.size, 0, none⟩ = some (.bool true) ∧ w1.cell? ⟨w.heap.size, 1, none⟩ = some (.int .i64 most) ∧ w1.cell? ⟨w.heap.size, 2, none⟩ = some (.slice A n c) ∧ TAt w1 w1.heap.size A n ts) :=
    fun w1 h => ⟨Up.cell h F0.1, Up.cell h F0.2.1, Up.cell h F0.2.2, FT.below (Up.of_drew h) h.size⟩
  clear F0 FT
  refine wp_region_noPanic (wp_region_plan ((0,true)::(1,true)::(2,true)::(3,true)::(4,true)::(5,true)::(6,true)::(7,true)::(8,true)::(9,true)::(10,true)::(11,true)::(12,true)::(13,true)::(14,true)::(15,true)::(16,true)::(17,true)::(18,true)::(19,true)::(20,true)::(21,true)::(22,true)::(23,true)::(24,true)::(25,true)::(26,true)::(27,true)::(28,true)::(29,true)::(30,true)::(31,true)::(32,true)::(33,true)::(34,true)::(35,true)::(36,true)::(37,false)::(38,true)::[]) Up Up.refl (fun _ _ _ => Up.trans) (by kernel_rfl) (by kernel_rfl) (fun _ _ _ _ _ h => h) ?_)
  (refine wpP_take rfl rfl ?_; apply Exists.intro; refine ⟨fun w1 hw1 => ?_, ?_⟩; (have f1 := (F.out w1 hw1).1; have f2 := (F.out w1 hw1).2.1; have f3 := (F.out w1 hw1).2.2.1; go_simp; exact ⟨rfl, Up.refl _⟩); (simp only [Act.put, List.setIfInBounds_toArray, List.set_cons_succ, List.set_cons_zero]))
  (refine wpP_take rfl rfl ?_; apply Exists.intro; refine ⟨fun w1 hw1 => ?_, ?_⟩; (have f1 := (F.out w1 hw1).1; have f2 := (F.out w1 hw1).2.1; have f3 := (F.out w1 hw1).2.2.1; go_simp; exact ⟨rfl, Up.refl _⟩); (simp only [Act.put, List.setIfInBounds_toArray, List.set_cons_succ, List.set_cons_zero]))
  (refine wpP_pass rfl rfl ?_; (simp only [Act.put, List.setIfInBounds_toArray, List.set_cons_succ, List.set_cons_zero]))
  (refine wpP_pass rfl rfl ?_; (simp only [Act.put, List.setIfInBounds_toArray, List.set_cons_succ, List.set_cons_zero]))
  (refine wpP_pass rfl rfl ?_; (simp only [Act.put, List.setIfInBounds_toArray, List.set_cons_succ, List.set_cons_zero]))
  (refine wpP_take rfl rfl ?_; apply Exists.intro; refine ⟨fun w1 hw1 => ?_, ?_⟩; (have f1 := (F.out w1 hw1).1; have f2 := (F.out w1 hw1).2.1; have f3 := (F.out w1 hw1).2.2.1; go_simp; exact ⟨rfl, Up.refl _⟩); (simp only [Act.put, List.setIfInBounds_toArray, List.set_cons_succ, List.set_cons_zero]))
  (refine wpP_take rfl rfl ?_; apply Exists.intro; refine ⟨fun w1 hw1 => ?_, ?_⟩; (have f1 := (F.out w1 hw1).1; have f2 := (F.out w1 hw1).2.1; have f3 := (F.out w1 hw1).2.2.1; go_simp; exact ⟨rfl, Up.refl _⟩); (simp only [Act.put, List.setIfInBounds_toArray, List.set_cons_succ, List.set_cons_zero]))
  (refine wpP_take rfl rfl ?_; apply Exists.intro; refine ⟨fun w1 hw1 => ?_, ?_⟩; (have f1 := (F.out w1 hw1).1; have f2 := (F.out w1 hw1).2.1; have f3 := (F.out w1 hw1).2.2.1; go_simp; exact ⟨rfl, Up.refl _⟩); (simp only [Act.put, List.setIfInBounds_toArray, List.set_cons_succ, List.set_cons_zero]))
  (refine wpP_take rfl rfl ?_; apply Exists.intro; refine ⟨fun w1 hw1 => ?_, ?_⟩; (have f1 := (F.out w1 hw1).1; have f2 := (F.out w1 hw1).2.1; have f3 := (F.out w1 hw1).2.2.1; go_simp; exact ⟨rfl, Up.refl _⟩); (simp only [Act.put, List.setIfInBounds_toArray, List.set_cons_succ, List.set_cons_zero]))
  (refine wpP_take rfl rfl ?_; apply Exists.intro; refine ⟨fun w1 hw1 => ?_, ?_⟩; (have f1 := (F.out w1 hw1).1; have f2 := (F.out w1 hw1).2.1; have f3 := (F.out w1 hw1).2.2.1; go_simp; go_at_call 34; (with_reducible refine (ctf_good _ _ _ ts _ (F.out w1 hw1).2.2.2).mono ?_); rintro e w' ⟨rfl, hb⟩; exact ⟨_, rfl, rfl, hb⟩); (simp only [Act.put, List.setIfInBounds_toArray, List.set_cons_succ, List.set_cons_zero]))
  (refine wpP_take rfl rfl ?_; apply Exists.intro; refine ⟨fun w1 hw1 => ?_, ?_⟩; (have f1 := (F.out w1 hw1).1; have f2 := (F.out w1 hw1).2.1; have f3 := (F.out w1 hw1).2.2.1; go_simp; exact ⟨rfl, Up.refl _⟩); (simp only [Act.put, List.setIfInBounds_toArray, List.set_cons_succ, List.set_cons_zero]))
  (refine wpP_take rfl rfl ?_; apply Exists.intro; refine ⟨fun w1 hw1 => ?_, ?_⟩; (have f1 := (F.out w1 hw1).1; have f2 := (F.out w1 hw1).2.1; have f3 := (F.out w1 hw1).2.2.1; go_simp; exact ⟨rfl, Up.refl _⟩); (simp only [Act.put, List.setIfInBounds_toArray, List.set_cons_succ, List.set_cons_zero]))
  (refine wpP_take rfl rfl ?_; apply Exists.intro; refine ⟨fun w1 hw1 => ?_, ?_⟩; (have f1 := (F.out w1 hw1).1; have f2 := (F.out w1 hw1).2.1; have f3 := (F.out w1 hw1).2.2.1; go_simp; exact ⟨rfl, Up.refl _⟩); (simp only [Act.put, List.setIfInBounds_toArray, List.set_cons_succ, List.set_cons_zero]))
  (refine wpP_take rfl rfl ?_; apply Exists.intro; refine ⟨fun w1 hw1 => ?_, ?_⟩; (have f1 := (F.out w1 hw1).1; have f2 := (F.out w1 hw1).2.1; have f3 := (F.out w1 hw1).2.2.1; go_simp; exact ⟨rfl, Up.refl _⟩); (simp only [Act.put, List.setIfInBounds_toArray, List.set_cons_succ, List.set_cons_zero]))
  (refine wpP_take rfl rfl ?_; apply Exists.intro; refine ⟨fun w1 hw1 => ?_, ?_⟩; (have f1 := (F.out w1 hw1).1; have f2 := (F.out w1 hw1).2.1; have f3 := (F.out w1 hw1).2.2.1; go_simp; exact ⟨rfl, Up.refl _⟩); (simp only [Act.put, List.setIfInBounds_toArray, List.set_cons_succ, List.set_cons_zero]))
  (refine wpP_take rfl rfl ?_; apply Exists.intro; refine ⟨fun w1 hw1 => ?_, ?_⟩; (have f1 := (F.out w1 hw1).1; have f2 := (F.out w1 hw1).2.1; have f3 := (F.out w1 hw1).2.2.1; go_simp; exact ⟨rfl, Up.refl _⟩); (simp only [Act.put, List.setIfInBounds_toArray, List.set_cons_succ, List.set_cons_zero]))
  (refine wpP_take rfl rfl ?_; apply Exists.intro; refine ⟨fun w1 hw1 => ?_, ?_⟩; (have f1 := (F.out w1 hw1).1; have f2 := (F.out w1 hw1).2.1; have f3 := (F.out w1 hw1).2.2.1; go_simp; exact ⟨rfl, Up.refl _⟩); (simp only [Act.put, List.setIfInBounds_toArray, List.set_cons_succ, List.set_cons_zero]))
  (refine wpP_take rfl rfl ?_; apply Exists.intro; refine ⟨fun w1 hw1 => ?_, ?_⟩; (have f1 := (F.out w1 hw1).1; have f2 := (F.out w1 hw1).2.1; have f3 := (F.out w1 hw1).2.2.1; go_simp; exact ⟨rfl, Up.refl _⟩); (simp only [Act.put, List.setIfInBounds_toArray, List.set_cons_succ, List.set_cons_zero]))
  (refine wpP_take rfl rfl ?_; apply Exists.intro; refine ⟨fun w1 hw1 => ?_, ?_⟩; (have f1 := (F.out w1 hw1).1; have f2 := (F.out w1 hw1).2.1; have f3 := (F.out w1 hw1).2.2.1; go_simp; exact ⟨rfl, Up.refl _⟩); (simp only [Act.put, List.setIfInBounds_toArray, List.set_cons_succ, List.set_cons_zero]))
  (refine wpP_take rfl rfl ?_; apply Exists.intro; refine ⟨fun w1 hw1 => ?_, ?_⟩; (have f1 := (F.out w1 hw1).1; have f2 := (F.out w1 hw1).2.1; have f3 := (F.out w1 hw1).2.2.1; go_simp; exact ⟨rfl, Up.refl _⟩); (simp only [Act.put, List.setIfInBounds_toArray, List.set_cons_succ, List.set_cons_zero]))
  (refine wpP_take rfl rfl ?_; apply Exists.intro; refine ⟨fun w1 hw1 => ?_, ?_⟩; (have f1 := (F.out w1 hw1).1; have f2 := (F.out w1 hw1).2.1; have f3 := (F.out w1 hw1).2.2.1; go_simp; exact ⟨rfl, Up.refl _⟩); (simp only [Act.put, List.setIfInBounds_toArray, List.set_cons_succ, List.set_cons_zero]))
  (refine wpP_take rfl rfl ?_; apply Exists.intro; refine ⟨fun w1 hw1 => ?_, ?_⟩; (have f1 := (F.out w1 hw1).1; have f2 := (F.out w1 hw1).2.1; have f3 := (F.out w1 hw1).2.2.1; go_simp; exact ⟨rfl, Up.refl _⟩); (simp only [Act.put, List.setIfInBounds_toArray, List.set_cons_succ, List.set_cons_zero]))
  (refine wpP_pass rfl rfl ?_; (simp only [Act.put, List.setIfInBounds_toArray, List.set_cons_succ, List.set_cons_zero]))
  (refine wpP_pass rfl rfl ?_; (simp only [Act.put, List.setIfInBounds_toArray, List.set_cons_succ, List.set_cons_zero]))
  (refine wpP_pass rfl rfl ?_; (simp only [Act.put, List.setIfInBounds_toArray, List.set_cons_succ, List.set_cons_zero]))
  (refine wpP_take rfl rfl ?_; apply Exists.intro; refine ⟨fun w1 hw1 => ?_, ?_⟩; (have f1 := (F.out w1 hw1).1; have f2 := (F.out w1 hw1).2.1; have f3 := (F.out w1 hw1).2.2.1; go_simp; exact ⟨rfl, Up.refl _⟩); (simp only [Act.put, List.setIfInBounds_toArray, List.set_cons_succ, List.set_cons_zero]))
  (refine wpP_take rfl rfl ?_; apply Exists.intro; refine ⟨fun w1 hw1 => ?_, ?_⟩; (have f1 := (F.out w1 hw1).1; have f2 := (F.out w1 hw1).2.1; have f3 := (F.out w1 hw1).2.2.1; go_simp; exact ⟨rfl, Up.refl _⟩); (simp only [Act.put, List.setIfInBounds_toArray, List.set_cons_succ, List.set_cons_zero]))
  (refine wpP_take rfl rfl ?_; apply Exists.intro; refine ⟨fun w1 hw1 => ?_, ?_⟩; (have f1 := (F.out w1 hw1).1; have f2 := (F.out w1 hw1).2.1; have f3 := (F.out w1 hw1).2.2.1; go_simp; exact ⟨rfl, Up.refl _⟩); (simp only [Act.put, List.setIfInBounds_toArray, List.set_cons_succ, List.set_cons_zero]))
  (refine wpP_take rfl rfl ?_; apply Exists.intro; refine ⟨fun w1 hw1 => ?_, ?_⟩; (have f1 := (F.out w1 hw1).1; have f2 := (F.out w1 hw1).2.1; have f3 := (F.out w1 hw1).2.2.1; go_simp; exact ⟨rfl, Up.refl _⟩); (simp only [Act.put, List.setIfInBounds_toArray, List.set_cons_succ, List.set_cons_zero]))
  (refine wpP_pass rfl rfl ?_; (simp only [Act.put, List.setIfInBounds_toArray, List.set_cons_succ, List.set_cons_zero]))
  (refine wpP_pass rfl rfl ?_; (simp only [Act.put, List.setIfInBounds_toArray, List.set_cons_succ, List.set_cons_zero]))
  (refine wpP_take rfl rfl ?_; apply Exists.intro; refine ⟨fun w1 hw1 => ?_, ?_⟩; (have f1 := (F.out w1 hw1).1; have f2 := (F.out w1 hw1).2.1; have f3 := (F.out w1 hw1).2.2.1; go_simp; exact ⟨rfl, Up.refl _⟩); (simp only [Act.put, List.setIfInBounds_toArray, List.set_cons_succ, List.set_cons_zero]))
  (refine wpP_take rfl rfl ?_; apply Exists.intro; refine ⟨fun w1 hw1 => ?_, ?_⟩; (have f1 := (F.out w1 hw1).1; have f2 := (F.out w1 hw1).2.1; have f3 := (F.out w1 hw1).2.2.1; go_simp; exact ⟨rfl, Up.refl _⟩); (simp only [Act.put, List.setIfInBounds_toArray, List.set_cons_succ, List.set_cons_zero]))
  (refine wpP_take rfl rfl ?_; apply Exists.intro; refine ⟨fun w1 hw1 => ?_, ?_⟩; (have f1 := (F.out w1 hw1).1; have f2 := (F.out w1 hw1).2.1; have f3 := (F.out w1 hw1).2.2.1; go_simp; exact ⟨rfl, Up.refl _⟩); (simp only [Act.put, List.setIfInBounds_toArray, List.set_cons_succ, List.set_cons_zero]))
  (refine wpP_take rfl rfl ?_; apply Exists.intro; refine ⟨fun w1 hw1 => ?_, ?_⟩; (have f1 := (F.out w1 hw1).1; have f2 := (F.out w1 hw1).2.1; have f3 := (F.out w1 hw1).2.2.1; go_simp; exact ⟨rfl, Up.refl _⟩); (simp only [Act.put, List.setIfInBounds_toArray, List.set_cons_succ, List.set_cons_zero]))
  (refine wpP_take rfl rfl ?_; apply Exists.intro; refine ⟨fun w1 hw1 => ?_, ?_⟩; (have f1 := (F.out w1 hw1).1; have f2 := (F.out w1 hw1).2.1; have f3 := (F.out w1 hw1).2.2.1; go_simp; exact ⟨rfl, Up.refl _⟩); (simp only [Act.put, List.setIfInBounds_toArray, List.set_cons_succ, List.set_cons_zero]))
  (refine wpP_take rfl rfl ?_; apply Exists.intro; refine ⟨fun w1 hw1 => ?_, ?_⟩; (have f1 := (F.out w1 hw1).1; have f2 := (F.out w1 hw1).2.1; have f3 := (F.out w1 hw1).2.2.1; go_simp; exact ⟨rfl, Up.refl _⟩); (simp only [Act.put, List.setIfInBounds_toArray, List.set_cons_succ, List.set_cons_zero]))
  refine wpP_only rfl rfl (fun w1 hw1 => ?_)
  go_simp
  refine ⟨Up.alloc _ _, ?_⟩
  have hR := RAt.new w1 false (ts.any good) (decide (most ≤ ↑n)) false false ((mn : Int) == 0)
  have hgw : w1.heap.size < (w1.alloc (Obj.cells #[Value.bool false, Value.int IntKind.i64 1, Value.bool (ts.any good), Value.int IntKind.i64 2, Value.bool (decide (most ≤ ↑n)), Value.int IntKind.i64 3, Value.bool false, Value.int IntKind.i64 4, Value.bool false, Value.int IntKind.i64 5, Value.bool ((mn : Int) == 0), Value.int IntKind.i64 6] 53)).heap.size := by simp
  have HRS := Lib.hid (show reasons true budget most mn n ts = [false, ts.any good, decide (most ≤ ↑n), false, false, (mn : Int) == 0] by simp [reasons, hd])
  have hB2 : Up w (w1.alloc (Obj.cells #[Value.bool false, Value.int IntKind.i64 1, Value.bool (ts.any good), Value.int IntKind.i64 2, Value.bool (decide (most ≤ ↑n)), Value.int IntKind.i64 3, Value.bool false, Value.int IntKind.i64 4, Value.bool false, Value.int IntKind.i64 5, Value.bool ((mn : Int) == 0), Value.int IntKind.i64 6] 53)) := (hUW.trans (Up.of_drew hw1)).trans (Up.alloc _ _)
  clear hUW hw1
  revert hB2 hR hgw
  generalize w1.alloc (Obj.cells #[Value.bool false, Value.int IntKind.i64 1, Value.bool (ts.any good), Value.int IntKind.i64 2, Value.bool (decide (most ≤ ↑n)), Value.int IntKind.i64 3, Value.bool false, Value.int IntKind.i64 4, Value.bool false, Value.int IntKind.i64 5, Value.bool ((mn : Int) == 0), Value.int IntKind.i64 6] 53) = W1
  intro hR hgw hB1
  refine wpP_take rfl rfl ?_; apply Exists.intro; refine ⟨fun w1 hw1 => ?_, ?_⟩
  (go_simp; exact ⟨rfl, Up.refl _⟩)
  (simp only [Act.put, List.setIfInBounds_toArray, List.set_cons_succ, List.set_cons_zero])
  refine wpP_done (fun W2 hW2 => NoPanic.normal ?_)
  have hB2 := hB1.trans hW2
  replace hR := hR.below hgw hW2
  replace hgw := Nat.lt_of_lt_of_le hgw hW2.size
  clear hB1 hW2 hd
  have HB := Lib.hid hB2
  have hws := hB2.size
  clear hB2
  obtain ⟨rs, hrs⟩ : ∃ rs, rs = reasons true budget most mn n ts := ⟨_, rfl⟩
  rw [← HRS.out, ← hrs] at hR
  have HL := Lib.hid (show rs.length = 6 by rw [hrs]; rfl)
  have HR2 := Lib.hid hrs
  clear hrs
  go_wp2_with fail
  go_loopw [55] (fun i wr => ∃ k : Nat, k ≤ 6 ∧ i = .int .i64 k ∧ Below W2.heap.size W2 wr ∧ ∀ j, j < k → rs[j]? = some false) (fun i _ => 6 - (intOf i).toNat)
  case atStart => exact ⟨0, by omega, rfl, Below.refl _ _, fun _ h => by omega⟩
  case round =>
    obtain ⟨k, hk, rfl, hb, hno⟩ := hrel
    have HNO := Lib.hid hno
    clear hno
    have hbs := hb.size
    by_cases hlt : k < 6
    · obtain ⟨b, hbk⟩ : ∃ b, rs[k]? = some b := ⟨_, List.getElem?_eq_getElem (by rw [HL.out]; exact hlt)⟩
      obtain ⟨c1, c2⟩ := (hR.below hgw hb) k b hbk
      have HBK := Lib.hid hbk
      have HB2 := Lib.hid hb
      clear hbk hR hb
      go_wp2_with fail
      · rename_i hbt
        go_ret
        refine ⟨ret_int (by rw [← HR2.out]; exact (firstOf_hit0 (by rw [HBK.out, hbt]) HNO.out).symm), HB.out.trans ?_⟩
        exact ((HB2.out.mono (by omega)).alloc (by omega) _)
      · rename_i hbt
        go_roundw
        case rel =>
          refine ⟨k + 1, by omega, by go_num, (HB2.out.alloc (by omega) _), fun j hj => ?_⟩
          rcases Nat.lt_or_ge j k with h | h
          · exact HNO.out j h
          · obtain rfl : j = k := by omega
            rw [HBK.out]; simpa using hbt
        case measure => simp [intOf]; omega
    · go_wp2_with fail
      go_ret
      exact ⟨ret_int (by rw [← HR2.out]; exact (firstOf_miss _ _ (fun i hi => HNO.out i (by rw [HL.out] at hi; omega))).symm), HB.out.trans hb⟩
theorem stop_any (again budget : Bool) (most : Int) (A M : Option Addr) (n c mn mc : Nat) (ts : List T) (w : World) (hts : TAt w w.heap.size A n ts) :
    Calls Try.prog 10 #[.agg #[.bool again, .int .i64 most, .slice A n c], .slice M mn mc, .bool budget] w fun e w' => e = .returned (.int .i64 (firstOf 0 (reasons again budget most mn n ts))) ∧ Up w w' := by
  rcases Nat.eq_zero_or_pos n with h | h
  · cases again
    · exact stop_fz n h budget most A M c mn mc ts w hts
    · exact stop_tz n h budget most A M c mn mc ts w hts
  · cases again
    · exact stop_fp n h budget most A M c mn mc ts w hts
    · exact stop_tp n h budget most A M c mn mc ts w hts
end Go.Proofs.Ytmiheegkilgimaa
