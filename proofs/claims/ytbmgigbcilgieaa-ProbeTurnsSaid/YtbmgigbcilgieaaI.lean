import Derived.Test.YtbmgigbcilgieaaH
namespace Go.Proofs.Ytbmgigbcilgieaa
open Go.RowKit
set_option maxHeartbeats 400000
set_option maxRecDepth 100000
theorem lives_any (w : World) : Calls Try.prog 8 #[] w fun e w' => e = .returned (.bool true) ∧ Up w w' := by
  have HR := Lib.hid (fun A cp v hl => run_ok ⟨10, 3, 2, 1⟩ A 5 cp [false, true, false, true, true] v hl (by omega) (by decide))
  have hups : upsP ⟨10, 3, 2, 1⟩ [false, true, false, true, true] = [false, false, false, false, true] := by decide
  rw [hups] at HR
  clear hups
  simp only [PC.v] at HR
  go_enter Try.func8, Try.ntmps8
  go_wp2_with fail
  refine (conf_any w).mono ?_; rintro e w1 ⟨rfl, h1⟩
  have hU := h1
  clear h1
  have hl : VAt (w1.alloc (.cells #[.bool false, .bool true, .bool false, .bool true, .bool true] 4)) (w1.alloc (.cells #[.bool false, .bool true, .bool false, .bool true, .bool true] 4)).heap.size (some ⟨w1.heap.size, 0, none⟩) 5 ([false, true, false, true, true].map Value.bool) :=
    VAt.of_blk (Blk.new w1 4 #[.bool false, .bool true, .bool false, .bool true, .bool true]) (by decide)
  go_wp2_with fail
  refine (HR.out _ _ _ hl).mono ?_; rintro e w2 ⟨A', c', rfl, hown, h2⟩
  clear hl HR
  replace hU := (hU.new _).trans h2
  have hv := (VAt.of_own hown).up (Up.alloc w2 (.cells #[.bool false, .bool false, .bool false, .bool false, .bool true] 4))
  have hl : VAt (w2.alloc (.cells #[.bool false, .bool false, .bool false, .bool false, .bool true] 4)) (w2.alloc (.cells #[.bool false, .bool false, .bool false, .bool false, .bool true] 4)).heap.size (some ⟨w2.heap.size, 0, none⟩) 5 ([false, false, false, false, true].map Value.bool) :=
    VAt.of_blk (Blk.new w2 4 #[.bool false, .bool false, .bool false, .bool false, .bool true]) (by decide)
  have HS := Lib.hid (same_any A' (some ⟨w2.heap.size, 0, none⟩) 5 5 c' 5 _ _ _ hv hl)
  clear hown h2 hv hl
  go_wp2_with fail
  refine HS.out.mono ?_; rintro e w3 ⟨rfl, h3⟩
  replace hU := (hU.new _).trans h3
  clear h3 HS
  go_wp2_with fail
  go_ret
  exact ⟨rfl, hU⟩
end Go.Proofs.Ytbmgigbcilgieaa
