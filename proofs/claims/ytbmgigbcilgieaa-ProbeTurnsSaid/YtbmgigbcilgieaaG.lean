import Derived.Test.YtbmgigbcilgieaaF
import Derived.Test.YtbmgigbcilgieaaV
namespace Go.Proofs.Ytbmgigbcilgieaa
open Go.RowKit
set_option maxHeartbeats 400000
set_option maxRecDepth 100000
theorem enter25 (args : Array Value) (w : World) : (callFunc 25 args).run Try.prog w = .ok (.enter 25 args) w := by
  simp [callFunc, Try.func25]
  rfl
theorem Try.info4 : (Try.prog.info? 4).map (fun i => (i.zero, i.size, i.bytes)) = some (some (.bool false), 1, 1) := by kernel_rfl
def PP.one : PP := ⟨true, 0, 0, false, 0⟩
/-- The probe behind some results. -/
def foldP (c : PC) (l : List Bool) : PP := l.foldl (stepP c) PP.one
def upsP (c : PC) (l : List Bool) : List Bool := (List.range l.length).map fun k => (foldP c (l.take (k + 1))).up
theorem foldP_snoc (c : PC) (l : List Bool) (b : Bool) : foldP c (l ++ [b]) = stepP c (foldP c l) b := by simp [foldP, List.foldl_append]
theorem take_snoc {l : List Bool} {k : Nat} {b : Bool} (h : l[k]? = some b) : l.take (k + 1) = l.take k ++ [b] := by
  rw [List.take_add_one, h]; rfl
theorem upsP_take {c : PC} {l : List Bool} {k : Nat} {b : Bool} (h : l[k]? = some b) : upsP c (l.take (k + 1)) = upsP c (l.take k) ++ [(foldP c (l.take (k + 1))).up] := by
  have hk : k < l.length := (List.getElem?_eq_some_iff.1 h).1
  unfold upsP
  rw [List.length_take, List.length_take, Nat.min_eq_left (by omega), Nat.min_eq_left (by omega), List.range_succ, List.map_append]
  congr 1
  · apply List.map_congr_left
    intro j hj
    rw [List.mem_range] at hj
    rw [List.take_take, List.take_take, Nat.min_eq_left (by omega), Nat.min_eq_left (by omega)]
  · simp [List.take_take]
theorem fold_run {c : PC} (hc : mayE c 0 = 0) : ∀ (l : List Bool) (p : PP), 0 ≤ p.run → p.run ≤ 1048576 → 0 ≤ (l.foldl (stepP c) p).run ∧ (l.foldl (stepP c) p).run ≤ 1048576
  | [], _, h1, h2 => ⟨h1, h2⟩
  | b :: l, p, h1, h2 => fold_run hc l (stepP c p b) (stepP_run hc h1 h2).1 (stepP_run hc h1 h2).2
theorem foldP_run {c : PC} (hc : mayE c 0 = 0) (l : List Bool) : 0 ≤ (foldP c l).run ∧ (foldP c l).run ≤ 1048576 := fold_run hc l PP.one (by simp [PP.one]) (by simp [PP.one])
theorem run_no (c : PC) (A : Option Addr) (n cp : Nat) (w : World) (hc : chkB c = false) : Calls Try.prog 10 #[c.v, .slice A n cp] w fun e w' => e = .returned (.slice none 0 0) ∧ Up w w' := by
  have HC : Hid (∀ v, Calls Try.prog 9 #[c.v] v fun e w' => e = .returned (.int .i64 210) ∧ Up v w') := fun v => by rw [← chkE_no hc]; exact check_any c v
  clear hc
  obtain ⟨a, b, r, f⟩ := c
  simp only [PC.v] at HC ⊢
  go_enter Try.func10, Try.ntmps10
  go_wp2_with fail
  refine (HC.out _).mono ?_; rintro e w1 ⟨rfl, hb⟩
  go_wp2_with fail
  go_ret
  exact ⟨rfl, (Up.alloc _ _).trans hb⟩
theorem run_ok (c : PC) (A : Option Addr) (n cp : Nat) (l : List Bool) (w : World) (hl : VAt w w.heap.size A n (l.map .bool)) (hn : n ≤ 1000000) (hc : chkB c = true) :
    Calls Try.prog 10 #[c.v, .slice A n cp] w fun e w' => ∃ A' c', e = .returned (.slice A' n c') ∧ w'.ownsRow w.heap.size 4 1 (.slice A' n c') n ((upsP c l).map .bool) ∧ Up w w' := by
  have HC : Hid (∀ v, Calls Try.prog 9 #[c.v] v fun e w' => e = .returned (.int .i64 0) ∧ Up v w') := fun v => by rw [← chkE_ok hc]; exact check_any c v
  have hm : Hid (mayE c 0 = 0) := by simp [Hid, mayE, hc, timeB]
  clear hc
  have HS := Lib.hid (fun p well gp gc w h1 h2 hp hcc => step_any c p well gp gc w hm.out h1 h2 hp hcc)
  have HR := Lib.hid (foldP_run hm.out)
  have HT := Lib.hid (fun k b => upsP_take (c := c) (l := l) (k := k) (b := b))
  have HF := Lib.hid (fun k b h => show foldP c (l.take (k + 1)) = stepP c (foldP c (l.take k)) b by rw [take_snoc h, foldP_snoc])
  have hll : l.length = n := by simpa using hl.len
  obtain ⟨i0, hi, hz0, hz1, hz2⟩ := info_parts Try.info4
  obtain ⟨W, hW⟩ : ∃ W, W = w.alloc (.cells #[.int .i64 c.every, .int .i64 c.wait, .int .i64 c.rise, .int .i64 c.fall] 23) := ⟨_, rfl⟩
  have Bc : Blk W w.heap.size 23 #[.int .i64 c.every, .int .i64 c.wait, .int .i64 c.rise, .int .i64 c.fall] := by subst hW; exact Blk.new _ _ _
  have hUW : Up w W := by subst hW; exact Up.alloc _ _
  have HW := Lib.hid hW
  clear hW
  simp only [PC.v] at HC ⊢
  go_enter Try.func10, Try.ntmps10
  go_wp2_with fail
  rw [← HW.out]
  refine (HC.out W).mono ?_; rintro e w1 ⟨rfl, h1⟩
  replace Bc := Bc.up h1
  replace hUW := hUW.trans h1
  clear h1
  go_wp2_with fail
  refine (new_any w1).mono ?_; rintro e w2 ⟨rfl, h2⟩
  replace Bc := Bc.up h2
  replace hUW := hUW.trans h2
  clear h2
  go_wp2_with fail
  obtain ⟨W3, hW3⟩ : ∃ W3, W3 = w2.alloc (.cells #[.bool true, .int .i64 0, .int .i64 0, .bool false, .int .i64 0] 32) := ⟨_, rfl⟩
  have Bp : Blk W3 w2.heap.size 32 #[.bool true, .int .i64 0, .int .i64 0, .bool false, .int .i64 0] := by subst hW3; exact Blk.new _ _ _
  have hcl := Bc.lt
  replace Bc : Blk W3 w.heap.size 23 #[.int .i64 c.every, .int .i64 c.wait, .int .i64 c.rise, .int .i64 c.fall] := by subst hW3; exact Bc.alloc _
  have hU3 : Up w W3 := by subst hW3; exact hUW.new _
  have hs3 : W3.heap.size = w2.heap.size + 1 := by subst hW3; simp
  rw [← hW3]
  have HS3 := Lib.hid hs3
  have hs3' : w2.heap.size < W3.heap.size := by omega
  have hws := hUW.size
  clear hW3 hs3 hUW
  go_loopw [7, 17] (fun o i wr => ∃ (k : Nat) (A' : Option Addr) (c' : Nat), k ≤ n ∧ i = .int .i64 k ∧ o = .slice A' k c' ∧ Below w.heap.size w wr ∧ W3.heap.size ≤ wr.heap.size ∧ wr.ownsRow W3.heap.size 4 1 (.slice A' k c') k ((upsP c (l.take k)).map .bool) ∧
      Blk wr w.heap.size 23 #[.int .i64 c.every, .int .i64 c.wait, .int .i64 c.rise, .int .i64 c.fall] ∧
      Blk wr w2.heap.size 32 #[.bool (foldP c (l.take k)).up, .int .i64 (foldP c (l.take k)).run, .int .i64 (foldP c (l.take k)).next, .bool (foldP c (l.take k)).out, .int .i64 (foldP c (l.take k)).since]) (fun _ i _ => n - (intOf i).toNat)
  case atStart => exact ⟨0, none, 0, by omega, rfl, rfl, hU3, Nat.le_refl _, World.ownsRow_nil _ _ _ _, Bc, Bp⟩
  case round =>
    obtain ⟨k, A', c', hk, rfl, rfl, hb, hsz, hown, Cc, Cp⟩ := hrel
    by_cases hlt : k < n
    · obtain ⟨g, o, v, rfl, hg, hv, hcell⟩ := (hl.below hb (Nat.le_refl _)).cell hlt
      obtain ⟨b, hb2, rfl⟩ : ∃ b, l[k]? = some b ∧ Value.bool b = v := by
        rw [List.getElem?_map] at hv
        cases h : l[k]? with
        | none => rw [h] at hv; cases hv
        | some b => rw [h] at hv; exact ⟨b, rfl, by injection hv⟩
      have HB2 := Lib.hid hb2
      clear hb2 hv Bc Bp
      have hFk := Lib.hid (HF.out k b HB2.out)
      have hTk := Lib.hid (HT.out k b HB2.out)
      have hRk := Lib.hid (HR.out (l.take k))
      obtain ⟨q, hq⟩ : ∃ q, q = foldP c (l.take k) := ⟨_, rfl⟩
      rw [← hq] at hFk hRk Cp
      have HQ := Lib.hid hq
      obtain ⟨ups, hups⟩ : ∃ ups, ups = (upsP c (l.take k)).map Value.bool := ⟨_, rfl⟩
      rw [← hups] at hown
      have HUPS := Lib.hid hups
      have HOWN := Lib.hid hown
      have HBEL := Lib.hid hb
      clear hq hups hown hb hl
      go_wp2_with fail
      refine (HS.out q b _ _ wr hRk.out.1 hRk.out.2 Cp Cc).mono ?_; rintro e w4 ⟨rfl, hg4, Cp4⟩
      have hb4 := Below.grow HBEL.out hg4 (by omega) (by omega)
      have hown4 := ownsRow_grow HOWN.out hg4 hs3'
      have Cc4 := Cc.grow hg4 (by omega)
      have hz4 := hg4.size
      clear Cp Cc hg4
      have hnk : k + 1 ≤ 1000000000000 := by omega
      go_wp2_with (at_builtin; refine wpList_append1 _ rfl _ _ 24 rfl W3.heap.size 4 i0 (.bool false) 1 1 Try.underlying24 hi hz0 hz1 hz2 rfl (by decide) (by decide) A' k c' _ rfl (hown4.alloc _) w4.heap.size 1 [.bool (stepP c q b).up] rfl rfl (Blk.new _ _ _) ?_ hnk ?_ ?_)
      · simp [Value.oneCell']
      · simp; omega
      · intro A2 c2 w6 hown6 hg6
        have hb6 := below_append (hb4.alloc (by omega) _) (hown4.alloc _) hg6 (by omega) (by simp; omega)
        have Cc6 := blk_append (Cc4.alloc _) (hown4.alloc _) hg6 (by omega)
        have Cp6 := blk_append (Cp4.alloc _) (hown4.alloc _) hg6 hs3'
        have hz6 : W3.heap.size ≤ w6.heap.size := by have := hg6.size; simp at this; omega
        clear hg6 hown4 hb4 Cc4 Cp4
        have HO6 := Lib.hid hown6
        have HB6 := Lib.hid hb6
        clear hown6 hb6
        go_wp2_with fail
        go_roundw
        case rel =>
          refine ⟨k + 1, A2, c2, by omega, by go_num, rfl, HB6.out, hz6, ?_, Cc6, ?_⟩
          · rw [hTk.out, List.map_append, ← HUPS.out, hFk.out]
            exact HO6.out
          · rw [hFk.out]
            exact Cp6
        case measure => simp [intOf]; omega
    · have HOWN := Lib.hid hown
      have HBEL := Lib.hid hb
      have hkn : k = n := by omega
      have HKN := Lib.hid hkn
      clear hown hb Cc Cp hkn
      go_wp2_with fail
      go_ret
      refine ⟨A', c', ?_, ?_, HBEL.out⟩
      · rw [← HKN.out]; rfl
      · have := HOWN.out
        rw [HKN.out, List.take_of_length_le (by omega)] at this
        exact ownsRow_mono this (by omega)
end Go.Proofs.Ytbmgigbcilgieaa
