/- Pool: Check as a function of the data. Pool: the pools as a function of the data. Pool: Config as a function of the data. -/
import Derived.Test.YtkdalfdfepipiaaP12
import Derived.KernelRfl
import Derived.Test.YtkdalfdfepipiaaBB
namespace Go.Proofs.Ytkdalfdfepipiaa
section
open Go.RowKit
set_option linter.unusedSimpArgs false
set_option linter.unusedVariables false
set_option linter.unusedSectionVars false
set_option maxRecDepth 100000
variable [Inhabited RawG]
/-- What the backends of a pool make Check answer: the first one that is not as it should be. -/
noncomputable def bksE (bk : List (ByteArray × Nat)) : Int :=
  @dite Int (∃ x, x < bk.length ∧ ¬ okB bk x ∧ ∀ y, y < x → okB bk y) (Classical.propDecidable _) (fun h => @ite Int (nameE (bk.getD (Classical.choose h) default).1 = 0 ∧ (bk.getD (Classical.choose h) default).1 ∉ (bk.take (Classical.choose h)).map (·.1)) (Classical.propDecidable _) (scoreE (bk.getD (Classical.choose h) default).2) 250) (fun _ => 0)
theorem bksE_ok {bk : List (ByteArray × Nat)} (h : ∀ x, x < bk.length → okB bk x) : bksE bk = 0 := by
  unfold bksE
  exact dif_neg fun ⟨x, hx, hb, _⟩ => hb (h x hx)
theorem bksE_bad {bk : List (ByteArray × Nat)} {x : Nat} (hx : x < bk.length) (hb : ¬ okB bk x) (hok : ∀ y, y < x → okB bk y) : bksE bk = @ite Int (nameE (bk.getD x default).1 = 0 ∧ (bk.getD x default).1 ∉ (bk.take x).map (·.1)) (Classical.propDecidable _) (scoreE (bk.getD x default).2) 250 := by
  have h : ∃ x, x < bk.length ∧ ¬ okB bk x ∧ ∀ y, y < x → okB bk y := ⟨x, hx, hb, hok⟩
  have hc := Classical.choose_spec h
  have e : Classical.choose h = x := by
    rcases Nat.lt_trichotomy (Classical.choose h) x with h1 | h1 | h1
    · exact absurd (hok _ h1) hc.2.1
    · exact h1
    · exact absurd (hc.2.2 x h1) hb
  unfold bksE
  rw [dif_pos h, e]
theorem bksE_ne {bk : List (ByteArray × Nat)} {x : Nat} (hx : x < bk.length) (hb : ¬ okB bk x) (hok : ∀ y, y < x → okB bk y) : bksE bk ≠ 0 := by
  rw [bksE_bad hx hb hok]
  by_cases h : nameE (bk.getD x default).1 = 0 ∧ (bk.getD x default).1 ∉ (bk.take x).map (·.1)
  · rw [if_pos h]
    exact fun h3 => hb ⟨h.1, h.2, h3⟩
  · rw [if_neg h]; decide
theorem bksE_iff {bk : List (ByteArray × Nat)} : bksE bk = 0 ↔ ∀ x, x < bk.length → okB bk x := by
  refine ⟨fun h => Classical.byContradiction fun hn => ?_, bksE_ok⟩
  obtain ⟨x, hx, hb, hok⟩ := first_badP hn
  exact bksE_ne hx hb hok h
theorem ckr_v {ih ib : Nat} {nm : ByteArray} {hs : List ByteArray} {bk : List (ByteArray × Nat)} {po b1 b2 b3 b4 e1 e2 e3 e4 p1 p2 p3 p4 : Int} (hB : rg.cells ib = bk.flatMap bkV) (h64 : bk.length ≤ 64) (hz : ∀ b ∈ bk, b.1.size ≤ 9000000000000) {x : Nat} (hx : x < bk.length) (hb : ¬ okB bk x) (hok : ∀ y, y < x → okB bk y) : LoopOK Try.prog (loopN Try.prog 21 0) (mkF [(1, .pointer (some ⟨0, 0, none⟩)), (5, .map (some 1536)), (33, .slice (some ⟨ib, 0, some 2⟩) bk.length 0), (34, .int .i64 (bk.length : Int)), (35, .int .i64 ((0 : Nat) : Int))] 67 0) [(0, ⟨46, [.string nm, .slice (some ⟨ih, 0, some 2⟩) hs.length 0, .slice (some ⟨ib, 0, some 2⟩) bk.length 0, .int .i64 po, .int .i64 b1, .int .i64 b2, .int .i64 b3, .int .i64 b4, .int .i64 e1, .int .i64 e2, .int .i64 e3, .int .i64 e4, .int .i64 p1, .int .i64 p2, .int .i64 p3, .int .i64 p4], 0⟩), (1536, ⟨86, [], 4⟩)] 1920 ⟨.ret, mkF [(2, .int .i64 (bksE bk))] 67 0, [], 1984, []⟩ := by
  have hm : (bk.getD x default) ∈ bk := by rw [List.getD_eq_getElem?_getD, List.getElem?_eq_getElem hx]; exact List.getElem_mem hx
  have key : ∀ v : Int, RoundTo Try.prog callC 10 100 (loopN Try.prog 21 0) 1920 1921 [2] .ret (mkF [(1, .pointer (some ⟨0, 0, none⟩)), (5, .map (some 1536)), (33, .slice (some ⟨ib, 0, some 2⟩) bk.length 0), (34, .int .i64 (bk.length : Int)), (35, .int .i64 (x : Int))] 67 0) [(0, ⟨46, [.string nm, .slice (some ⟨ih, 0, some 2⟩) hs.length 0, .slice (some ⟨ib, 0, some 2⟩) bk.length 0, .int .i64 po, .int .i64 b1, .int .i64 b2, .int .i64 b3, .int .i64 b4, .int .i64 e1, .int .i64 e2, .int .i64 e3, .int .i64 e4, .int .i64 p1, .int .i64 p2, .int .i64 p3, .int .i64 p4], 0⟩), (1536, ⟨86, mapV (onceV ((bk.take x).map (·.1))), 4⟩)] (mkF [(2, .int .i64 v)] 67 0) [] 1984 → LoopOK Try.prog (loopN Try.prog 21 0) (mkF [(1, .pointer (some ⟨0, 0, none⟩)), (5, .map (some 1536)), (33, .slice (some ⟨ib, 0, some 2⟩) bk.length 0), (34, .int .i64 (bk.length : Int)), (35, .int .i64 ((0 : Nat) : Int))] 67 0) [(0, ⟨46, [.string nm, .slice (some ⟨ih, 0, some 2⟩) hs.length 0, .slice (some ⟨ib, 0, some 2⟩) bk.length 0, .int .i64 po, .int .i64 b1, .int .i64 b2, .int .i64 b3, .int .i64 b4, .int .i64 e1, .int .i64 e2, .int .i64 e3, .int .i64 e4, .int .i64 p1, .int .i64 p2, .int .i64 p3, .int .i64 p4], 0⟩), (1536, ⟨86, [], 4⟩)] 1920 ⟨.ret, mkF [(2, .int .i64 v)] 67 0, [], 1984, []⟩ := fun v hv => by
    refine loop_ind callC_spec mixed (LF := 10) (F := 100) (nxb := 1921) (keys := [1, 5, 33, 34, 35]) (keysE := [2]) x (fun x => mkF [(1, .pointer (some ⟨0, 0, none⟩)), (5, .map (some 1536)), (33, .slice (some ⟨ib, 0, some 2⟩) bk.length 0), (34, .int .i64 (bk.length : Int)), (35, .int .i64 (x : Int))] 67 0) (fun x => [(0, ⟨46, [.string nm, .slice (some ⟨ih, 0, some 2⟩) hs.length 0, .slice (some ⟨ib, 0, some 2⟩) bk.length 0, .int .i64 po, .int .i64 b1, .int .i64 b2, .int .i64 b3, .int .i64 b4, .int .i64 e1, .int .i64 e2, .int .i64 e3, .int .i64 e4, .int .i64 p1, .int .i64 p2, .int .i64 p3, .int .i64 p4], 0⟩), (1536, ⟨86, mapV (onceV ((bk.take x).map (·.1))), 4⟩)]) (by decide) (by simp) rfl ?_ ?_ (fun h => by cases h)
    · intro y hy
      exact ck_step hB h64 hz (by omega) (hok y hy)
    · exact hv
  rw [bksE_bad hx hb hok]
  by_cases h1 : nameE (bk.getD x default).1 = 0
  · by_cases h2 : (bk.getD x default).1 ∈ (bk.take x).map (·.1)
    · obtain ⟨j, hj⟩ := once_some h2
      rw [if_neg (fun h => h.2 h2)]
      exact key _ (ck_a hB h64 hx (hz _ hm) h1 hj)
    · by_cases h3 : scoreE (bk.getD x default).2 = 0
      · exact absurd ⟨h1, h2, h3⟩ hb
      · rw [if_pos ⟨h1, h2⟩]
        exact key _ (ck_s (j := 0) hB h64 hx (hz _ hm) h1 (once_none h2) h3)
  · rw [if_neg (fun h => h1 h.1)]
    exact key _ (ck_n (j := 0) hB h64 hx (hz _ hm) h1)
/-- What Check answers. -/
def checkV (n h : Int) (len : Int) (bv po hc : Int) : Int := bif n != 0 then n else bif h != 0 then h else bif decide (len < 1) then 250 else bif decide (len > 64) then 250 else bif bv != 0 then bv else bif decide (po < 1) then 250 else bif decide (po > 3) then 250 else hc
theorem chv_1 {ih ib : Nat} {nm : ByteArray} {hs : List ByteArray} {bk : List (ByteArray × Nat)} {po b1 b2 b3 b4 e1 e2 e3 e4 p1 p2 p3 p4 : Int} (hA : rg.cells ih = hs.map Value.string) (hn : nm.size ≤ 9000000000000) (hh : ∀ h ∈ hs, h.size ≤ 9000000000000) (u1 : nameE nm ≠ 0) : CallOK Try.prog 21 [.agg #[.string nm, .slice (some ⟨ih, 0, some 2⟩) hs.length 0, .slice (some ⟨ib, 0, some 2⟩) bk.length 0, .int .i64 po, .int .i64 b1, .int .i64 b2, .int .i64 b3, .int .i64 b4, .int .i64 e1, .int .i64 e2, .int .i64 e3, .int .i64 e4, .int .i64 p1, .int .i64 p2, .int .i64 p3, .int .i64 p4]] [] 0 (.int .i64 (checkV (nameE nm) (hostsE hs) (bk.length : Int) (bksE bk) po (hchE b1 b2 b3 b4 e1 e2 e3 e4 p1 p2 p3 p4))) [] := by
  have k0 : (nameE nm != 0) = true := (bne_iff_ne.2 u1)
  have hv : (Value.int .i64 (checkV (nameE nm) (hostsE hs) (bk.length : Int) (bksE bk) po (hchE b1 b2 b3 b4 e1 e2 e3 e4 p1 p2 p3 p4))) = Value.int IntKind.i64 (nameE nm) := by simp only [checkV, k0, cond_true, cond_false]
  rw [hv]
  exact callOK_keep (call := callC) [] callC_spec mixed (ω := [(256, OV.call (Value.int IntKind.i64 (nameE nm)) []), (448, OV.soft (Value.bool true))]) (LF := 10) (F := 100) (H1 := []) (ps := [CallOK Try.prog 19 [Value.string nm] [] 0 (Value.int IntKind.i64 (nameE nm)) [], (nameE nm != 0) = true]) (by kernel_rfl) (ob_cons (name_ok hn) (ob_cons k0 ob_nil))

theorem chv_2 {ih ib : Nat} {nm : ByteArray} {hs : List ByteArray} {bk : List (ByteArray × Nat)} {po b1 b2 b3 b4 e1 e2 e3 e4 p1 p2 p3 p4 : Int} (hA : rg.cells ih = hs.map Value.string) (hn : nm.size ≤ 9000000000000) (hh : ∀ h ∈ hs, h.size ≤ 9000000000000) (u1 : nameE nm = 0) (u2 : hostsE hs ≠ 0) : CallOK Try.prog 21 [.agg #[.string nm, .slice (some ⟨ih, 0, some 2⟩) hs.length 0, .slice (some ⟨ib, 0, some 2⟩) bk.length 0, .int .i64 po, .int .i64 b1, .int .i64 b2, .int .i64 b3, .int .i64 b4, .int .i64 e1, .int .i64 e2, .int .i64 e3, .int .i64 e4, .int .i64 p1, .int .i64 p2, .int .i64 p3, .int .i64 p4]] [] 0 (.int .i64 (checkV (nameE nm) (hostsE hs) (bk.length : Int) (bksE bk) po (hchE b1 b2 b3 b4 e1 e2 e3 e4 p1 p2 p3 p4))) [] := by
  have k0 : (nameE nm != 0) = false := (by rw [u1]; rfl)
  have k1 : (hostsE hs != 0) = true := (bne_iff_ne.2 u2)
  have hv : (Value.int .i64 (checkV (nameE nm) (hostsE hs) (bk.length : Int) (bksE bk) po (hchE b1 b2 b3 b4 e1 e2 e3 e4 p1 p2 p3 p4))) = Value.int IntKind.i64 (hostsE hs) := by simp only [checkV, k0, k1, cond_true, cond_false]
  rw [hv]
  exact callOK_keep (call := callC) [] callC_spec mixed (ω := [(256, OV.call (Value.int IntKind.i64 (nameE nm)) []), (448, OV.soft (Value.bool false)), (640, OV.call (Value.int IntKind.i64 (hostsE hs)) []), (832, OV.soft (Value.bool true))]) (LF := 10) (F := 100) (H1 := []) (ps := [CallOK Try.prog 19 [Value.string nm] [] 0 (Value.int IntKind.i64 (nameE nm)) [], (nameE nm != 0) = false, CallOK Try.prog 44 [Value.slice (some { block := ih, off := 0, spot := some 2 }) hs.length 0] [] 0 (Value.int IntKind.i64 (hostsE hs)) [], (hostsE hs != 0) = true]) (by kernel_rfl) (ob_cons (name_ok hn) (ob_cons k0 (ob_cons (hosts_ok hA hh) (ob_cons k1 ob_nil))))

theorem chv_3 {ih ib : Nat} {nm : ByteArray} {hs : List ByteArray} {bk : List (ByteArray × Nat)} {po b1 b2 b3 b4 e1 e2 e3 e4 p1 p2 p3 p4 : Int} (hA : rg.cells ih = hs.map Value.string) (hn : nm.size ≤ 9000000000000) (hh : ∀ h ∈ hs, h.size ≤ 9000000000000) (u1 : nameE nm = 0) (u2 : hostsE hs = 0) (u3 : (bk.length : Int) < 1) : CallOK Try.prog 21 [.agg #[.string nm, .slice (some ⟨ih, 0, some 2⟩) hs.length 0, .slice (some ⟨ib, 0, some 2⟩) bk.length 0, .int .i64 po, .int .i64 b1, .int .i64 b2, .int .i64 b3, .int .i64 b4, .int .i64 e1, .int .i64 e2, .int .i64 e3, .int .i64 e4, .int .i64 p1, .int .i64 p2, .int .i64 p3, .int .i64 p4]] [] 0 (.int .i64 (checkV (nameE nm) (hostsE hs) (bk.length : Int) (bksE bk) po (hchE b1 b2 b3 b4 e1 e2 e3 e4 p1 p2 p3 p4))) [] := by
  have k0 : (nameE nm != 0) = false := (by rw [u1]; rfl)
  have k1 : (hostsE hs != 0) = false := (by rw [u2]; rfl)
  have k2 : (decide ((↑bk.length : Int) < 1)) = true := (decide_eq_true u3)
  have hv : (Value.int .i64 (checkV (nameE nm) (hostsE hs) (bk.length : Int) (bksE bk) po (hchE b1 b2 b3 b4 e1 e2 e3 e4 p1 p2 p3 p4))) = Value.int IntKind.i64 250 := by simp only [checkV, k0, k1, k2, cond_true, cond_false]
  rw [hv]
  exact callOK_keep (call := callC) [] callC_spec mixed (ω := [(256, OV.call (Value.int IntKind.i64 (nameE nm)) []), (448, OV.soft (Value.bool false)), (640, OV.call (Value.int IntKind.i64 (hostsE hs)) []), (832, OV.soft (Value.bool false)), (1152, OV.soft (Value.bool true))]) (LF := 10) (F := 100) (H1 := []) (ps := [CallOK Try.prog 19 [Value.string nm] [] 0 (Value.int IntKind.i64 (nameE nm)) [], (nameE nm != 0) = false, CallOK Try.prog 44 [Value.slice (some { block := ih, off := 0, spot := some 2 }) hs.length 0] [] 0 (Value.int IntKind.i64 (hostsE hs)) [], (hostsE hs != 0) = false, decide ((↑bk.length : Int) < 1) = true]) (by kernel_rfl) (ob_cons (name_ok hn) (ob_cons k0 (ob_cons (hosts_ok hA hh) (ob_cons k1 (ob_cons k2 ob_nil)))))

theorem chv_4 {ih ib : Nat} {nm : ByteArray} {hs : List ByteArray} {bk : List (ByteArray × Nat)} {po b1 b2 b3 b4 e1 e2 e3 e4 p1 p2 p3 p4 : Int} (hA : rg.cells ih = hs.map Value.string) (hn : nm.size ≤ 9000000000000) (hh : ∀ h ∈ hs, h.size ≤ 9000000000000) (u1 : nameE nm = 0) (u2 : hostsE hs = 0) (u3 : ¬ (bk.length : Int) < 1) (u4 : (bk.length : Int) > 64) : CallOK Try.prog 21 [.agg #[.string nm, .slice (some ⟨ih, 0, some 2⟩) hs.length 0, .slice (some ⟨ib, 0, some 2⟩) bk.length 0, .int .i64 po, .int .i64 b1, .int .i64 b2, .int .i64 b3, .int .i64 b4, .int .i64 e1, .int .i64 e2, .int .i64 e3, .int .i64 e4, .int .i64 p1, .int .i64 p2, .int .i64 p3, .int .i64 p4]] [] 0 (.int .i64 (checkV (nameE nm) (hostsE hs) (bk.length : Int) (bksE bk) po (hchE b1 b2 b3 b4 e1 e2 e3 e4 p1 p2 p3 p4))) [] := by
  have k0 : (nameE nm != 0) = false := (by rw [u1]; rfl)
  have k1 : (hostsE hs != 0) = false := (by rw [u2]; rfl)
  have k2 : (decide ((↑bk.length : Int) < 1)) = false := (decide_eq_false u3)
  have k3 : (decide ((↑bk.length : Int) > 64)) = true := (decide_eq_true u4)
  have hv : (Value.int .i64 (checkV (nameE nm) (hostsE hs) (bk.length : Int) (bksE bk) po (hchE b1 b2 b3 b4 e1 e2 e3 e4 p1 p2 p3 p4))) = Value.int IntKind.i64 250 := by simp only [checkV, k0, k1, k2, k3, cond_true, cond_false]
  rw [hv]
  exact callOK_keep (call := callC) [] callC_spec mixed (ω := [(256, OV.call (Value.int IntKind.i64 (nameE nm)) []), (448, OV.soft (Value.bool false)), (640, OV.call (Value.int IntKind.i64 (hostsE hs)) []), (832, OV.soft (Value.bool false)), (1152, OV.soft (Value.bool false)), (1472, OV.soft (Value.bool true))]) (LF := 10) (F := 100) (H1 := []) (ps := [CallOK Try.prog 19 [Value.string nm] [] 0 (Value.int IntKind.i64 (nameE nm)) [], (nameE nm != 0) = false, CallOK Try.prog 44 [Value.slice (some { block := ih, off := 0, spot := some 2 }) hs.length 0] [] 0 (Value.int IntKind.i64 (hostsE hs)) [], (hostsE hs != 0) = false, decide ((↑bk.length : Int) < 1) = false, decide ((↑bk.length : Int) > 64) = true]) (by kernel_rfl) (ob_cons (name_ok hn) (ob_cons k0 (ob_cons (hosts_ok hA hh) (ob_cons k1 (ob_cons k2 (ob_cons k3 ob_nil))))))

theorem chv_5 {ih ib : Nat} {nm : ByteArray} {hs : List ByteArray} {bk : List (ByteArray × Nat)} {po b1 b2 b3 b4 e1 e2 e3 e4 p1 p2 p3 p4 : Int} {v : Int} (hA : rg.cells ih = hs.map Value.string) (hn : nm.size ≤ 9000000000000) (hh : ∀ h ∈ hs, h.size ≤ 9000000000000) (u1 : nameE nm = 0) (u2 : hostsE hs = 0) (u3 : ¬ (bk.length : Int) < 1) (u4 : ¬ (bk.length : Int) > 64) (hbv : (v != 0) = true) (hL : LoopOK Try.prog (loopN Try.prog 21 0) (mkF [(1, .pointer (some ⟨0, 0, none⟩)), (5, .map (some 1536)), (33, .slice (some ⟨ib, 0, some 2⟩) bk.length 0), (34, .int .i64 (bk.length : Int)), (35, .int .i64 ((0 : Nat) : Int))] 67 0) [(0, ⟨46, [.string nm, .slice (some ⟨ih, 0, some 2⟩) hs.length 0, .slice (some ⟨ib, 0, some 2⟩) bk.length 0, .int .i64 po, .int .i64 b1, .int .i64 b2, .int .i64 b3, .int .i64 b4, .int .i64 e1, .int .i64 e2, .int .i64 e3, .int .i64 e4, .int .i64 p1, .int .i64 p2, .int .i64 p3, .int .i64 p4], 0⟩), (1536, ⟨86, [], 4⟩)] 1920 ⟨.ret, mkF [(2, .int .i64 v)] 67 0, [], 1984, []⟩) : CallOK Try.prog 21 [.agg #[.string nm, .slice (some ⟨ih, 0, some 2⟩) hs.length 0, .slice (some ⟨ib, 0, some 2⟩) bk.length 0, .int .i64 po, .int .i64 b1, .int .i64 b2, .int .i64 b3, .int .i64 b4, .int .i64 e1, .int .i64 e2, .int .i64 e3, .int .i64 e4, .int .i64 p1, .int .i64 p2, .int .i64 p3, .int .i64 p4]] [] 0 (.int .i64 (checkV (nameE nm) (hostsE hs) (bk.length : Int) v po (hchE b1 b2 b3 b4 e1 e2 e3 e4 p1 p2 p3 p4))) [] := by
  have k0 : (nameE nm != 0) = false := (by rw [u1]; rfl)
  have k1 : (hostsE hs != 0) = false := (by rw [u2]; rfl)
  have k2 : (decide ((↑bk.length : Int) < 1)) = false := (decide_eq_false u3)
  have k3 : (decide ((↑bk.length : Int) > 64)) = false := (decide_eq_false u4)
  have hv : (Value.int .i64 (checkV (nameE nm) (hostsE hs) (bk.length : Int) v po (hchE b1 b2 b3 b4 e1 e2 e3 e4 p1 p2 p3 p4))) = Value.int IntKind.i64 v := by simp only [checkV, k0, k1, k2, k3, hbv, cond_true, cond_false]
  rw [hv]
  exact callOK_keep (call := callC) [] callC_spec mixed (ω := [(256, OV.call (Value.int IntKind.i64 (nameE nm)) []), (448, OV.soft (Value.bool false)), (640, OV.call (Value.int IntKind.i64 (hostsE hs)) []), (832, OV.soft (Value.bool false)), (1152, OV.soft (Value.bool false)), (1472, OV.soft (Value.bool false)), (1921, OV.loop [1, 5, 33, 34, 35] AX.ret (mkF [(2, Value.int IntKind.i64 v)] 67 0) [] 1984)]) (LF := 10) (F := 100) (H1 := []) (ps := [CallOK Try.prog 19 [Value.string nm] [] 0 (Value.int IntKind.i64 (nameE nm)) [], (nameE nm != 0) = false, CallOK Try.prog 44 [Value.slice (some { block := ih, off := 0, spot := some 2 }) hs.length 0] [] 0 (Value.int IntKind.i64 (hostsE hs)) [], (hostsE hs != 0) = false, decide ((↑bk.length : Int) < 1) = false, decide ((↑bk.length : Int) > 64) = false, LoopOK Try.prog (loopN Try.prog 21 0) (mkF [(1, .pointer (some ⟨0, 0, none⟩)), (5, .map (some 1536)), (33, .slice (some ⟨ib, 0, some 2⟩) bk.length 0), (34, .int .i64 (bk.length : Int)), (35, .int .i64 ((0 : Nat) : Int))] 67 0) [(0, ⟨46, [.string nm, .slice (some ⟨ih, 0, some 2⟩) hs.length 0, .slice (some ⟨ib, 0, some 2⟩) bk.length 0, .int .i64 po, .int .i64 b1, .int .i64 b2, .int .i64 b3, .int .i64 b4, .int .i64 e1, .int .i64 e2, .int .i64 e3, .int .i64 e4, .int .i64 p1, .int .i64 p2, .int .i64 p3, .int .i64 p4], 0⟩), (1536, ⟨86, [], 4⟩)] 1920 ⟨.ret, mkF [(2, .int .i64 v)] 67 0, [], 1984, []⟩]) (by kernel_rfl) (ob_cons (name_ok hn) (ob_cons k0 (ob_cons (hosts_ok hA hh) (ob_cons k1 (ob_cons k2 (ob_cons k3 (ob_cons hL ob_nil)))))))

theorem chv_6 {ih ib : Nat} {nm : ByteArray} {hs : List ByteArray} {bk : List (ByteArray × Nat)} {po b1 b2 b3 b4 e1 e2 e3 e4 p1 p2 p3 p4 : Int} {v : Int} (hA : rg.cells ih = hs.map Value.string) (hn : nm.size ≤ 9000000000000) (hh : ∀ h ∈ hs, h.size ≤ 9000000000000) (u1 : nameE nm = 0) (u2 : hostsE hs = 0) (u3 : ¬ (bk.length : Int) < 1) (u4 : ¬ (bk.length : Int) > 64) (hbv : (v != 0) = false) (hL : LoopOK Try.prog (loopN Try.prog 21 0) (mkF [(1, .pointer (some ⟨0, 0, none⟩)), (5, .map (some 1536)), (33, .slice (some ⟨ib, 0, some 2⟩) bk.length 0), (34, .int .i64 (bk.length : Int)), (35, .int .i64 ((0 : Nat) : Int))] 67 0) [(0, ⟨46, [.string nm, .slice (some ⟨ih, 0, some 2⟩) hs.length 0, .slice (some ⟨ib, 0, some 2⟩) bk.length 0, .int .i64 po, .int .i64 b1, .int .i64 b2, .int .i64 b3, .int .i64 b4, .int .i64 e1, .int .i64 e2, .int .i64 e3, .int .i64 e4, .int .i64 p1, .int .i64 p2, .int .i64 p3, .int .i64 p4], 0⟩), (1536, ⟨86, [], 4⟩)] 1920 ⟨.exit 0, mkF [(1, .pointer (some ⟨0, 0, none⟩))] 67 0, [(0, ⟨46, [.string nm, .slice (some ⟨ih, 0, some 2⟩) hs.length 0, .slice (some ⟨ib, 0, some 2⟩) bk.length 0, .int .i64 po, .int .i64 b1, .int .i64 b2, .int .i64 b3, .int .i64 b4, .int .i64 e1, .int .i64 e2, .int .i64 e3, .int .i64 e4, .int .i64 p1, .int .i64 p2, .int .i64 p3, .int .i64 p4], 0⟩)], 1984, []⟩) : CallOK Try.prog 21 [.agg #[.string nm, .slice (some ⟨ih, 0, some 2⟩) hs.length 0, .slice (some ⟨ib, 0, some 2⟩) bk.length 0, .int .i64 po, .int .i64 b1, .int .i64 b2, .int .i64 b3, .int .i64 b4, .int .i64 e1, .int .i64 e2, .int .i64 e3, .int .i64 e4, .int .i64 p1, .int .i64 p2, .int .i64 p3, .int .i64 p4]] [] 0 (.int .i64 (checkV (nameE nm) (hostsE hs) (bk.length : Int) v po (hchE b1 b2 b3 b4 e1 e2 e3 e4 p1 p2 p3 p4))) [] := by
  have k0 : (nameE nm != 0) = false := (by rw [u1]; rfl)
  have k1 : (hostsE hs != 0) = false := (by rw [u2]; rfl)
  have k2 : (decide ((↑bk.length : Int) < 1)) = false := (decide_eq_false u3)
  have k3 : (decide ((↑bk.length : Int) > 64)) = false := (decide_eq_false u4)
  rcases Bool.eq_false_or_eq_true (decide (po < 1)) with h4 | h4
  · have hv : (Value.int .i64 (checkV (nameE nm) (hostsE hs) (bk.length : Int) v po (hchE b1 b2 b3 b4 e1 e2 e3 e4 p1 p2 p3 p4))) = Value.int IntKind.i64 250 := by simp only [checkV, k0, k1, k2, k3, h4, hbv, cond_true, cond_false]
    rw [hv]
    exact callOK_keep (call := callC) [] callC_spec mixed (ω := [(256, OV.call (Value.int IntKind.i64 (nameE nm)) []), (448, OV.soft (Value.bool false)), (640, OV.call (Value.int IntKind.i64 (hostsE hs)) []), (832, OV.soft (Value.bool false)), (1152, OV.soft (Value.bool false)), (1472, OV.soft (Value.bool false)), (1921, OV.loop [1, 5, 33, 34, 35] (AX.exit 0) (mkF [(1, Value.pointer (some ⟨0, 0, none⟩))] 67 0) [(0, ⟨46, [Value.string nm, Value.slice (some { block := ih, off := 0, spot := some 2 }) hs.length 0, Value.slice (some { block := ib, off := 0, spot := some 2 }) bk.length 0, Value.int IntKind.i64 po, Value.int IntKind.i64 b1, Value.int IntKind.i64 b2, Value.int IntKind.i64 b3, Value.int IntKind.i64 b4, Value.int IntKind.i64 e1, Value.int IntKind.i64 e2, Value.int IntKind.i64 e3, Value.int IntKind.i64 e4, Value.int IntKind.i64 p1, Value.int IntKind.i64 p2, Value.int IntKind.i64 p3, Value.int IntKind.i64 p4], 0⟩)] 1984), (2176, OV.soft (Value.bool true))]) (LF := 10) (F := 100) (H1 := []) (ps := [CallOK Try.prog 19 [Value.string nm] [] 0 (Value.int IntKind.i64 (nameE nm)) [], (nameE nm != 0) = false, CallOK Try.prog 44 [Value.slice (some { block := ih, off := 0, spot := some 2 }) hs.length 0] [] 0 (Value.int IntKind.i64 (hostsE hs)) [], (hostsE hs != 0) = false, decide ((↑bk.length : Int) < 1) = false, decide ((↑bk.length : Int) > 64) = false, LoopOK Try.prog (loopN Try.prog 21 0) (mkF [(1, .pointer (some ⟨0, 0, none⟩)), (5, .map (some 1536)), (33, .slice (some ⟨ib, 0, some 2⟩) bk.length 0), (34, .int .i64 (bk.length : Int)), (35, .int .i64 ((0 : Nat) : Int))] 67 0) [(0, ⟨46, [.string nm, .slice (some ⟨ih, 0, some 2⟩) hs.length 0, .slice (some ⟨ib, 0, some 2⟩) bk.length 0, .int .i64 po, .int .i64 b1, .int .i64 b2, .int .i64 b3, .int .i64 b4, .int .i64 e1, .int .i64 e2, .int .i64 e3, .int .i64 e4, .int .i64 p1, .int .i64 p2, .int .i64 p3, .int .i64 p4], 0⟩), (1536, ⟨86, [], 4⟩)] 1920 ⟨.exit 0, mkF [(1, .pointer (some ⟨0, 0, none⟩))] 67 0, [(0, ⟨46, [.string nm, .slice (some ⟨ih, 0, some 2⟩) hs.length 0, .slice (some ⟨ib, 0, some 2⟩) bk.length 0, .int .i64 po, .int .i64 b1, .int .i64 b2, .int .i64 b3, .int .i64 b4, .int .i64 e1, .int .i64 e2, .int .i64 e3, .int .i64 e4, .int .i64 p1, .int .i64 p2, .int .i64 p3, .int .i64 p4], 0⟩)], 1984, []⟩, decide (po < 1) = true]) (by kernel_rfl) (ob_cons (name_ok hn) (ob_cons k0 (ob_cons (hosts_ok hA hh) (ob_cons k1 (ob_cons k2 (ob_cons k3 (ob_cons hL (ob_cons h4 ob_nil))))))))
  · rcases Bool.eq_false_or_eq_true (decide (po > 3)) with h5 | h5
    · have hv : (Value.int .i64 (checkV (nameE nm) (hostsE hs) (bk.length : Int) v po (hchE b1 b2 b3 b4 e1 e2 e3 e4 p1 p2 p3 p4))) = Value.int IntKind.i64 250 := by simp only [checkV, k0, k1, k2, k3, h4, h5, hbv, cond_true, cond_false]
      rw [hv]
      exact callOK_keep (call := callC) [] callC_spec mixed (ω := [(256, OV.call (Value.int IntKind.i64 (nameE nm)) []), (448, OV.soft (Value.bool false)), (640, OV.call (Value.int IntKind.i64 (hostsE hs)) []), (832, OV.soft (Value.bool false)), (1152, OV.soft (Value.bool false)), (1472, OV.soft (Value.bool false)), (1921, OV.loop [1, 5, 33, 34, 35] (AX.exit 0) (mkF [(1, Value.pointer (some ⟨0, 0, none⟩))] 67 0) [(0, ⟨46, [Value.string nm, Value.slice (some { block := ih, off := 0, spot := some 2 }) hs.length 0, Value.slice (some { block := ib, off := 0, spot := some 2 }) bk.length 0, Value.int IntKind.i64 po, Value.int IntKind.i64 b1, Value.int IntKind.i64 b2, Value.int IntKind.i64 b3, Value.int IntKind.i64 b4, Value.int IntKind.i64 e1, Value.int IntKind.i64 e2, Value.int IntKind.i64 e3, Value.int IntKind.i64 e4, Value.int IntKind.i64 p1, Value.int IntKind.i64 p2, Value.int IntKind.i64 p3, Value.int IntKind.i64 p4], 0⟩)] 1984), (2176, OV.soft (Value.bool false)), (2432, OV.soft (Value.bool true))]) (LF := 10) (F := 100) (H1 := []) (ps := [CallOK Try.prog 19 [Value.string nm] [] 0 (Value.int IntKind.i64 (nameE nm)) [], (nameE nm != 0) = false, CallOK Try.prog 44 [Value.slice (some { block := ih, off := 0, spot := some 2 }) hs.length 0] [] 0 (Value.int IntKind.i64 (hostsE hs)) [], (hostsE hs != 0) = false, decide ((↑bk.length : Int) < 1) = false, decide ((↑bk.length : Int) > 64) = false, LoopOK Try.prog (loopN Try.prog 21 0) (mkF [(1, .pointer (some ⟨0, 0, none⟩)), (5, .map (some 1536)), (33, .slice (some ⟨ib, 0, some 2⟩) bk.length 0), (34, .int .i64 (bk.length : Int)), (35, .int .i64 ((0 : Nat) : Int))] 67 0) [(0, ⟨46, [.string nm, .slice (some ⟨ih, 0, some 2⟩) hs.length 0, .slice (some ⟨ib, 0, some 2⟩) bk.length 0, .int .i64 po, .int .i64 b1, .int .i64 b2, .int .i64 b3, .int .i64 b4, .int .i64 e1, .int .i64 e2, .int .i64 e3, .int .i64 e4, .int .i64 p1, .int .i64 p2, .int .i64 p3, .int .i64 p4], 0⟩), (1536, ⟨86, [], 4⟩)] 1920 ⟨.exit 0, mkF [(1, .pointer (some ⟨0, 0, none⟩))] 67 0, [(0, ⟨46, [.string nm, .slice (some ⟨ih, 0, some 2⟩) hs.length 0, .slice (some ⟨ib, 0, some 2⟩) bk.length 0, .int .i64 po, .int .i64 b1, .int .i64 b2, .int .i64 b3, .int .i64 b4, .int .i64 e1, .int .i64 e2, .int .i64 e3, .int .i64 e4, .int .i64 p1, .int .i64 p2, .int .i64 p3, .int .i64 p4], 0⟩)], 1984, []⟩, decide (po < 1) = false, decide (po > 3) = true]) (by kernel_rfl) (ob_cons (name_ok hn) (ob_cons k0 (ob_cons (hosts_ok hA hh) (ob_cons k1 (ob_cons k2 (ob_cons k3 (ob_cons hL (ob_cons h4 (ob_cons h5 ob_nil)))))))))
    · have hv : (Value.int .i64 (checkV (nameE nm) (hostsE hs) (bk.length : Int) v po (hchE b1 b2 b3 b4 e1 e2 e3 e4 p1 p2 p3 p4))) = Value.int IntKind.i64 (hchE b1 b2 b3 b4 e1 e2 e3 e4 p1 p2 p3 p4) := by simp only [checkV, k0, k1, k2, k3, h4, h5, hbv, cond_true, cond_false]
      rw [hv]
      exact callOK_keep (call := callC) [] callC_spec mixed (ω := [(256, OV.call (Value.int IntKind.i64 (nameE nm)) []), (448, OV.soft (Value.bool false)), (640, OV.call (Value.int IntKind.i64 (hostsE hs)) []), (832, OV.soft (Value.bool false)), (1152, OV.soft (Value.bool false)), (1472, OV.soft (Value.bool false)), (1921, OV.loop [1, 5, 33, 34, 35] (AX.exit 0) (mkF [(1, Value.pointer (some ⟨0, 0, none⟩))] 67 0) [(0, ⟨46, [Value.string nm, Value.slice (some { block := ih, off := 0, spot := some 2 }) hs.length 0, Value.slice (some { block := ib, off := 0, spot := some 2 }) bk.length 0, Value.int IntKind.i64 po, Value.int IntKind.i64 b1, Value.int IntKind.i64 b2, Value.int IntKind.i64 b3, Value.int IntKind.i64 b4, Value.int IntKind.i64 e1, Value.int IntKind.i64 e2, Value.int IntKind.i64 e3, Value.int IntKind.i64 e4, Value.int IntKind.i64 p1, Value.int IntKind.i64 p2, Value.int IntKind.i64 p3, Value.int IntKind.i64 p4], 0⟩)] 1984), (2176, OV.soft (Value.bool false)), (2432, OV.soft (Value.bool false))]) (LF := 10) (F := 100) (H1 := []) (ps := [CallOK Try.prog 19 [Value.string nm] [] 0 (Value.int IntKind.i64 (nameE nm)) [], (nameE nm != 0) = false, CallOK Try.prog 44 [Value.slice (some { block := ih, off := 0, spot := some 2 }) hs.length 0] [] 0 (Value.int IntKind.i64 (hostsE hs)) [], (hostsE hs != 0) = false, decide ((↑bk.length : Int) < 1) = false, decide ((↑bk.length : Int) > 64) = false, LoopOK Try.prog (loopN Try.prog 21 0) (mkF [(1, .pointer (some ⟨0, 0, none⟩)), (5, .map (some 1536)), (33, .slice (some ⟨ib, 0, some 2⟩) bk.length 0), (34, .int .i64 (bk.length : Int)), (35, .int .i64 ((0 : Nat) : Int))] 67 0) [(0, ⟨46, [.string nm, .slice (some ⟨ih, 0, some 2⟩) hs.length 0, .slice (some ⟨ib, 0, some 2⟩) bk.length 0, .int .i64 po, .int .i64 b1, .int .i64 b2, .int .i64 b3, .int .i64 b4, .int .i64 e1, .int .i64 e2, .int .i64 e3, .int .i64 e4, .int .i64 p1, .int .i64 p2, .int .i64 p3, .int .i64 p4], 0⟩), (1536, ⟨86, [], 4⟩)] 1920 ⟨.exit 0, mkF [(1, .pointer (some ⟨0, 0, none⟩))] 67 0, [(0, ⟨46, [.string nm, .slice (some ⟨ih, 0, some 2⟩) hs.length 0, .slice (some ⟨ib, 0, some 2⟩) bk.length 0, .int .i64 po, .int .i64 b1, .int .i64 b2, .int .i64 b3, .int .i64 b4, .int .i64 e1, .int .i64 e2, .int .i64 e3, .int .i64 e4, .int .i64 p1, .int .i64 p2, .int .i64 p3, .int .i64 p4], 0⟩)], 1984, []⟩, decide (po < 1) = false, decide (po > 3) = false]) (by kernel_rfl) (ob_cons (name_ok hn) (ob_cons k0 (ob_cons (hosts_ok hA hh) (ob_cons k1 (ob_cons k2 (ob_cons k3 (ob_cons hL (ob_cons h4 (ob_cons h5 ob_nil)))))))))

theorem check_fn {ih ib : Nat} {nm : ByteArray} {hs : List ByteArray} {bk : List (ByteArray × Nat)} {po b1 b2 b3 b4 e1 e2 e3 e4 p1 p2 p3 p4 : Int} (hA : rg.cells ih = hs.map Value.string) (hn : nm.size ≤ 9000000000000) (hh : ∀ h ∈ hs, h.size ≤ 9000000000000) (hB : rg.cells ib = bk.flatMap bkV) (hz : ∀ b ∈ bk, b.1.size ≤ 9000000000000) : CallOK Try.prog 21 [.agg #[.string nm, .slice (some ⟨ih, 0, some 2⟩) hs.length 0, .slice (some ⟨ib, 0, some 2⟩) bk.length 0, .int .i64 po, .int .i64 b1, .int .i64 b2, .int .i64 b3, .int .i64 b4, .int .i64 e1, .int .i64 e2, .int .i64 e3, .int .i64 e4, .int .i64 p1, .int .i64 p2, .int .i64 p3, .int .i64 p4]] [] 0 (.int .i64 (checkV (nameE nm) (hostsE hs) (bk.length : Int) (bksE bk) po (hchE b1 b2 b3 b4 e1 e2 e3 e4 p1 p2 p3 p4))) [] := by
  by_cases k1 : nameE nm = 0
  · by_cases k2 : hostsE hs = 0
    · by_cases k3 : (bk.length : Int) < 1
      · exact chv_3 hA hn hh k1 k2 k3
      · by_cases k4 : (bk.length : Int) > 64
        · exact chv_4 hA hn hh k1 k2 k3 k4
        · by_cases k5 : ∀ x, x < bk.length → okB bk x
          · exact chv_6 hA hn hh k1 k2 k3 k4 (by rw [bksE_ok k5]; rfl) (ck_loopX hB (by omega) hz k5)
          · obtain ⟨x, hx, hb, hok⟩ := first_badP k5
            exact chv_5 hA hn hh k1 k2 k3 k4 (bne_iff_ne.2 (bksE_ne hx hb hok)) (ckr_v hB (by omega) hz hx hb hok)
    · exact chv_2 hA hn hh k1 k2
  · exact chv_1 hA hn hh k1
end
section
open Go.RowKit
set_option linter.unusedSimpArgs false
set_option linter.unusedVariables false
set_option linter.unusedSectionVars false
set_option maxRecDepth 100000
variable [Inhabited RawG]
/-- What Check answers for a pool. -/
noncomputable def chkP (p : PoolT) : Int := checkV (nameE p.nm) (hostsE p.hs) (p.bk.length : Int) (bksE p.bk) p.po (hchE p.b1 p.b2 p.b3 p.b4 p.e1 p.e2 p.e3 p.e4 p.p1 p.p2 p.p3 p.p4)
noncomputable def cvP (ps : List PoolT) (x : Nat) : Int := chkP (ps.getD x default)
/-- A pool without the numbers of its rows. -/
def stripP (p : PoolT) : PoolT := { p with ih := 0, ib := 0 }
theorem strip_get {ps : List PoolT} {x : Nat} : (ps.map stripP).getD x default = stripP (ps.getD x default) := by
  rw [List.getD_eq_getElem?_getD, List.getD_eq_getElem?_getD, List.getElem?_map]
  cases ps[x]? <;> rfl
theorem cvP_strip {ps : List PoolT} : cvP (ps.map stripP) = cvP ps := by
  funext x
  unfold cvP
  rw [strip_get]; rfl
theorem okP_strip {ps : List PoolT} {x : Nat} : okP (cvP (ps.map stripP)) (ps.map stripP) x ↔ okP (cvP ps) ps x := by
  unfold okP
  rw [cvP_strip, strip_get]
  have e1 : ((ps.map stripP).take x).map (·.nm) = (ps.take x).map (·.nm) := by rw [← List.map_take, List.map_map]; rfl
  have e2 : ((ps.map stripP).take x).flatMap (·.hs) = (ps.take x).flatMap (·.hs) := by rw [← List.map_take, List.flatMap_map]; rfl
  rw [e1, e2]
  exact Iff.rfl
/-- What the pools' check answers. -/
noncomputable def poolsV (ps : List PoolT) : Int :=
  if (ps.length : Int) < 1 then 250 else if (ps.length : Int) > 16 then 250 else
    @dite Int (∃ x, x < ps.length ∧ ¬ okP (cvP ps) ps x ∧ ∀ y, y < x → okP (cvP ps) ps y) (Classical.propDecidable _) (fun h => if cvP ps (Classical.choose h) = 0 then 250 else cvP ps (Classical.choose h)) (fun _ => 0)
theorem poolsV_bad {ps : List PoolT} {x : Nat} (u1 : ¬ (ps.length : Int) < 1) (u2 : ¬ (ps.length : Int) > 16) (hx : x < ps.length) (hb : ¬ okP (cvP ps) ps x) (hok : ∀ y, y < x → okP (cvP ps) ps y) : poolsV ps = if cvP ps x = 0 then 250 else cvP ps x := by
  have h : ∃ x, x < ps.length ∧ ¬ okP (cvP ps) ps x ∧ ∀ y, y < x → okP (cvP ps) ps y := ⟨x, hx, hb, hok⟩
  have hc := Classical.choose_spec h
  have e : Classical.choose h = x := by
    rcases Nat.lt_trichotomy (Classical.choose h) x with h1 | h1 | h1
    · exact absurd (hok _ h1) hc.2.1
    · exact h1
    · exact absurd (hc.2.2 x h1) hb
  unfold poolsV
  rw [if_neg u1, if_neg u2, dif_pos h, e]
theorem poolsV_ok {ps : List PoolT} (u1 : ¬ (ps.length : Int) < 1) (u2 : ¬ (ps.length : Int) > 16) (h : ∀ x, x < ps.length → okP (cvP ps) ps x) : poolsV ps = 0 := by
  unfold poolsV
  rw [if_neg u1, if_neg u2]
  exact dif_neg fun ⟨x, hx, hb, _⟩ => hb (h x hx)
theorem poolsV_ne {ps : List PoolT} {x : Nat} (u1 : ¬ (ps.length : Int) < 1) (u2 : ¬ (ps.length : Int) > 16) (hx : x < ps.length) (hb : ¬ okP (cvP ps) ps x) (hok : ∀ y, y < x → okP (cvP ps) ps y) : poolsV ps ≠ 0 := by
  rw [poolsV_bad u1 u2 hx hb hok]
  by_cases h : cvP ps x = 0
  · rw [if_pos h]; decide
  · rw [if_neg h]; exact h
/-- When the pools are as they should be. -/
theorem poolsV_iff {ps : List PoolT} : poolsV ps = 0 ↔ (1 ≤ ps.length ∧ ps.length ≤ 16 ∧ ∀ x, x < ps.length → okP (cvP ps) ps x) := by
  by_cases u1 : (ps.length : Int) < 1
  · have : poolsV ps = 250 := by unfold poolsV; rw [if_pos u1]
    rw [this]
    exact ⟨fun h => absurd h (by decide), fun ⟨h, _⟩ => by omega⟩
  · by_cases u2 : (ps.length : Int) > 16
    · have : poolsV ps = 250 := by unfold poolsV; rw [if_neg u1, if_pos u2]
      rw [this]
      exact ⟨fun h => absurd h (by decide), fun ⟨_, h, _⟩ => by omega⟩
    · refine ⟨fun h => ⟨by omega, by omega, Classical.byContradiction fun hn => ?_⟩, fun ⟨_, _, h⟩ => poolsV_ok u1 u2 h⟩
      obtain ⟨x, hx, hb, hok⟩ := first_badP hn
      exact poolsV_ne u1 u2 hx hb hok h
theorem poolsV_strip {ps : List PoolT} : poolsV (ps.map stripP) = poolsV ps := by
  have hl : (ps.map stripP).length = ps.length := by simp
  by_cases u1 : (ps.length : Int) < 1
  · unfold poolsV; rw [if_pos u1, if_pos (by rw [hl]; exact u1)]
  · by_cases u2 : (ps.length : Int) > 16
    · unfold poolsV; rw [if_neg u1, if_pos u2, if_neg (by rw [hl]; exact u1), if_pos (by rw [hl]; exact u2)]
    · by_cases u3 : ∀ x, x < ps.length → okP (cvP ps) ps x
      · rw [poolsV_ok u1 u2 u3, poolsV_ok (by rw [hl]; exact u1) (by rw [hl]; exact u2) (fun x hx => okP_strip.2 (u3 x (by rw [← hl]; exact hx)))]
      · obtain ⟨x, hx, hb, hok⟩ := first_badP u3
        rw [poolsV_bad u1 u2 hx hb hok, poolsV_bad (x := x) (by rw [hl]; exact u1) (by rw [hl]; exact u2) (by rw [hl]; exact hx) (fun h => hb (okP_strip.1 h)) (fun y hy => okP_strip.2 (hok y hy)), cvP_strip]
theorem chkP_ok {ps : List PoolT} (hR : RowsP ps) (hS : SmallP ps) : ChkP (cvP ps) ps := fun x hx => by
  have hm := pool_mem hx
  exact check_fn (po := (ps.getD x default).po) (b1 := (ps.getD x default).b1) (b2 := (ps.getD x default).b2) (b3 := (ps.getD x default).b3) (b4 := (ps.getD x default).b4) (e1 := (ps.getD x default).e1) (e2 := (ps.getD x default).e2) (e3 := (ps.getD x default).e3) (e4 := (ps.getD x default).e4) (p1 := (ps.getD x default).p1) (p2 := (ps.getD x default).p2) (p3 := (ps.getD x default).p3) (p4 := (ps.getD x default).p4) (hR.h _ hm) (hS.n _ hm) (hS.h _ hm) (hR.b _ hm) (hS.b _ hm)
theorem plr_v {ps : List PoolT} (hR : RowsP ps) (hS : SmallP ps) (u1 : ¬ (ps.length : Int) < 1) (h16 : ¬ (ps.length : Int) > 16) {x : Nat} (hx : x < ps.length) (hb : ¬ okP (cvP ps) ps x) (hok : ∀ y, y < x → okP (cvP ps) ps y) : LoopOK Try.prog (loopN Try.prog 23 0) (mkF [(3, .map (some 576)), (4, .map (some 640)), (18, .slice (some ⟨0, 0, some 2⟩) ps.length 0), (19, .int .i64 (ps.length : Int)), (20, .int .i64 ((0 : Nat) : Int))] 41 0) [(576, ⟨86, [], 4⟩), (640, ⟨86, [], 4⟩)] 1024 ⟨.ret, mkF [(2, .int .i64 (poolsV ps))] 41 0, [], 1088, []⟩ := by
  have hC := chkP_ok hR hS
  have hm := pool_mem hx
  have h17 : ps.length ≤ 16 := by omega
  have key : ∀ v : Int, RoundTo Try.prog callC 10 100 (loopN Try.prog 23 0) 1024 1025 [2] .ret (mkF [(3, .map (some 576)), (4, .map (some 640)), (18, .slice (some ⟨0, 0, some 2⟩) ps.length 0), (19, .int .i64 (ps.length : Int)), (20, .int .i64 (x : Int))] 41 0) [(576, ⟨86, mapV (onceV ((ps.take x).map (·.nm))), 4⟩), (640, ⟨86, mapV (onceV ((ps.take x).flatMap (·.hs))), 4⟩)] (mkF [(2, .int .i64 v)] 41 0) [] 1088 → LoopOK Try.prog (loopN Try.prog 23 0) (mkF [(3, .map (some 576)), (4, .map (some 640)), (18, .slice (some ⟨0, 0, some 2⟩) ps.length 0), (19, .int .i64 (ps.length : Int)), (20, .int .i64 ((0 : Nat) : Int))] 41 0) [(576, ⟨86, [], 4⟩), (640, ⟨86, [], 4⟩)] 1024 ⟨.ret, mkF [(2, .int .i64 v)] 41 0, [], 1088, []⟩ := fun v hv => by
    refine loop_ind callC_spec mixed (LF := 10) (F := 100) (nxb := 1025) (keys := [3, 4, 18, 19, 20]) (keysE := [2]) x (fun x => mkF [(3, .map (some 576)), (4, .map (some 640)), (18, .slice (some ⟨0, 0, some 2⟩) ps.length 0), (19, .int .i64 (ps.length : Int)), (20, .int .i64 (x : Int))] 41 0) (fun x => [(576, ⟨86, mapV (onceV ((ps.take x).map (·.nm))), 4⟩), (640, ⟨86, mapV (onceV ((ps.take x).flatMap (·.hs))), 4⟩)]) (by decide) (by simp) rfl ?_ ?_ (fun h => by cases h)
    · intro y hy
      exact pl_step hR hS hC h17 (by omega) (hok y hy)
    · exact hv
  rw [poolsV_bad u1 h16 hx hb hok]
  by_cases h1 : cvP ps x = 0
  · rw [if_pos h1]
    by_cases h2 : (ps.getD x default).nm ∈ (ps.take x).map (·.nm)
    · obtain ⟨j, hj⟩ := once_some h2
      exact key _ (pl_r2 (y := 0) hR h17 hx (hC x hx) h1 hj)
    · by_cases h3 : ∀ y, y < (ps.getD x default).hs.length → newH ((ps.take x).flatMap (·.hs)) (ps.getD x default).hs y
      · exact absurd ⟨h1, h2, h3⟩ hb
      · obtain ⟨y, hy, hn, hl⟩ := first_badP h3
        obtain ⟨j, hj⟩ := once_some (L := (ps.take x).flatMap (·.hs) ++ (ps.getD x default).hs.take y) (Classical.byContradiction hn)
        exact key _ (pl_r3 (j := j) (y := y) hR h17 hx (hC x hx) h1 (once_none h2) (confb_s (ix_loopH (hR.h _ hm) (hS.l _ hm) hy hj hl)))
  · rw [if_neg h1]
    exact key _ (pl_r1 (j := 0) (y := 0) hR h17 hx (hC x hx) h1)
theorem pools_fn {ps : List PoolT} (hR : RowsP ps) (hS : SmallP ps) : CallOK Try.prog 23 [.slice (some ⟨0, 0, some 2⟩) ps.length 0] [] 0 (.int .i64 (poolsV ps)) [] := by
  by_cases u1 : (ps.length : Int) < 1
  · have : poolsV ps = 250 := by unfold poolsV; rw [if_pos u1]
    rw [this]; exact pls_a u1
  · by_cases u2 : (ps.length : Int) > 16
    · have : poolsV ps = 250 := by unfold poolsV; rw [if_neg u1, if_pos u2]
      rw [this]; exact pls_b u1 u2
    · by_cases u3 : ∀ x, x < ps.length → okP (cvP ps) ps x
      · rw [poolsV_ok u1 u2 u3]
        exact pls_x u1 u2 (pl_loopX hR hS (chkP_ok hR hS) (by omega) u3)
      · obtain ⟨x, hx, hb, hok⟩ := first_badP u3
        exact pls_r u1 u2 (plr_v hR hS u1 u2 hx hb hok)
end
section
open Go.RowKit
set_option linter.unusedSimpArgs false
set_option linter.unusedVariables false
set_option linter.unusedSectionVars false
set_option maxRecDepth 100000
variable [Inhabited RawG]
/-- What Config answers, the name being a token: v is what its pools make it answer. -/
def cfgT (cn : ByteArray) (re co rs dl rq cs br bs bm by_ en li he ct bo v : Int) (q : Nat) : Int := (bif (decide ((↑cn.size : Int) > 64)) then (250) else (bif (v != 0) then (v) else (bif (decide (re ≥ 0)) then (bif (decide (re ≤ 64)) then (bif (!decide (idx3E co rs dl 253402300799 ≥ 0)) then (bif (!decide (idx3E rq cs en 1048576 ≥ 0)) then (bif (decide (by_ ≥ 0)) then (bif (!decide (by_ ≤ 1073741824)) then (250) else (bif (!partE q) then (250) else (bif (!!decide (idx4E li he ct bo 16777216 ≥ 0)) then (250) else ((paidE br bs bm))))) else (250)) else (250)) else (250)) else (250)) else (250))))
def cfgV (K : CfgS) (v : Int) : Int := bif tokE K.cn then cfgT K.cn K.re K.co K.rs K.dl K.rq K.cs K.br K.bs K.bm K.by_ K.en K.li K.he K.ct K.bo v K.q else 250
theorem cfgv_t {cn : ByteArray} {ps : List PoolT} {re co rs dl rq cs br bs bm by_ en li he ct bo v : Int} {q : Nat} (ht : CallOK Try.prog 22 [.string cn] [] 0 (.bool true) []) (hp : CallOK Try.prog 23 [.slice (some ⟨0, 0, some 2⟩) ps.length 0] [] 0 (.int .i64 v) []) : CallOK Try.prog 9 [.agg #[.string cn, .slice (some ⟨0, 0, some 2⟩) ps.length 0, .int .i64 re, .int .i64 co, .int .i64 rs, .int .i64 dl, .int .i64 rq, .int .i64 cs, .int .i64 br, .int .i64 bs, .int .i64 bm, .int .i64 by_, .int .i64 en, .float .f64 q, .int .i64 li, .int .i64 he, .int .i64 ct, .int .i64 bo]] [] 0 (.int .i64 (cfgT cn re co rs dl rq cs br bs bm by_ en li he ct bo v q)) [] := by
  rcases Bool.eq_false_or_eq_true (decide ((↑cn.size : Int) > 64)) with h0 | h0
  · have hv : (Value.int .i64 (cfgT cn re co rs dl rq cs br bs bm by_ en li he ct bo v q)) = Value.int IntKind.i64 250 := by simp only [cfgT, h0, cond_true, cond_false]
    rw [hv]
    exact callOK_keep (call := callK) [] callK_spec mixed (ω := [(384, OV.soft (Value.bool true))]) (LF := 10) (F := 100) (H1 := []) (ps := [decide ((↑cn.size : Int) > 64) = true]) (by kernel_rfl) (ob_cons h0 ob_nil)
  · rcases Bool.eq_false_or_eq_true (v != 0) with h1 | h1
    · have hv : (Value.int .i64 (cfgT cn re co rs dl rq cs br bs bm by_ en li he ct bo v q)) = Value.int IntKind.i64 v := by simp only [cfgT, h0, h1, cond_true, cond_false]
      rw [hv]
      exact callOK_keep (call := callK) [] callK_spec mixed (ω := [(384, OV.soft (Value.bool false)), (576, OV.call (Value.bool true) []), (896, OV.call (Value.int IntKind.i64 v) []), (1088, OV.soft (Value.bool true))]) (LF := 10) (F := 100) (H1 := []) (ps := [decide ((↑cn.size : Int) > 64) = false, CallOK Try.prog 22 [Value.string cn] [] 0 (Value.bool true) [], CallOK Try.prog 23 [Value.slice (some { block := 0, off := 0, spot := some 2 }) ps.length 0] [] 0 (Value.int IntKind.i64 v) [], (v != 0) = true]) (by kernel_rfl) (ob_cons h0 (ob_cons ht (ob_cons hp (ob_cons h1 ob_nil))))
    · rcases Bool.eq_false_or_eq_true (decide (re ≥ 0)) with h2 | h2
      · rcases Bool.eq_false_or_eq_true (decide (re ≤ 64)) with h3 | h3
        · rcases Bool.eq_false_or_eq_true (!decide (idx3E co rs dl 253402300799 ≥ 0)) with h4 | h4
          · rcases Bool.eq_false_or_eq_true (!decide (idx3E rq cs en 1048576 ≥ 0)) with h5 | h5
            · rcases Bool.eq_false_or_eq_true (decide (by_ ≥ 0)) with h6 | h6
              · rcases Bool.eq_false_or_eq_true (!decide (by_ ≤ 1073741824)) with h7 | h7
                · have hv : (Value.int .i64 (cfgT cn re co rs dl rq cs br bs bm by_ en li he ct bo v q)) = Value.int IntKind.i64 250 := by simp only [cfgT, h0, h1, h2, h3, h4, h5, h6, h7, cond_true, cond_false]
                  rw [hv]
                  exact callOK_keep (call := callK) [] callK_spec mixed (ω := [(384, OV.soft (Value.bool false)), (576, OV.call (Value.bool true) []), (896, OV.call (Value.int IntKind.i64 v) []), (1088, OV.soft (Value.bool false)), (1344, OV.soft (Value.bool true)), (1664, OV.soft (Value.bool true)), (2304, OV.soft (Value.bool true)), (2944, OV.soft (Value.bool true)), (3264, OV.soft (Value.bool true)), (4736, OV.soft (Value.bool true))]) (LF := 10) (F := 100) (H1 := []) (ps := [decide ((↑cn.size : Int) > 64) = false, CallOK Try.prog 22 [Value.string cn] [] 0 (Value.bool true) [], CallOK Try.prog 23 [Value.slice (some { block := 0, off := 0, spot := some 2 }) ps.length 0] [] 0 (Value.int IntKind.i64 v) [], (v != 0) = false, decide (re ≥ 0) = true, decide (re ≤ 64) = true, (!decide (idx3E co rs dl 253402300799 ≥ 0)) = true, (!decide (idx3E rq cs en 1048576 ≥ 0)) = true, decide (by_ ≥ 0) = true, (!decide (by_ ≤ 1073741824)) = true]) (by kernel_rfl) (ob_cons h0 (ob_cons ht (ob_cons hp (ob_cons h1 (ob_cons h2 (ob_cons h3 (ob_cons h4 (ob_cons h5 (ob_cons h6 (ob_cons h7 ob_nil))))))))))
                · rcases Bool.eq_false_or_eq_true (!partE q) with h8 | h8
                  · have hv : (Value.int .i64 (cfgT cn re co rs dl rq cs br bs bm by_ en li he ct bo v q)) = Value.int IntKind.i64 250 := by simp only [cfgT, h0, h1, h2, h3, h4, h5, h6, h7, h8, cond_true, cond_false]
                    rw [hv]
                    exact callOK_keep (call := callK) [] callK_spec mixed (ω := [(384, OV.soft (Value.bool false)), (576, OV.call (Value.bool true) []), (896, OV.call (Value.int IntKind.i64 v) []), (1088, OV.soft (Value.bool false)), (1344, OV.soft (Value.bool true)), (1664, OV.soft (Value.bool true)), (2304, OV.soft (Value.bool true)), (2944, OV.soft (Value.bool true)), (3264, OV.soft (Value.bool true)), (4736, OV.soft (Value.bool false)), (5120, OV.soft (Value.bool true))]) (LF := 10) (F := 100) (H1 := []) (ps := [decide ((↑cn.size : Int) > 64) = false, CallOK Try.prog 22 [Value.string cn] [] 0 (Value.bool true) [], CallOK Try.prog 23 [Value.slice (some { block := 0, off := 0, spot := some 2 }) ps.length 0] [] 0 (Value.int IntKind.i64 v) [], (v != 0) = false, decide (re ≥ 0) = true, decide (re ≤ 64) = true, (!decide (idx3E co rs dl 253402300799 ≥ 0)) = true, (!decide (idx3E rq cs en 1048576 ≥ 0)) = true, decide (by_ ≥ 0) = true, (!decide (by_ ≤ 1073741824)) = false, (!partE q) = true]) (by kernel_rfl) (ob_cons h0 (ob_cons ht (ob_cons hp (ob_cons h1 (ob_cons h2 (ob_cons h3 (ob_cons h4 (ob_cons h5 (ob_cons h6 (ob_cons h7 (ob_cons h8 ob_nil)))))))))))
                  · rcases Bool.eq_false_or_eq_true (!!decide (idx4E li he ct bo 16777216 ≥ 0)) with h9 | h9
                    · have hv : (Value.int .i64 (cfgT cn re co rs dl rq cs br bs bm by_ en li he ct bo v q)) = Value.int IntKind.i64 250 := by simp only [cfgT, h0, h1, h2, h3, h4, h5, h6, h7, h8, h9, cond_true, cond_false]
                      rw [hv]
                      exact callOK_keep (call := callK) [] callK_spec mixed (ω := [(384, OV.soft (Value.bool false)), (576, OV.call (Value.bool true) []), (896, OV.call (Value.int IntKind.i64 v) []), (1088, OV.soft (Value.bool false)), (1344, OV.soft (Value.bool true)), (1664, OV.soft (Value.bool true)), (2304, OV.soft (Value.bool true)), (2944, OV.soft (Value.bool true)), (3264, OV.soft (Value.bool true)), (4736, OV.soft (Value.bool false)), (5120, OV.soft (Value.bool false)), (5312, OV.soft (Value.bool true))]) (LF := 10) (F := 100) (H1 := []) (ps := [decide ((↑cn.size : Int) > 64) = false, CallOK Try.prog 22 [Value.string cn] [] 0 (Value.bool true) [], CallOK Try.prog 23 [Value.slice (some { block := 0, off := 0, spot := some 2 }) ps.length 0] [] 0 (Value.int IntKind.i64 v) [], (v != 0) = false, decide (re ≥ 0) = true, decide (re ≤ 64) = true, (!decide (idx3E co rs dl 253402300799 ≥ 0)) = true, (!decide (idx3E rq cs en 1048576 ≥ 0)) = true, decide (by_ ≥ 0) = true, (!decide (by_ ≤ 1073741824)) = false, (!partE q) = false, (!!decide (idx4E li he ct bo 16777216 ≥ 0)) = true]) (by kernel_rfl) (ob_cons h0 (ob_cons ht (ob_cons hp (ob_cons h1 (ob_cons h2 (ob_cons h3 (ob_cons h4 (ob_cons h5 (ob_cons h6 (ob_cons h7 (ob_cons h8 (ob_cons h9 ob_nil))))))))))))
                    · have hv : (Value.int .i64 (cfgT cn re co rs dl rq cs br bs bm by_ en li he ct bo v q)) = Value.int IntKind.i64 (paidE br bs bm) := by simp only [cfgT, h0, h1, h2, h3, h4, h5, h6, h7, h8, h9, cond_true, cond_false]
                      rw [hv]
                      exact callOK_keep (call := callK) [] callK_spec mixed (ω := [(384, OV.soft (Value.bool false)), (576, OV.call (Value.bool true) []), (896, OV.call (Value.int IntKind.i64 v) []), (1088, OV.soft (Value.bool false)), (1344, OV.soft (Value.bool true)), (1664, OV.soft (Value.bool true)), (2304, OV.soft (Value.bool true)), (2944, OV.soft (Value.bool true)), (3264, OV.soft (Value.bool true)), (4736, OV.soft (Value.bool false)), (5120, OV.soft (Value.bool false)), (5312, OV.soft (Value.bool false))]) (LF := 10) (F := 100) (H1 := []) (ps := [decide ((↑cn.size : Int) > 64) = false, CallOK Try.prog 22 [Value.string cn] [] 0 (Value.bool true) [], CallOK Try.prog 23 [Value.slice (some { block := 0, off := 0, spot := some 2 }) ps.length 0] [] 0 (Value.int IntKind.i64 v) [], (v != 0) = false, decide (re ≥ 0) = true, decide (re ≤ 64) = true, (!decide (idx3E co rs dl 253402300799 ≥ 0)) = true, (!decide (idx3E rq cs en 1048576 ≥ 0)) = true, decide (by_ ≥ 0) = true, (!decide (by_ ≤ 1073741824)) = false, (!partE q) = false, (!!decide (idx4E li he ct bo 16777216 ≥ 0)) = false]) (by kernel_rfl) (ob_cons h0 (ob_cons ht (ob_cons hp (ob_cons h1 (ob_cons h2 (ob_cons h3 (ob_cons h4 (ob_cons h5 (ob_cons h6 (ob_cons h7 (ob_cons h8 (ob_cons h9 ob_nil))))))))))))
              · have hv : (Value.int .i64 (cfgT cn re co rs dl rq cs br bs bm by_ en li he ct bo v q)) = Value.int IntKind.i64 250 := by simp only [cfgT, h0, h1, h2, h3, h4, h5, h6, cond_true, cond_false]
                rw [hv]
                exact callOK_keep (call := callK) [] callK_spec mixed (ω := [(384, OV.soft (Value.bool false)), (576, OV.call (Value.bool true) []), (896, OV.call (Value.int IntKind.i64 v) []), (1088, OV.soft (Value.bool false)), (1344, OV.soft (Value.bool true)), (1664, OV.soft (Value.bool true)), (2304, OV.soft (Value.bool true)), (2944, OV.soft (Value.bool true)), (3264, OV.soft (Value.bool false))]) (LF := 10) (F := 100) (H1 := []) (ps := [decide ((↑cn.size : Int) > 64) = false, CallOK Try.prog 22 [Value.string cn] [] 0 (Value.bool true) [], CallOK Try.prog 23 [Value.slice (some { block := 0, off := 0, spot := some 2 }) ps.length 0] [] 0 (Value.int IntKind.i64 v) [], (v != 0) = false, decide (re ≥ 0) = true, decide (re ≤ 64) = true, (!decide (idx3E co rs dl 253402300799 ≥ 0)) = true, (!decide (idx3E rq cs en 1048576 ≥ 0)) = true, decide (by_ ≥ 0) = false]) (by kernel_rfl) (ob_cons h0 (ob_cons ht (ob_cons hp (ob_cons h1 (ob_cons h2 (ob_cons h3 (ob_cons h4 (ob_cons h5 (ob_cons h6 ob_nil)))))))))
            · have hv : (Value.int .i64 (cfgT cn re co rs dl rq cs br bs bm by_ en li he ct bo v q)) = Value.int IntKind.i64 250 := by simp only [cfgT, h0, h1, h2, h3, h4, h5, cond_true, cond_false]
              rw [hv]
              exact callOK_keep (call := callK) [] callK_spec mixed (ω := [(384, OV.soft (Value.bool false)), (576, OV.call (Value.bool true) []), (896, OV.call (Value.int IntKind.i64 v) []), (1088, OV.soft (Value.bool false)), (1344, OV.soft (Value.bool true)), (1664, OV.soft (Value.bool true)), (2304, OV.soft (Value.bool true)), (2944, OV.soft (Value.bool false))]) (LF := 10) (F := 100) (H1 := []) (ps := [decide ((↑cn.size : Int) > 64) = false, CallOK Try.prog 22 [Value.string cn] [] 0 (Value.bool true) [], CallOK Try.prog 23 [Value.slice (some { block := 0, off := 0, spot := some 2 }) ps.length 0] [] 0 (Value.int IntKind.i64 v) [], (v != 0) = false, decide (re ≥ 0) = true, decide (re ≤ 64) = true, (!decide (idx3E co rs dl 253402300799 ≥ 0)) = true, (!decide (idx3E rq cs en 1048576 ≥ 0)) = false]) (by kernel_rfl) (ob_cons h0 (ob_cons ht (ob_cons hp (ob_cons h1 (ob_cons h2 (ob_cons h3 (ob_cons h4 (ob_cons h5 ob_nil))))))))
          · have hv : (Value.int .i64 (cfgT cn re co rs dl rq cs br bs bm by_ en li he ct bo v q)) = Value.int IntKind.i64 250 := by simp only [cfgT, h0, h1, h2, h3, h4, cond_true, cond_false]
            rw [hv]
            exact callOK_keep (call := callK) [] callK_spec mixed (ω := [(384, OV.soft (Value.bool false)), (576, OV.call (Value.bool true) []), (896, OV.call (Value.int IntKind.i64 v) []), (1088, OV.soft (Value.bool false)), (1344, OV.soft (Value.bool true)), (1664, OV.soft (Value.bool true)), (2304, OV.soft (Value.bool false))]) (LF := 10) (F := 100) (H1 := []) (ps := [decide ((↑cn.size : Int) > 64) = false, CallOK Try.prog 22 [Value.string cn] [] 0 (Value.bool true) [], CallOK Try.prog 23 [Value.slice (some { block := 0, off := 0, spot := some 2 }) ps.length 0] [] 0 (Value.int IntKind.i64 v) [], (v != 0) = false, decide (re ≥ 0) = true, decide (re ≤ 64) = true, (!decide (idx3E co rs dl 253402300799 ≥ 0)) = false]) (by kernel_rfl) (ob_cons h0 (ob_cons ht (ob_cons hp (ob_cons h1 (ob_cons h2 (ob_cons h3 (ob_cons h4 ob_nil)))))))
        · have hv : (Value.int .i64 (cfgT cn re co rs dl rq cs br bs bm by_ en li he ct bo v q)) = Value.int IntKind.i64 250 := by simp only [cfgT, h0, h1, h2, h3, cond_true, cond_false]
          rw [hv]
          exact callOK_keep (call := callK) [] callK_spec mixed (ω := [(384, OV.soft (Value.bool false)), (576, OV.call (Value.bool true) []), (896, OV.call (Value.int IntKind.i64 v) []), (1088, OV.soft (Value.bool false)), (1344, OV.soft (Value.bool true)), (1664, OV.soft (Value.bool false))]) (LF := 10) (F := 100) (H1 := []) (ps := [decide ((↑cn.size : Int) > 64) = false, CallOK Try.prog 22 [Value.string cn] [] 0 (Value.bool true) [], CallOK Try.prog 23 [Value.slice (some { block := 0, off := 0, spot := some 2 }) ps.length 0] [] 0 (Value.int IntKind.i64 v) [], (v != 0) = false, decide (re ≥ 0) = true, decide (re ≤ 64) = false]) (by kernel_rfl) (ob_cons h0 (ob_cons ht (ob_cons hp (ob_cons h1 (ob_cons h2 (ob_cons h3 ob_nil))))))
      · have hv : (Value.int .i64 (cfgT cn re co rs dl rq cs br bs bm by_ en li he ct bo v q)) = Value.int IntKind.i64 250 := by simp only [cfgT, h0, h1, h2, cond_true, cond_false]
        rw [hv]
        exact callOK_keep (call := callK) [] callK_spec mixed (ω := [(384, OV.soft (Value.bool false)), (576, OV.call (Value.bool true) []), (896, OV.call (Value.int IntKind.i64 v) []), (1088, OV.soft (Value.bool false)), (1344, OV.soft (Value.bool false))]) (LF := 10) (F := 100) (H1 := []) (ps := [decide ((↑cn.size : Int) > 64) = false, CallOK Try.prog 22 [Value.string cn] [] 0 (Value.bool true) [], CallOK Try.prog 23 [Value.slice (some { block := 0, off := 0, spot := some 2 }) ps.length 0] [] 0 (Value.int IntKind.i64 v) [], (v != 0) = false, decide (re ≥ 0) = false]) (by kernel_rfl) (ob_cons h0 (ob_cons ht (ob_cons hp (ob_cons h1 (ob_cons h2 ob_nil)))))

theorem cfgv_f {cn : ByteArray} {ps : List PoolT} {re co rs dl rq cs br bs bm by_ en li he ct bo v : Int} {q : Nat} (ht : CallOK Try.prog 22 [.string cn] [] 0 (.bool false) []) (hp : CallOK Try.prog 23 [.slice (some ⟨0, 0, some 2⟩) ps.length 0] [] 0 (.int .i64 v) []) : CallOK Try.prog 9 [.agg #[.string cn, .slice (some ⟨0, 0, some 2⟩) ps.length 0, .int .i64 re, .int .i64 co, .int .i64 rs, .int .i64 dl, .int .i64 rq, .int .i64 cs, .int .i64 br, .int .i64 bs, .int .i64 bm, .int .i64 by_, .int .i64 en, .float .f64 q, .int .i64 li, .int .i64 he, .int .i64 ct, .int .i64 bo]] [] 0 (.int .i64 250) [] := by
  rcases Bool.eq_false_or_eq_true (decide ((↑cn.size : Int) > 64)) with h0 | h0
  · exact callOK_keep (call := callK) [] callK_spec mixed (ω := [(384, OV.soft (Value.bool true))]) (LF := 10) (F := 100) (H1 := []) (ps := [decide ((↑cn.size : Int) > 64) = true]) (by kernel_rfl) (ob_cons h0 ob_nil)
  · exact callOK_keep (call := callK) [] callK_spec mixed (ω := [(384, OV.soft (Value.bool false)), (576, OV.call (Value.bool false) [])]) (LF := 10) (F := 100) (H1 := []) (ps := [decide ((↑cn.size : Int) > 64) = false, CallOK Try.prog 22 [Value.string cn] [] 0 (Value.bool false) []]) (by kernel_rfl) (ob_cons h0 (ob_cons ht ob_nil))

theorem cfg_fn {K : CfgS} {ps : List PoolT} (hR : RowsP ps) (hS : SmallP ps) (hz : K.cn.size ≤ 9000000000000) : CallOK Try.prog 9 [.agg (cfgC K (.slice (some ⟨0, 0, some 2⟩) ps.length 0)).toArray] [] 0 (.int .i64 (cfgV K (poolsV ps))) [] := by
  have hp := pools_fn hR hS
  have ht := token_ok hz
  unfold cfgV
  cases hb : tokE K.cn with
  | true =>
    rw [hb] at ht
    exact cfgv_t ht hp (re := K.re) (co := K.co) (rs := K.rs) (dl := K.dl) (rq := K.rq) (cs := K.cs) (br := K.br) (bs := K.bs) (bm := K.bm) (by_ := K.by_) (en := K.en) (li := K.li) (he := K.he) (ct := K.ct) (bo := K.bo) (q := K.q)
  | false =>
    rw [hb] at ht
    exact cfgv_f ht hp (re := K.re) (co := K.co) (rs := K.rs) (dl := K.dl) (rq := K.rq) (cs := K.cs) (br := K.br) (bs := K.bs) (bm := K.bm) (by_ := K.by_) (en := K.en) (li := K.li) (he := K.he) (ct := K.ct) (bo := K.bo) (q := K.q)
theorem bif_f {b : Bool} {x y : Int} (h : (bif b then x else y) = 0) (hx : x ≠ 0) : b = false ∧ y = 0 := by
  cases b
  · exact ⟨rfl, h⟩
  · exact absurd h hx
theorem bif_t {b : Bool} {x y : Int} (h : (bif b then x else y) = 0) (hy : y ≠ 0) : b = true ∧ x = 0 := by
  cases b
  · exact absurd h hy
  · exact ⟨rfl, h⟩
theorem bif_v {x y : Int} (h : (bif x != 0 then x else y) = 0) : x = 0 ∧ y = 0 := by
  by_cases hx : x = 0
  · subst hx; exact ⟨rfl, h⟩
  · rw [bne_iff_ne.2 hx] at h; exact absurd h hx
/-- What holds of the numbers of a configuration that may be. -/
structure GoodK (K : CfgS) : Prop where
  tok : tokE K.cn = true
  name : K.cn.size ≤ 64
  re : 0 ≤ K.re ∧ K.re ≤ 64
  i1 : idx3E K.co K.rs K.dl 253402300799 < 0
  i2 : idx3E K.rq K.cs K.en 1048576 < 0
  by' : 0 ≤ K.by_ ∧ K.by_ ≤ 1073741824
  part : partE K.q = true
  lim : idx4E K.li K.he K.ct K.bo 16777216 < 0
  paid : paidE K.br K.bs K.bm = 0
theorem cfgV_good {K : CfgS} {v : Int} (h : cfgV K v = 0) : v = 0 ∧ GoodK K := by
  unfold cfgV at h
  obtain ⟨h1, h⟩ := bif_t h (by decide)
  unfold cfgT at h
  obtain ⟨h2, h⟩ := bif_f h (by decide)
  obtain ⟨h3, h⟩ := bif_v h
  obtain ⟨h4, h⟩ := bif_t h (by decide)
  obtain ⟨h5, h⟩ := bif_t h (by decide)
  obtain ⟨h6, h⟩ := bif_t h (by decide)
  obtain ⟨h7, h⟩ := bif_t h (by decide)
  obtain ⟨h8, h⟩ := bif_t h (by decide)
  obtain ⟨h9, h⟩ := bif_f h (by decide)
  obtain ⟨h10, h⟩ := bif_f h (by decide)
  obtain ⟨h11, h⟩ := bif_f h (by decide)
  simp only [decide_eq_true_eq, decide_eq_false_iff_not, Bool.not_eq_true', Bool.not_eq_false'] at h2 h4 h5 h6 h7 h8 h9 h10 h11
  exact ⟨h3, h1, by omega, ⟨h4, h5⟩, by omega, by omega, ⟨h8, h9⟩, h10, by omega, h⟩
theorem cfgV_ok {K : CfgS} (h : GoodK K) : cfgV K 0 = 0 := by
  obtain ⟨h1, h2, h4, h6, h7, h8, h10, h11, h12⟩ := h
  have k2 : decide ((K.cn.size : Int) > 64) = false := decide_eq_false (by omega)
  have k4 : decide (K.re ≥ 0) = true := decide_eq_true h4.1
  have k5 : decide (K.re ≤ 64) = true := decide_eq_true h4.2
  have k6 : decide (idx3E K.co K.rs K.dl 253402300799 ≥ 0) = false := decide_eq_false (by omega)
  have k7 : decide (idx3E K.rq K.cs K.en 1048576 ≥ 0) = false := decide_eq_false (by omega)
  have k8 : decide (K.by_ ≥ 0) = true := decide_eq_true h8.1
  have k9 : decide (K.by_ ≤ 1073741824) = true := decide_eq_true h8.2
  have k11 : decide (idx4E K.li K.he K.ct K.bo 16777216 ≥ 0) = false := decide_eq_false (by omega)
  unfold cfgV cfgT
  rw [h1, k2, k4, k5, k6, k7, k8, k9, h10, k11, h12]
  rfl
end
end Go.Proofs.Ytkdalfdfepipiaa
