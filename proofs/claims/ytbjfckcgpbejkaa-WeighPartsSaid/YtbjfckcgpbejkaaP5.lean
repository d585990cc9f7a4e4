/- Weigh: small numbers become weights: the loops of two laws; printed by a program of mine. -/
import Derived.Test.YtbjfckcgpbejkaaP4
import Derived.KernelRfl
namespace Go.Proofs.Ytbjfckcgpbejkaa
open Go.RowKit
set_option linter.unusedSimpArgs false
set_option linter.unusedVariables false
set_option maxRecDepth 100000
set_option linter.unusedSectionVars false
variable [Inhabited RawG]
abbrev CU (us : List U8) : Prop := rg.cells 0 = us.map fun u : U8 => Value.int .u8 u.1
theorem at_u {us : List U8} {x : Nat} (h : CU us) (hx : x < us.length) : (rg.cells 0)[0 + x * 1]? = some (Value.int .u8 (us.getD x default).1) := by rw [h]; exact map_at hx
theorem wt_n (u : U8) : IntKind.i64.wrap (1 + IntKind.i64.wrap (u.1.tmod 40)) = wtI u := by
  have h0 := u.2.1
  have e : u.1.tmod 40 = u.1 % 40 := Int.tmod_eq_emod_of_nonneg h0
  have := wtI_rng u
  rw [e]
  unfold wtI at *
  rw [w64 (n := u.1 % 40) (by omega), w64 (by omega)]
theorem near_enc {A : Int} (h : A.natAbs < 2 ^ 53) : FloatKind.f64.nearest A = encI A := nearest_enc h
def wtF (u : U8) : Nat := FloatKind.f64.nearest (wtI u)
theorem wtF_enc (u : U8) : wtF u = encI (wtI u) := near_enc (by have := wtI_rng u; omega)
def rowV (b : Nat) : List Nat → Value
  | [] => .slice none 0 0
  | v :: r => .slice (some ⟨b, 0, none⟩) (v :: r).length (v :: r).length
def rowH (b : Nat) : List Nat → Heap
  | [] => []
  | v :: r => [(b, ⟨25, (v :: r).map fun e : Nat => Value.float .f64 e, 3⟩)]
theorem rowV_pos {b : Nat} {l : List Nat} (h : l ≠ []) : rowV b l = .slice (some ⟨b, 0, none⟩) l.length l.length := by cases l with | nil => exact absurd rfl h | cons => rfl
theorem rowH_pos {b : Nat} {l : List Nat} (h : l ≠ []) : rowH b l = [(b, ⟨25, l.map fun e : Nat => Value.float .f64 e, 3⟩)] := by cases l with | nil => exact absurd rfl h | cons => rfl
theorem snoc_fv (l : List Nat) (v : Nat) : (l.map fun e : Nat => Value.float .f64 e) ++ [Value.float .f64 v] = (l ++ [v]).map fun e : Nat => Value.float .f64 e := by rw [List.map_append]; rfl
def wtL (us : List U8) : List Nat := us.map wtF
theorem wtL_take {us : List U8} {k : Nat} (hk : k < us.length) : (wtL us).take (k + 1) = (wtL us).take k ++ [wtF (us.getD k default)] := by
  unfold wtL
  rw [List.take_add_one, List.getElem?_map, List.getElem?_eq_getElem hk, List.getD_eq_getElem?_getD, List.getElem?_eq_getElem hk]; rfl
theorem wtL_len {us : List U8} : (wtL us).length = us.length := by unfold wtL; simp
/-- The sum of the first so many weights. -/
def wtS (us : List U8) : Nat → Int
  | 0 => 0
  | x + 1 => wtS us x + wtI (us.getD x default)
theorem wtS_rng (us : List U8) : ∀ x : Nat, 0 ≤ wtS us x ∧ wtS us x ≤ 40 * x
  | 0 => by simp [wtS]
  | x + 1 => by
    have := wtS_rng us x
    have := wtI_rng (us.getD x default)
    simp only [wtS]; omega
theorem sl0_go {us : List U8} {ll : LL} {wl : List Nat} {x : Nat} {n : Int} (hu : CU us) (h80 : us.length ≤ 1000) (hx : x < us.length) (hle : wl.length ≤ x) (hn : IntKind.i64.wrap (1 + IntKind.i64.wrap ((us.getD x default).val.tmod 40)) = n) : RoundTo Try.prog callW 10 100 (loopN Try.prog 4 0) 1152 1153 [0, 1, 5, 6] .normal (mkF [(0, .slice (some ⟨0, 0, some 2⟩) us.length 0), (1, .slice (some ⟨1, 0, some 2⟩) ll.length 0), (5, .slice none 0 0), (6, .int .i64 (x : Int))] 189 0) [] (mkF [(0, Value.slice (some { block := 0, off := 0, spot := some 2 }) us.length 0), (1, Value.slice (some { block := 1, off := 0, spot := some 2 }) (List.length ll) 0), (5, Value.slice (some { block := 1152, off := 0 }) 1 1), (6, Value.int IntKind.i64 (↑(x + 1) : Int))] 189 0) [(1152, ⟨25, [Value.float FloatKind.f64 (FloatKind.f64.nearest n)], 3⟩)] 1153 := by
  have k0 : (decide ((↑x : Int) < (↑us.length : Int))) = true := (decide_eq_true (by omega))
  exact roundTo_of [(1345, OV.soft (Value.bool true)), (1601, OV.idx x), (1665, OV.ld (Value.int IntKind.u8 (us.getD x default).val)), (1857, OV.soft (Value.int IntKind.i64 n)), (2241, OV.soft (Value.int IntKind.i64 (↑(x + 1) : Int)))] [2049] (ps := [decide ((↑x : Int) < (↑us.length : Int)) = true, 0 ≤ (↑x : Int) ∧ (↑x : Int) < (↑us.length : Int) ∧ (↑x : Int).toNat = x, (rg.cells 0)[0 + x * 1]? = some (Value.int IntKind.u8 (us.getD x default).val), IntKind.i64.wrap (1 + IntKind.i64.wrap ((us.getD x default).val.tmod 40)) = n, IntKind.i64.wrap ((↑x : Int) + 1) = (↑(x + 1) : Int)]) (by kernel_rfl) (ob_cons k0 (ob_cons (by omega) (ob_cons (at_u hu hx) (ob_cons hn (ob_cons (up1 (by omega)) ob_nil))))) (by decide)

theorem sl0_e {us : List U8} {ll : LL} {wl : List Nat} {x : Nat} {n : Int} (hx : x = us.length) : RoundTo Try.prog callW 10 100 (loopN Try.prog 4 0) 1152 1153 [0, 1, 5] (.exit 0) (mkF [(0, .slice (some ⟨0, 0, some 2⟩) us.length 0), (1, .slice (some ⟨1, 0, some 2⟩) ll.length 0), (5, .slice none 0 0), (6, .int .i64 (x : Int))] 189 0) [] (mkF [(0, Value.slice (some { block := 0, off := 0, spot := some 2 }) us.length 0), (1, Value.slice (some { block := 1, off := 0, spot := some 2 }) (List.length ll) 0), (5, Value.slice none 0 0)] 189 0) [] 1216 := by
  have k0 : (decide ((↑x : Int) < (↑us.length : Int))) = false := (decide_eq_false (by omega))
  exact roundTo_of [(1345, OV.soft (Value.bool false))] [] (ps := [decide ((↑x : Int) < (↑us.length : Int)) = false]) (by kernel_rfl) (ob_cons k0 ob_nil) (by decide)

theorem sl1_go {us : List U8} {ll : LL} {wl : List Nat} {x : Nat} {n : Int} (hu : CU us) (h80 : us.length ≤ 1000) (hx : x < us.length) (hle : wl.length ≤ x) (hn : IntKind.i64.wrap (1 + IntKind.i64.wrap ((us.getD x default).val.tmod 40)) = n) : RoundTo Try.prog callW 10 100 (loopN Try.prog 4 0) 1152 1153 [0, 1, 5, 6] .normal (mkF [(0, .slice (some ⟨0, 0, some 2⟩) us.length 0), (1, .slice (some ⟨1, 0, some 2⟩) ll.length 0), (5, .slice (some ⟨1152, 0, none⟩) wl.length wl.length), (6, .int .i64 (x : Int))] 189 0) [(1152, ⟨25, wl.map fun e : Nat => Value.float .f64 e, 3⟩)] (mkF [(0, Value.slice (some { block := 0, off := 0, spot := some 2 }) us.length 0), (1, Value.slice (some { block := 1, off := 0, spot := some 2 }) (List.length ll) 0), (5, Value.slice (some { block := 1152, off := 0 }) (wl.length + 1) (wl.length + 1)), (6, Value.int IntKind.i64 (↑(x + 1) : Int))] 189 0) [(1152, ⟨25, List.map (fun e => Value.float FloatKind.f64 e) wl ++ [Value.float FloatKind.f64 (FloatKind.f64.nearest n)], 3⟩)] 1153 := by
  have k0 : (decide ((↑x : Int) < (↑us.length : Int))) = true := (decide_eq_true (by omega))
  exact roundTo_of [(1345, OV.soft (Value.bool true)), (1601, OV.idx x), (1665, OV.ld (Value.int IntKind.u8 (us.getD x default).val)), (1857, OV.soft (Value.int IntKind.i64 n)), (2049, OV.app 2 none), (2241, OV.soft (Value.int IntKind.i64 (↑(x + 1) : Int)))] [2049] (ps := [decide ((↑x : Int) < (↑us.length : Int)) = true, 0 ≤ (↑x : Int) ∧ (↑x : Int) < (↑us.length : Int) ∧ (↑x : Int).toNat = x, (rg.cells 0)[0 + x * 1]? = some (Value.int IntKind.u8 (us.getD x default).val), IntKind.i64.wrap (1 + IntKind.i64.wrap ((us.getD x default).val.tmod 40)) = n, (wl.length + 1) * 8 ≤ 140737488355328 ∧ wl.length + 1 ≤ 9223372036854775807 ∧ wl.length * 1 = (List.map (fun e => Value.float FloatKind.f64 e) wl).length, IntKind.i64.wrap ((↑x : Int) + 1) = (↑(x + 1) : Int)]) (by kernel_rfl) (ob_cons k0 (ob_cons (by omega) (ob_cons (at_u hu hx) (ob_cons hn (ob_cons ⟨by omega, by omega, by simp⟩ (ob_cons (up1 (by omega)) ob_nil)))))) (by decide)

theorem sl1_e {us : List U8} {ll : LL} {wl : List Nat} {x : Nat} {n : Int} (hx : x = us.length) : RoundTo Try.prog callW 10 100 (loopN Try.prog 4 0) 1152 1153 [0, 1, 5] (.exit 0) (mkF [(0, .slice (some ⟨0, 0, some 2⟩) us.length 0), (1, .slice (some ⟨1, 0, some 2⟩) ll.length 0), (5, .slice (some ⟨1152, 0, none⟩) wl.length wl.length), (6, .int .i64 (x : Int))] 189 0) [(1152, ⟨25, wl.map fun e : Nat => Value.float .f64 e, 3⟩)] (mkF [(0, Value.slice (some { block := 0, off := 0, spot := some 2 }) us.length 0), (1, Value.slice (some { block := 1, off := 0, spot := some 2 }) (List.length ll) 0), (5, Value.slice (some { block := 1152, off := 0 }) wl.length wl.length)] 189 0) [(1152, ⟨25, List.map (fun e => Value.float FloatKind.f64 e) wl, 3⟩)] 1216 := by
  have k0 : (decide ((↑x : Int) < (↑us.length : Int))) = false := (decide_eq_false (by omega))
  exact roundTo_of [(1345, OV.soft (Value.bool false))] [1152] (ps := [decide ((↑x : Int) < (↑us.length : Int)) = false]) (by kernel_rfl) (ob_cons k0 ob_nil) (by decide)

theorem sl_loop {us : List U8} {ll : LL} (hu : CU us) (h80 : us.length ≤ 1000) : LoopOK Try.prog (loopN Try.prog 4 0) (mkF [(0, .slice (some ⟨0, 0, some 2⟩) us.length 0), (1, .slice (some ⟨1, 0, some 2⟩) ll.length 0), (5, .slice none 0 0), (6, .int .i64 (0 : Int))] 189 0) [] 1152 ⟨.exit 0, mkF [(0, .slice (some ⟨0, 0, some 2⟩) us.length 0), (1, .slice (some ⟨1, 0, some 2⟩) ll.length 0), (5, (rowV 1152 (wtL us)))] 189 0, rowH 1152 (wtL us), 1216, []⟩ := by
  have h9 := loop_ind callW_spec mixed (LF := 10) (F := 100) (x := loopN Try.prog 4 0) (nx0 := 1152) (o := ⟨.exit 0, mkF [(0, .slice (some ⟨0, 0, some 2⟩) us.length 0), (1, .slice (some ⟨1, 0, some 2⟩) ll.length 0), (5, (rowV 1152 (wtL us)))] 189 0, rowH 1152 (wtL us), 1216, []⟩) (nxb := 1153) (keys := [0, 1, 5, 6]) (keysE := [0, 1, 5]) us.length (fun k => mkF [(0, .slice (some ⟨0, 0, some 2⟩) us.length 0), (1, .slice (some ⟨1, 0, some 2⟩) ll.length 0), (5, (rowV 1152 ((wtL us).take k))), (6, .int .i64 (k : Int))] 189 0) (fun k => rowH 1152 ((wtL us).take k)) (by decide) (by simp) rfl ?_ ?_ (fun h => by cases h)
  · exact h9
  · intro k hk
    have hw := wtI_rng (us.getD k default)
    have hs0 := wtS_rng us k
    show RoundTo _ _ _ _ _ _ _ _ _ (mkF [(0, .slice (some ⟨0, 0, some 2⟩) us.length 0), (1, .slice (some ⟨1, 0, some 2⟩) ll.length 0), (5, (rowV 1152 ((wtL us).take k))), (6, .int .i64 (k : Int))] 189 0) (rowH 1152 ((wtL us).take k)) (mkF [(0, .slice (some ⟨0, 0, some 2⟩) us.length 0), (1, .slice (some ⟨1, 0, some 2⟩) ll.length 0), (5, (rowV 1152 ((wtL us).take (k + 1)))), (6, .int .i64 (((k + 1 : Nat) : Int) : Int))] 189 0) (rowH 1152 ((wtL us).take (k + 1))) _
    rw [wtL_take hk, show wtF (us.getD k default) = FloatKind.f64.nearest (wtI (us.getD k default)) from rfl]
    have e1 := wt_n (us.getD k default)
    have e3 : wtS us (k + 1) = wtS us k + wtI (us.getD k default) := rfl
    generalize wtI (us.getD k default) = n at e1 e3 hw ⊢
    generalize wtS us (k + 1) = s2 at e3 ⊢
    by_cases h0 : (wtL us).take k = []
    · rw [h0]
      exact sl0_go (wl := []) (ll := ll) hu h80 hk (by simp) e1
    · rw [rowV_pos h0, rowH_pos h0, rowV_pos (by simp), rowH_pos (by simp), ← snoc_fv, List.length_append, List.length_singleton]
      exact sl1_go (ll := ll) hu h80 hk (by rw [List.length_take]; omega) e1
  · rw [List.take_of_length_le (by rw [wtL_len]; exact Nat.le_refl _)]
    by_cases h0 : (wtL us) = []
    · rw [h0]
      exact sl0_e (wl := []) (n := 0) rfl
    · rw [rowV_pos h0, rowH_pos h0]
      exact sl1_e (n := 0) rfl
theorem pl30_go {us : List U8} {wl : List Nat} {x : Nat} {n s s2 : Int} (hu : CU us) (h80 : us.length ≤ 1000) (hx : x < us.length) (hle : wl.length ≤ x) (hn : IntKind.i64.wrap (1 + IntKind.i64.wrap ((us.getD x default).val.tmod 40)) = n) (hs : IntKind.i64.wrap (s + n) = s2) : RoundTo Try.prog callW 10 100 (loopN Try.prog 3 0) 896 897 [0, 3, 4, 5] .normal (mkF [(0, .slice (some ⟨0, 0, some 2⟩) us.length 0), (3, .slice none 0 0), (4, .int .i64 s), (5, .int .i64 (x : Int))] 152 0) [] (mkF [(0, Value.slice (some { block := 0, off := 0, spot := some 2 }) us.length 0), (3, Value.slice (some { block := 896, off := 0 }) 1 1), (4, Value.int IntKind.i64 s2), (5, Value.int IntKind.i64 (↑(x + 1) : Int))] 152 0) [(896, ⟨25, [Value.float FloatKind.f64 (FloatKind.f64.nearest n)], 3⟩)] 897 := by
  have k0 : (decide ((↑x : Int) < (↑us.length : Int))) = true := (decide_eq_true (by omega))
  exact roundTo_of [(1089, OV.soft (Value.bool true)), (1281, OV.idx x), (1345, OV.ld (Value.int IntKind.u8 (us.getD x default).val)), (1537, OV.soft (Value.int IntKind.i64 n)), (2177, OV.soft (Value.int IntKind.i64 s2)), (2369, OV.soft (Value.int IntKind.i64 (↑(x + 1) : Int)))] [1921] (ps := [decide ((↑x : Int) < (↑us.length : Int)) = true, 0 ≤ (↑x : Int) ∧ (↑x : Int) < (↑us.length : Int) ∧ (↑x : Int).toNat = x, (rg.cells 0)[0 + x * 1]? = some (Value.int IntKind.u8 (us.getD x default).val), IntKind.i64.wrap (1 + IntKind.i64.wrap ((us.getD x default).val.tmod 40)) = n, IntKind.i64.wrap (s + n) = s2, IntKind.i64.wrap ((↑x : Int) + 1) = (↑(x + 1) : Int)]) (by kernel_rfl) (ob_cons k0 (ob_cons (by omega) (ob_cons (at_u hu hx) (ob_cons hn (ob_cons hs (ob_cons (up1 (by omega)) ob_nil)))))) (by decide)

theorem pl30_e {us : List U8} {wl : List Nat} {x : Nat} {n s s2 : Int} (hx : x = us.length) : RoundTo Try.prog callW 10 100 (loopN Try.prog 3 0) 896 897 [0, 3, 4] (.exit 0) (mkF [(0, .slice (some ⟨0, 0, some 2⟩) us.length 0), (3, .slice none 0 0), (4, .int .i64 s), (5, .int .i64 (x : Int))] 152 0) [] (mkF [(0, Value.slice (some { block := 0, off := 0, spot := some 2 }) us.length 0), (3, Value.slice none 0 0), (4, Value.int IntKind.i64 s)] 152 0) [] 960 := by
  have k0 : (decide ((↑x : Int) < (↑us.length : Int))) = false := (decide_eq_false (by omega))
  exact roundTo_of [(1089, OV.soft (Value.bool false))] [] (ps := [decide ((↑x : Int) < (↑us.length : Int)) = false]) (by kernel_rfl) (ob_cons k0 ob_nil) (by decide)

theorem pl31_go {us : List U8} {wl : List Nat} {x : Nat} {n s s2 : Int} (hu : CU us) (h80 : us.length ≤ 1000) (hx : x < us.length) (hle : wl.length ≤ x) (hn : IntKind.i64.wrap (1 + IntKind.i64.wrap ((us.getD x default).val.tmod 40)) = n) (hs : IntKind.i64.wrap (s + n) = s2) : RoundTo Try.prog callW 10 100 (loopN Try.prog 3 0) 896 897 [0, 3, 4, 5] .normal (mkF [(0, .slice (some ⟨0, 0, some 2⟩) us.length 0), (3, .slice (some ⟨896, 0, none⟩) wl.length wl.length), (4, .int .i64 s), (5, .int .i64 (x : Int))] 152 0) [(896, ⟨25, wl.map fun e : Nat => Value.float .f64 e, 3⟩)] (mkF [(0, Value.slice (some { block := 0, off := 0, spot := some 2 }) us.length 0), (3, Value.slice (some { block := 896, off := 0 }) (wl.length + 1) (wl.length + 1)), (4, Value.int IntKind.i64 s2), (5, Value.int IntKind.i64 (↑(x + 1) : Int))] 152 0) [(896, ⟨25, List.map (fun e => Value.float FloatKind.f64 e) wl ++ [Value.float FloatKind.f64 (FloatKind.f64.nearest n)], 3⟩)] 897 := by
  have k0 : (decide ((↑x : Int) < (↑us.length : Int))) = true := (decide_eq_true (by omega))
  exact roundTo_of [(1089, OV.soft (Value.bool true)), (1281, OV.idx x), (1345, OV.ld (Value.int IntKind.u8 (us.getD x default).val)), (1537, OV.soft (Value.int IntKind.i64 n)), (1921, OV.app 2 none), (2177, OV.soft (Value.int IntKind.i64 s2)), (2369, OV.soft (Value.int IntKind.i64 (↑(x + 1) : Int)))] [1921] (ps := [decide ((↑x : Int) < (↑us.length : Int)) = true, 0 ≤ (↑x : Int) ∧ (↑x : Int) < (↑us.length : Int) ∧ (↑x : Int).toNat = x, (rg.cells 0)[0 + x * 1]? = some (Value.int IntKind.u8 (us.getD x default).val), IntKind.i64.wrap (1 + IntKind.i64.wrap ((us.getD x default).val.tmod 40)) = n, (wl.length + 1) * 8 ≤ 140737488355328 ∧ wl.length + 1 ≤ 9223372036854775807 ∧ wl.length * 1 = (List.map (fun e => Value.float FloatKind.f64 e) wl).length, IntKind.i64.wrap (s + n) = s2, IntKind.i64.wrap ((↑x : Int) + 1) = (↑(x + 1) : Int)]) (by kernel_rfl) (ob_cons k0 (ob_cons (by omega) (ob_cons (at_u hu hx) (ob_cons hn (ob_cons ⟨by omega, by omega, by simp⟩ (ob_cons hs (ob_cons (up1 (by omega)) ob_nil))))))) (by decide)

theorem pl31_e {us : List U8} {wl : List Nat} {x : Nat} {n s s2 : Int} (hx : x = us.length) : RoundTo Try.prog callW 10 100 (loopN Try.prog 3 0) 896 897 [0, 3, 4] (.exit 0) (mkF [(0, .slice (some ⟨0, 0, some 2⟩) us.length 0), (3, .slice (some ⟨896, 0, none⟩) wl.length wl.length), (4, .int .i64 s), (5, .int .i64 (x : Int))] 152 0) [(896, ⟨25, wl.map fun e : Nat => Value.float .f64 e, 3⟩)] (mkF [(0, Value.slice (some { block := 0, off := 0, spot := some 2 }) us.length 0), (3, Value.slice (some { block := 896, off := 0 }) wl.length wl.length), (4, Value.int IntKind.i64 s)] 152 0) [(896, ⟨25, List.map (fun e => Value.float FloatKind.f64 e) wl, 3⟩)] 960 := by
  have k0 : (decide ((↑x : Int) < (↑us.length : Int))) = false := (decide_eq_false (by omega))
  exact roundTo_of [(1089, OV.soft (Value.bool false))] [896] (ps := [decide ((↑x : Int) < (↑us.length : Int)) = false]) (by kernel_rfl) (ob_cons k0 ob_nil) (by decide)

theorem pl3_loop {us : List U8} (hu : CU us) (h80 : us.length ≤ 1000) : LoopOK Try.prog (loopN Try.prog 3 0) (mkF [(0, .slice (some ⟨0, 0, some 2⟩) us.length 0), (3, .slice none 0 0), (4, .int .i64 0), (5, .int .i64 (0 : Int))] 152 0) [] 896 ⟨.exit 0, mkF [(0, .slice (some ⟨0, 0, some 2⟩) us.length 0), (3, (rowV 896 (wtL us))), (4, .int .i64 (wtS us us.length))] 152 0, rowH 896 (wtL us), 960, []⟩ := by
  have h9 := loop_ind callW_spec mixed (LF := 10) (F := 100) (x := loopN Try.prog 3 0) (nx0 := 896) (o := ⟨.exit 0, mkF [(0, .slice (some ⟨0, 0, some 2⟩) us.length 0), (3, (rowV 896 (wtL us))), (4, .int .i64 (wtS us us.length))] 152 0, rowH 896 (wtL us), 960, []⟩) (nxb := 897) (keys := [0, 3, 4, 5]) (keysE := [0, 3, 4]) us.length (fun k => mkF [(0, .slice (some ⟨0, 0, some 2⟩) us.length 0), (3, (rowV 896 ((wtL us).take k))), (4, .int .i64 (wtS us k)), (5, .int .i64 (k : Int))] 152 0) (fun k => rowH 896 ((wtL us).take k)) (by decide) (by simp) rfl ?_ ?_ (fun h => by cases h)
  · exact h9
  · intro k hk
    have hw := wtI_rng (us.getD k default)
    have hs0 := wtS_rng us k
    show RoundTo _ _ _ _ _ _ _ _ _ (mkF [(0, .slice (some ⟨0, 0, some 2⟩) us.length 0), (3, (rowV 896 ((wtL us).take k))), (4, .int .i64 (wtS us k)), (5, .int .i64 (k : Int))] 152 0) (rowH 896 ((wtL us).take k)) (mkF [(0, .slice (some ⟨0, 0, some 2⟩) us.length 0), (3, (rowV 896 ((wtL us).take (k + 1)))), (4, .int .i64 (wtS us (k + 1))), (5, .int .i64 (((k + 1 : Nat) : Int) : Int))] 152 0) (rowH 896 ((wtL us).take (k + 1))) _
    rw [wtL_take hk, show wtF (us.getD k default) = FloatKind.f64.nearest (wtI (us.getD k default)) from rfl]
    have e1 := wt_n (us.getD k default)
    have e3 : wtS us (k + 1) = wtS us k + wtI (us.getD k default) := rfl
    generalize wtI (us.getD k default) = n at e1 e3 hw ⊢
    generalize wtS us (k + 1) = s2 at e3 ⊢
    by_cases h0 : (wtL us).take k = []
    · rw [h0]
      exact pl30_go (wl := []) (s := wtS us k) hu h80 hk (by simp) e1 (by rw [w64 (by omega)]; exact e3.symm)
    · rw [rowV_pos h0, rowH_pos h0, rowV_pos (by simp), rowH_pos (by simp), ← snoc_fv, List.length_append, List.length_singleton]
      exact pl31_go (s := wtS us k) hu h80 hk (by rw [List.length_take]; omega) e1 (by rw [w64 (by omega)]; exact e3.symm)
  · rw [List.take_of_length_le (by rw [wtL_len]; exact Nat.le_refl _)]
    by_cases h0 : (wtL us) = []
    · rw [h0]
      exact pl30_e (wl := []) (n := 0) (s2 := 0) rfl
    · rw [rowV_pos h0, rowH_pos h0]
      exact pl31_e (n := 0) (s2 := 0) rfl
end Go.Proofs.Ytbjfckcgpbejkaa
