/- Weigh: the best of places; all places; two places; printed by a program of mine. -/
import Derived.Test.YtbjfckcgpbejkaaU3
import Derived.KernelRfl
namespace Go.Proofs.Ytbjfckcgpbejkaa
set_option linter.unusedSectionVars false
open Go.RowKit
set_option linter.unusedSimpArgs false
set_option linter.unusedVariables false
set_option maxRecDepth 100000
variable [Inhabited RawG]
theorem cmpu_pos (a b : Int) : decide (cmpu_0 a b > 0) = decide (b < a) := by
  unfold cmpu_0
  rw [show (a != a) = false by simp, show (b != b) = false by simp]
  simp only [cond_false]
  rcases Int.lt_trichotomy a b with h | h | h
  · rw [decide_eq_true h, decide_eq_false (show ¬ b < a by omega)]; rfl
  · subst h; rw [decide_eq_false (Int.lt_irrefl a)]; rfl
  · rw [decide_eq_false (show ¬ a < b by omega), decide_eq_true (show a > b from h)]; rfl
def IsBest (H : Int → Int) (ls : List Int) (B : Int) : Prop := B ∈ ls ∧ (∀ e ∈ ls, H e ≤ H B) ∧ ∀ e ∈ ls, e < B → H e < H B
theorem IsBest.unique {H : Int → Int} {ls : List Int} {a b : Int} (h1 : IsBest H ls a) (h2 : IsBest H ls b) : a = b := by
  rcases Int.lt_trichotomy a b with h | h | h
  · have := h2.2.2 a h1.1 h; have := h1.2.1 b h2.1; omega
  · exact h
  · have := h1.2.2 b h2.1 h; have := h2.2.1 a h1.1; omega
theorem getD_mem3 {ls : List Int} {x : Nat} (h : x < ls.length) : ls.getD x 0 ∈ ls := by
  rw [List.getD_eq_getElem?_getD, List.getElem?_eq_getElem h]; exact List.getElem_mem h
theorem mem_getD3 {ls : List Int} {e : Int} (h : e ∈ ls) : ∃ x, x < ls.length ∧ ls.getD x 0 = e := by
  obtain ⟨i, hi, rfl⟩ := List.getElem_of_mem h
  exact ⟨i, hi, by rw [List.getD_eq_getElem?_getD, List.getElem?_eq_getElem hi]; rfl⟩
theorem Asc.lt {ls : List Int} {n : Nat} (h : Asc ls n) : ∀ {x y : Nat}, x < y → y < ls.length → ls.getD x 0 < ls.getD y 0
  | x, y + 1, hxy, hy => by
    have h1 := h.ord y hy
    rcases Nat.lt_or_ge x y with h2 | h2
    · have := Asc.lt h h2 (by omega); omega
    · rw [show x = y by omega]; exact h1
theorem best_at {ns : List NS} {key : ByteArray} {ls : List Int} {n : Nat} (ha : Asc ls n) : ∀ x, x < ls.length → ∃ y, y ≤ x ∧ bestE ns key ls x = ls.getD y 0 ∧ (∀ z, z ≤ x → hvE ns key (ls.getD z 0) ≤ hvE ns key (ls.getD y 0)) ∧ ∀ z, z < y → hvE ns key (ls.getD z 0) < hvE ns key (ls.getD y 0)
  | 0, _ => ⟨0, Nat.le_refl _, rfl, fun z hz => by rw [show z = 0 by omega]; exact Int.le_refl _, fun z hz => absurd hz (Nat.not_lt_zero z)⟩
  | x + 1, hx => by
    obtain ⟨y, h1, h2, h3, h4⟩ := best_at (ns := ns) (key := key) ha x (by omega)
    simp only [bestE]
    rw [cmpu_pos]
    by_cases hc : hvE ns key (bestE ns key ls x) < hvE ns key (ls.getD (x + 1) 0)
    · rw [decide_eq_true hc]
      rw [h2] at hc
      refine ⟨x + 1, Nat.le_refl _, rfl, fun z hz => ?_, fun z hz => ?_⟩
      · by_cases hzx : z = x + 1
        · rw [hzx]; exact Int.le_refl _
        · have := h3 z (by omega); omega
      · have := h3 z (by omega); omega
    · rw [decide_eq_false hc]
      rw [h2] at hc
      refine ⟨y, by omega, h2, fun z hz => ?_, h4⟩
      by_cases hzx : z = x + 1
      · rw [hzx]; omega
      · exact h3 z (by omega)
theorem best_is {ns : List NS} {key : ByteArray} {ls : List Int} {n : Nat} (ha : Asc ls n) (hp : 0 < ls.length) : IsBest (hvE ns key) ls (bestE ns key ls (ls.length - 1)) := by
  obtain ⟨y, h1, h2, h3, h4⟩ := best_at (ns := ns) (key := key) ha (ls.length - 1) (by omega)
  rw [h2]
  refine ⟨getD_mem3 (by omega), fun e he => ?_, fun e he hlt => ?_⟩
  · obtain ⟨z, hz, rfl⟩ := mem_getD3 he
    exact h3 z (by omega)
  · obtain ⟨z, hz, rfl⟩ := mem_getD3 he
    refine h4 z ?_
    by_cases hzy : z < y
    · exact hzy
    · exfalso
      by_cases hzy2 : z = y
      · rw [hzy2] at hlt; omega
      · have := ha.lt (show y < z by omega) hz; omega
def iotaE (n : Nat) : List Int := (List.range n).map fun i : Nat => (i : Int)
def leftE (n g : Nat) : List Int := ((List.range n).filter fun i => i != g).map fun i : Nat => (i : Int)
theorem iota_succ (n : Nat) : iotaE (n + 1) = iotaE n ++ [(n : Int)] := by unfold iotaE; rw [List.range_succ, List.map_append]; rfl
theorem iota_len (n : Nat) : (iotaE n).length = n := by simp [iotaE]
theorem left_keep {n g : Nat} (h : n ≠ g) : leftE (n + 1) g = leftE n g ++ [(n : Int)] := by
  unfold leftE
  rw [List.range_succ, List.filter_append, List.map_append, List.filter_cons, List.filter_nil, if_pos (by simpa using h)]; rfl
theorem left_skip {n g : Nat} (h : n = g) : leftE (n + 1) g = leftE n g := by
  unfold leftE
  rw [List.range_succ, List.filter_append, List.filter_cons, List.filter_nil, if_neg (by simpa using h), List.append_nil]
theorem iota_mem {n : Nat} {e : Int} : e ∈ iotaE n ↔ ∃ i : Nat, i < n ∧ e = i := by
  unfold iotaE; simp only [List.mem_map, List.mem_range]; exact ⟨fun ⟨i, h, e⟩ => ⟨i, h, e.symm⟩, fun ⟨i, h, e⟩ => ⟨i, h, e.symm⟩⟩
theorem left_mem {n g : Nat} {e : Int} : e ∈ leftE n g ↔ ∃ i : Nat, i < n ∧ i ≠ g ∧ e = i := by
  unfold leftE; simp only [List.mem_map, List.mem_filter, List.mem_range, bne_iff_ne]
  exact ⟨fun ⟨i, ⟨h, h2⟩, e⟩ => ⟨i, h, h2, e.symm⟩, fun ⟨i, h, h2, e⟩ => ⟨i, ⟨h, h2⟩, e.symm⟩⟩
theorem asc_snoc {ls : List Int} {n : Nat} (h : Asc ls n) : Asc (ls ++ [(n : Int)]) (n + 1) := by
  have hg : ∀ x, x < ls.length → (ls ++ [(n : Int)]).getD x 0 = ls.getD x 0 := fun x hx => by rw [List.getD_eq_getElem?_getD, List.getElem?_append_left hx, List.getD_eq_getElem?_getD]
  have hl : (ls ++ [(n : Int)]).getD ls.length 0 = n := by rw [List.getD_eq_getElem?_getD, List.getElem?_append_right (Nat.le_refl _)]; simp
  refine ⟨fun x hx => ?_, fun x hx => ?_⟩
  · simp only [List.length_append, List.length_singleton] at hx
    by_cases h1 : x < ls.length
    · rw [hg x h1]; have := h.rng x h1; omega
    · rw [show x = ls.length by omega, hl]; omega
  · simp only [List.length_append, List.length_singleton] at hx
    by_cases h1 : x + 1 < ls.length
    · rw [hg x (by omega), hg (x + 1) h1]; exact h.ord x h1
    · rw [hg x (by omega), show x + 1 = ls.length by omega, hl]; exact (h.rng x (by omega)).2
theorem Asc.more {ls : List Int} {n : Nat} (h : Asc ls n) : Asc ls (n + 1) := ⟨fun x hx => by have := h.rng x hx; omega, h.ord⟩
theorem iota_asc : ∀ n, Asc (iotaE n) n
  | 0 => ⟨fun x hx => by simp [iotaE] at hx, fun x hx => by simp [iotaE] at hx⟩
  | n + 1 => by rw [iota_succ]; exact asc_snoc (iota_asc n)
theorem left_asc (g : Nat) : ∀ n, Asc (leftE n g) n
  | 0 => ⟨fun x hx => by simp [leftE] at hx, fun x hx => by simp [leftE] at hx⟩
  | n + 1 => by
    by_cases h : n = g
    · rw [left_skip h]; exact (left_asc g n).more
    · rw [left_keep h]; exact asc_snoc (left_asc g n)
theorem left_pos {n g : Nat} (hn : 2 ≤ n) : 0 < (leftE n g).length := by
  have : ∃ e, e ∈ leftE n g := by
    by_cases h : g = 0
    · exact ⟨((1 : Nat) : Int), left_mem.2 ⟨1, by omega, by omega, rfl⟩⟩
    · exact ⟨((0 : Nat) : Int), left_mem.2 ⟨0, by omega, fun e => h e.symm, rfl⟩⟩
  obtain ⟨e, he⟩ := this
  exact List.length_pos_of_mem he
theorem left_len {n g : Nat} : (leftE n g).length ≤ n := by
  unfold leftE; rw [List.length_map]; exact Nat.le_trans (List.length_filter_le _ _) (by simp)
theorem al_0 {n k : Nat} {ls : List Int} (hn : 0 < n) : RoundTo Try.prog callW 10 100 (loopN Try.prog 19 0) 192 193 [0, 3, 4] .normal (mkF [(0, .int .i64 (n : Int)), (3, .slice none 0 0), (4, .int .i64 (0 : Int))] 15 0) [] (mkF [(0, Value.int IntKind.i64 (↑n : Int)), (3, Value.slice (some { block := 192, off := 0 }) 1 1), (4, Value.int IntKind.i64 1)] 15 0) [(192, ⟨3, [Value.int IntKind.i64 0], 3⟩)] 193 := by
  have k0 : (decide (0 < (↑n : Int))) = true := (decide_eq_true (by omega))
  exact roundTo_of [(321, OV.soft (Value.bool true))] [577] (ps := [decide (0 < (↑n : Int)) = true]) (by kernel_rfl) (ob_cons k0 ob_nil) (by decide)

theorem al_k {n k : Nat} {ls : List Int} (hk : k < n) (hl : ls.length = k) (h80 : n ≤ 1000) : RoundTo Try.prog callW 10 100 (loopN Try.prog 19 0) 192 193 [0, 3, 4] .normal (mkF [(0, .int .i64 (n : Int)), (3, .slice (some ⟨192, 0, none⟩) ls.length ls.length), (4, .int .i64 (k : Int))] 15 0) [(192, ⟨3, ls.map fun e : Int => Value.int .i64 e, 3⟩)] (mkF [(0, Value.int IntKind.i64 (↑n : Int)), (3, Value.slice (some { block := 192, off := 0 }) (ls.length + 1) (ls.length + 1)), (4, Value.int IntKind.i64 (↑(k + 1) : Int))] 15 0) [(192, ⟨3, List.map (fun e => Value.int IntKind.i64 e) ls ++ [Value.int IntKind.i64 (↑k : Int)], 3⟩)] 193 := by
  have k0 : (decide ((↑k : Int) < (↑n : Int))) = true := (decide_eq_true (by omega))
  exact roundTo_of [(321, OV.soft (Value.bool true)), (577, OV.app 2 none), (769, OV.soft (Value.int IntKind.i64 (↑(k + 1) : Int)))] [577] (ps := [decide ((↑k : Int) < (↑n : Int)) = true, (ls.length + 1) * 8 ≤ 140737488355328 ∧ ls.length + 1 ≤ 9223372036854775807 ∧ ls.length * 1 = (List.map (fun e => Value.int IntKind.i64 e) ls).length, IntKind.i64.wrap ((↑k : Int) + 1) = (↑(k + 1) : Int)]) (by kernel_rfl) (ob_cons k0 (ob_cons ⟨by omega, by omega, by simp⟩ (ob_cons (up1 (by omega)) ob_nil))) (by decide)

theorem al_e {n k : Nat} {ls : List Int} (hk : k = n) : RoundTo Try.prog callW 10 100 (loopN Try.prog 19 0) 192 193 [0, 3] (.exit 0) (mkF [(0, .int .i64 (n : Int)), (3, .slice (some ⟨192, 0, none⟩) ls.length ls.length), (4, .int .i64 (k : Int))] 15 0) [(192, ⟨3, ls.map fun e : Int => Value.int .i64 e, 3⟩)] (mkF [(0, Value.int IntKind.i64 (↑n : Int)), (3, Value.slice (some { block := 192, off := 0 }) ls.length ls.length)] 15 0) [(192, ⟨3, List.map (fun e => Value.int IntKind.i64 e) ls, 3⟩)] 256 := by
  have k0 : (decide ((↑k : Int) < (↑n : Int))) = false := (decide_eq_false (by omega))
  exact roundTo_of [(321, OV.soft (Value.bool false))] [192] (ps := [decide ((↑k : Int) < (↑n : Int)) = false]) (by kernel_rfl) (ob_cons k0 ob_nil) (by decide)

theorem iota_cells (k : Nat) : (iotaE k).map (fun e : Int => Value.int .i64 e) ++ [Value.int .i64 (k : Int)] = (iotaE (k + 1)).map (fun e : Int => Value.int .i64 e) := by rw [iota_succ, List.map_append]; rfl
theorem al_loop {n : Nat} (hn : 0 < n) (h80 : n ≤ 1000) : LoopOK Try.prog (loopN Try.prog 19 0) (mkF [(0, .int .i64 (n : Int)), (3, .slice none 0 0), (4, .int .i64 (0 : Int))] 15 0) [] 192 ⟨.exit 0, mkF [(0, .int .i64 (n : Int)), (3, (.slice (some ⟨192, 0, none⟩) n n))] 15 0, [(192, ⟨3, (iotaE n).map fun e : Int => Value.int .i64 e, 3⟩)], 256, []⟩ := by
  refine loop_ind callW_spec mixed (LF := 10) (F := 100) (nxb := 193) (keys := [0, 3, 4]) (keysE := [0, 3]) n (fun k => match k with | 0 => mkF [(0, .int .i64 (n : Int)), (3, .slice none 0 0), (4, .int .i64 (0 : Int))] 15 0 | k + 1 => mkF [(0, .int .i64 (n : Int)), (3, .slice (some ⟨192, 0, none⟩) (k + 1) (k + 1)), (4, .int .i64 (((k + 1 : Nat) : Int) : Int))] 15 0) (fun k => match k with | 0 => [] | k + 1 => [(192, ⟨3, (iotaE (k + 1)).map fun e : Int => Value.int .i64 e, 3⟩)]) (by decide) (by simp) rfl ?_ ?_ (fun h => by cases h)
  · intro k hk
    cases k with
    | zero => exact al_0 (ls := []) (k := 0) hn
    | succ k =>
      have h := al_k (n := n) (k := k + 1) (ls := iotaE (k + 1)) hk (iota_len _) h80
      rw [iota_cells, iota_len] at h
      exact h
  · obtain ⟨q, rfl⟩ : ∃ q, n = q + 1 := ⟨n - 1, by omega⟩
    have h := al_e (n := q + 1) (k := q + 1) (ls := iotaE (q + 1)) rfl
    rw [iota_len] at h
    exact h
theorem all_a {n : Nat} {al : List Int} (hL : LoopOK Try.prog (loopN Try.prog 19 0) (mkF [(0, .int .i64 (n : Int)), (3, .slice none 0 0), (4, .int .i64 (0 : Int))] 15 0) [] 192 ⟨.exit 0, mkF [(0, .int .i64 (n : Int)), (3, (.slice (some ⟨192, 0, none⟩) n n))] 15 0, [(192, ⟨3, al.map fun e : Int => Value.int .i64 e, 3⟩)], 256, []⟩) : CallOK Try.prog 19 [.int .i64 (n : Int)] [] 0 (.slice (some ⟨0, 0, none⟩) n n) [(0, ⟨3, al.map fun e : Int => Value.int .i64 e, 3⟩)] := by
  have hc := callOK_ren (v2 := Value.slice (some { block := 0, off := 0 }) n n) (H2 := [(0, ⟨3, List.map (fun e => Value.int IntKind.i64 e) al, 3⟩)]) [192] (callOK_keep (call := callW) [192] callW_spec mixed (P := Try.prog) (g := 19) (av := [.int .i64 (n : Int)]) (Hs := []) (lo := 0) (ω := [(193, OV.loop [0, 3, 4] (AX.exit 0) (mkF [(0, Value.int IntKind.i64 (↑n : Int)), (3, Value.slice (some { block := 192, off := 0 }) n n)] 15 0) [(192, { elem := 3, cells := List.map (fun e => Value.int IntKind.i64 e) al, mode := 3 })] 256)]) (LF := 10) (F := 100) (v := Value.slice (some { block := 192, off := 0 }) n n) (H1 := [(192, ⟨3, List.map (fun e => Value.int IntKind.i64 e) al, 3⟩)]) (ps := [LoopOK Try.prog (loopN Try.prog 19 0) (mkF [(0, .int .i64 (n : Int)), (3, .slice none 0 0), (4, .int .i64 (0 : Int))] 15 0) [] 192 ⟨.exit 0, mkF [(0, .int .i64 (n : Int)), (3, (.slice (some ⟨192, 0, none⟩) n n))] 15 0, [(192, ⟨3, al.map fun e : Int => Value.int .i64 e, 3⟩)], 256, []⟩]) (by kernel_rfl) (ob_cons hL ob_nil)) rfl (by kernel_rfl)
  exact hc

theorem all_ok {n : Nat} (hn : 0 < n) (h80 : n ≤ 1000) : CallOK Try.prog 19 [.int .i64 (n : Int)] [] 0 (.slice (some ⟨0, 0, none⟩) n n) [(0, ⟨3, (iotaE n).map fun e : Int => Value.int .i64 e, 3⟩)] := all_a (al_loop hn h80)
end Go.Proofs.Ytbjfckcgpbejkaa
