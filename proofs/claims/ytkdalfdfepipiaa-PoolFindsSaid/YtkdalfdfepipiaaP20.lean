/- Pool: plain facts. -/
import Derived.Test.YtkdalfdfepipiaaP19
import Derived.KernelRfl
namespace Go.Proofs.Ytkdalfdfepipiaa
open Go.RowKit
set_option linter.unusedSimpArgs false
set_option linter.unusedVariables false
set_option linter.unusedSectionVars false
set_option maxRecDepth 100000
variable [Inhabited RawG]
theorem ext_data (s : ByteArray) (a b : Nat) : (s.extract a b).data.toList = (s.data.toList.drop a).take (b - a) := by
  obtain ⟨⟨l⟩⟩ := s
  rw [ByteArray.extract_mk]
theorem beq_toL {a b : ByteArray} : (a.toList == b.toList) = true ↔ a = b := ⟨fun h => by
    have h1 := eq_of_beq h
    rw [ByteArray.toList_eq, ByteArray.toList_eq] at h1
    exact congrArg (fun l : List UInt8 => ByteArray.mk l.toArray) h1, fun h => by rw [h]; exact beq_self_eq_true _⟩
theorem getD_mem {T : Type} [Inhabited T] {l : List T} {x : Nat} (hx : x < l.length) : l.getD x default ∈ l := by rw [List.getD_eq_getElem?_getD, List.getElem?_eq_getElem hx]; exact List.getElem_mem hx
theorem mem_getD {T : Type} [Inhabited T] {l : List T} {t : T} (h : t ∈ l) : ∃ x, x < l.length ∧ l.getD x default = t := by
  obtain ⟨x, hx, rfl⟩ := List.mem_iff_getElem.1 h
  exact ⟨x, hx, by rw [List.getD_eq_getElem?_getD, List.getElem?_eq_getElem hx]; rfl⟩
theorem hasB_iff {s : ByteArray} {hs : List ByteArray} : hasB s hs = true ↔ s ∈ hs := by
  unfold hasB
  rw [List.any_eq_true]
  constructor
  · rintro ⟨x, hx, he⟩
    rw [beq_toL.1 he]
    exact getD_mem (List.mem_range.1 hx)
  · intro h
    obtain ⟨x, hx, rfl⟩ := mem_getD h
    exact ⟨x, List.mem_range.2 hx, beq_toL.2 rfl⟩
theorem lastH_out {t : ByteArray} {hs : List ByteArray} {k u : Int} : ∀ {n : Nat}, n ≤ hs.length → t ∉ hs.take n → lastH t hs k u n = u
  | 0, _, _ => rfl
  | n + 1, hn, h => by
    rw [take_up (by omega), List.mem_append, List.mem_singleton, not_or] at h
    show (bif (hs.getD n default).toList == t.toList then k else lastH t hs k u n) = u
    rw [show ((hs.getD n default).toList == t.toList) = false by rw [← Bool.not_eq_true, beq_toL]; exact fun e => h.2 e.symm]
    exact lastH_out (by omega) h.1
theorem lastH_in {t : ByteArray} {hs : List ByteArray} {k u : Int} : ∀ {n : Nat}, n ≤ hs.length → t ∈ hs.take n → lastH t hs k u n = k
  | 0, _, h => by cases h
  | n + 1, hn, h => by
    rw [take_up (by omega), List.mem_append, List.mem_singleton] at h
    show (bif (hs.getD n default).toList == t.toList then k else lastH t hs k u n) = k
    cases hb : ((hs.getD n default).toList == t.toList) with
    | true => rfl
    | false =>
      rw [← Bool.not_eq_true, beq_toL] at hb
      exact lastH_in (by omega) (h.resolve_right fun e => hb e.symm)
theorem lastP_out {t : ByteArray} {ps : List PoolT} : ∀ {n : Nat}, (∀ k, k < n → t ∉ (ps.getD k default).hs) → lastP t ps n = -1
  | 0, _ => rfl
  | n + 1, h => by
    unfold lastP
    rw [lastH_out (Nat.le_refl _) (by rw [List.take_length]; exact h n (by omega)), lastP_out (fun k hk => h k (by omega))]
theorem lastP_in {t : ByteArray} {ps : List PoolT} {k : Nat} (hk : t ∈ (ps.getD k default).hs) : ∀ {n : Nat}, k < n → (∀ j, k < j → j < n → t ∉ (ps.getD j default).hs) → lastP t ps n = (k : Int)
  | 0, h, _ => by omega
  | n + 1, h, hb => by
    unfold lastP
    by_cases e : k = n
    · subst e
      exact lastH_in (Nat.le_refl _) (by rw [List.take_length]; exact hk)
    · rw [lastH_out (Nat.le_refl _) (by rw [List.take_length]; exact hb n (by omega) (by omega))]
      exact lastP_in hk (by omega) (fun j h1 h2 => hb j h1 (by omega))
theorem good_uniq {ps : List PoolT} (hG : GoodP ps) {t : ByteArray} {x y : Nat} (hxy : x < y) (hy : y < ps.length) (hA : t ∈ (ps.getD x default).hs) : t ∉ (ps.getD y default).hs := by
  intro hB
  obtain ⟨j, hj, e⟩ := mem_getD hB
  have h := hG.d y hy j hj
  unfold newH at h
  rw [e] at h
  refine h (List.mem_append_left _ (List.mem_flatMap.2 ⟨ps.getD x default, ?_, hA⟩))
  rw [List.mem_iff_getElem]
  refine ⟨x, by rw [List.length_take]; omega, ?_⟩
  rw [List.getElem_take, List.getD_eq_getElem?_getD, List.getElem?_eq_getElem (by omega)]
  rfl
theorem find_in {ps : List PoolT} (hG : GoodP ps) {t : ByteArray} {k : Nat} (hk : k < ps.length) (h : t ∈ (ps.getD k default).hs) : lastP t ps ps.length = (k : Int) ∧ idxP t ps = (k : Int) :=
  ⟨lastP_in h hk (fun j h1 h2 => good_uniq hG h1 h2 h), idxP_hit hk (hasB_iff.2 h) (fun y hy => by
    rw [← Bool.not_eq_true, hasB_iff]
    exact fun e => good_uniq hG hy hk e h)⟩
theorem find_both {ps : List PoolT} (hG : GoodP ps) (t : ByteArray) : (∃ k : Nat, lastP t ps ps.length = (k : Int) ∧ idxP t ps = (k : Int)) ∨ (lastP t ps ps.length = -1 ∧ idxP t ps = -1) := by
  by_cases h : ∃ k, k < ps.length ∧ t ∈ (ps.getD k default).hs
  · obtain ⟨k, hk, h⟩ := h
    exact .inl ⟨k, find_in hG hk h⟩
  · have h2 : ∀ k, k < ps.length → t ∉ (ps.getD k default).hs := fun k hk e => h ⟨k, hk, e⟩
    exact .inr ⟨lastP_out h2, idxP_none fun y hy => by rw [← Bool.not_eq_true, hasB_iff]; exact h2 y hy⟩
/-- Bytes that neither end a host nor change. -/
def OkS (s : ByteArray) : Prop := ∀ b ∈ s.data.toList, b ≠ 58 ∧ lowZ (b.toNat : Int) = (b.toNat : Int)
theorem lowZ_id {c : Int} (h : ¬ (c ≥ 65 ∧ c ≤ 90)) : lowZ c = c := by
  unfold lowZ
  by_cases h1 : c ≥ 65
  · rw [decide_eq_true h1, decide_eq_false (fun h2 => h ⟨h1, h2⟩)]; rfl
  · rw [decide_eq_false h1]; rfl
theorem hostB_is {c : Int} (h : hostB c = true) : c ≠ 58 ∧ ¬ (c ≥ 65 ∧ c ≤ 90) := by
  unfold hostB smallB digitB at h
  by_cases h1 : c ≥ 97
  · omega
  · rw [decide_eq_false h1] at h
    by_cases h2 : c ≥ 48
    · by_cases h3 : c ≤ 57
      · omega
      · rw [decide_eq_true h2, decide_eq_false h3] at h
        by_cases h4 : c = 45
        · omega
        · by_cases h5 : c = 46
          · omega
          · simp [h4, h5] at h
    · omega
theorem ok_of_host {s : ByteArray} (h : hostE s = 0) : OkS s := by
  unfold hostE at h
  cases hb : (s.toList == starT.toList) with
  | true =>
    rw [beq_toL.1 hb]
    intro b hb
    have : b = 42 := by simpa using hb
    subst this
    exact ⟨by decide, lowZ_id (by decide)⟩
  | false =>
    rw [hb] at h
    have h1 : everyE hostB 255 s = 0 := h
    unfold everyE at h1
    split at h1
    · cases h1
    · split at h1
      · cases h1
      · cases ha : allB hostB s with
        | false => rw [ha] at h1; cases h1
        | true =>
          rw [allB_iff] at ha
          intro b hb
          obtain ⟨x, hx, rfl⟩ := List.mem_iff_getElem.1 hb
          have h2 := ha x (by simpa using hx)
          have e : bAt s x = ((s.data.toList[x]).toNat : Int) := by unfold bAt; rw [List.getD_eq_getElem?_getD, List.getElem?_eq_getElem hx]; rfl
          rw [e] at h2
          have h3 := hostB_is h2
          refine ⟨fun e58 => h3.1 ?_, lowZ_id h3.2⟩
          rw [e58]; rfl
theorem strZ_bsI (s : ByteArray) : strZ (bsI s) = s := by
  unfold strZ bsI
  rw [List.map_map, List.map_congr_left (g := id) (fun b _ => by simp), List.map_id]
theorem low_ok {s : ByteArray} (h : OkS s) : lowE s = s := by
  have e : (bsI s).map lowZ = bsI s := by
    unfold bsI
    rw [List.map_map]
    exact List.map_congr_left fun b hb => (h b hb).2
  unfold lowE
  rw [e, strZ_bsI]
theorem get_b {s : ByteArray} {x : Nat} (hx : x < s.size) : s[x]! = s.data.toList.getD x default := by
  rw [getElem!_pos s x hx, List.getD_eq_getElem?_getD, List.getElem?_eq_getElem (by simpa using hx)]
  rfl
theorem bareN_ok {s : ByteArray} (h : OkS s) : bareN s = s := by
  have hc : colF s = none := by
    unfold colF
    rw [List.find?_eq_none]
    intro x hx hb
    have hx := List.mem_range.1 hx
    rw [get_b hx] at hb
    exact (h _ (getD_mem (by simpa using hx))).1 (eq_of_beq hb)
  unfold bareN
  rw [hc]
theorem bare_id {s : ByteArray} (h : OkS s) : bareE s = s := by
  unfold bareE
  rw [bareN_ok h, low_ok h]
abbrev portT : ByteArray := ⟨#[58, 56, 48, 56, 48]⟩
theorem app_list (s t : ByteArray) : (s ++ t).data.toList = s.data.toList ++ t.data.toList := by
  rw [ByteArray.data_append, Array.toList_append]
theorem bareN_port {s : ByteArray} (h : OkS s) : bareN (s ++ portT) = s := by
  have hz : (s ++ portT).size = s.size + 5 := by rw [ByteArray.size_append]; rfl
  have hl : s.data.toList.length = s.size := by simp
  have hc : colF (s ++ portT) = some s.size := by
    unfold colF
    rw [List.find?_range_eq_some]
    refine ⟨?_, List.mem_range.2 (by omega), fun x hx => ?_⟩
    · rw [get_b (by omega), app_list, List.getD_eq_getElem?_getD, List.getElem?_append_right (by omega), hl, Nat.sub_self]
      rfl
    · rw [get_b (by omega), app_list, List.getD_eq_getElem?_getD, List.getElem?_append_left (by omega), ← List.getD_eq_getElem?_getD, Bool.not_eq_true', ← Bool.not_eq_true]
      exact fun hb => (h _ (getD_mem (by omega))).1 (eq_of_beq hb)
  unfold bareN
  rw [hc]
  show (s ++ portT).extract 0 s.size = s
  have h1 : ((s ++ portT).extract 0 s.size).data.toList = s.data.toList := by
    rw [ext_data, app_list, List.drop_zero, Nat.sub_zero, List.take_left' hl]
  exact congrArg (fun l : List UInt8 => ByteArray.mk l.toArray) h1
theorem bare_port {s : ByteArray} (h : OkS s) : bareE (s ++ portT) = s := by
  unfold bareE
  rw [bareN_port h, low_ok h]
theorem hosts_good {hs : List ByteArray} (h : hostsE hs = 0) : 1 ≤ hs.length ∧ ∀ x, x < hs.length → hostE (hs.getD x default) = 0 := by
  unfold hostsE at h
  split at h
  · cases h
  · split at h
    · cases h
    · split at h
      · rename_i h1 h2 h3
        exact ⟨by omega, fun x hx => (h3 x hx).1⟩
      · cases h
end Go.Proofs.Ytkdalfdfepipiaa
