/- PoolFinds: the configuration that came in, opened. -/
import Derived.Test.YtkdalfdfepipiaaP9
import Derived.Test.YtkdalfdfepipiaaX19
import Derived.KernelRfl
namespace Go.Proofs.Ytkdalfdfepipiaa
open Go.RowKit
set_option linter.unusedSimpArgs false
set_option linter.unusedVariables false
set_option linter.unusedSectionVars false
set_option maxRecDepth 100000
open Go.Deep Go.ChangeShapes Go.WideShapes Go.ChangeAt Go.Joins
section
variable {HH : Type} {enc : TypeId × Value → HH} {w : World}
abbrev Td {HH : Type} (enc : TypeId × Value → HH) (w : World) (fu : Nat) (t : TypeId) (cs : List Value) : Prop := ∃ y, DataW.trod enc Try.prog w 0 (fun _ => true) true fu t cs = some y
theorem td_struct {t : TypeId} {fs : Array Field} {fu : Nat} {cs : List Value} (ht : Try.prog.underlying t = some (.struct fs)) (h : Td enc w fu t cs) : ∃ n, ∀ (j : Nat) (f : Field), fs[j]? = some f → Td enc w n f.type ((cs.drop f.offset).take (Try.prog.cellsOf f.type)) := by
  obtain ⟨y, h⟩ := h
  obtain ⟨xs, n, _, _, _, hlen, hf⟩ := DataW.trod_struct ht h
  exact ⟨n, fun j f hj => ⟨xs[j]'(by rw [hlen]; exact (Array.getElem?_eq_some_iff.1 hj).1), (hf j f hj).trans (List.getElem?_eq_getElem _)⟩⟩
theorem tdI {t : TypeId} {fu : Nat} {c : Value} (ht : Try.prog.underlying t = some (.int .i64)) (h : Td enc w fu t [c]) : ∃ i : Int, c = .int .i64 i := by
  obtain ⟨y, h⟩ := h
  obtain ⟨i, e, _, _⟩ := DataW.trod_int ht h
  exact ⟨i, by simpa using e⟩
theorem tdS {t : TypeId} {fu : Nat} {c : Value} (ht : Try.prog.underlying t = some .string) (h : Td enc w fu t [c]) : ∃ i : ByteArray, c = .string i := by
  obtain ⟨y, h⟩ := h
  obtain ⟨i, e, _⟩ := DataW.trod_string ht h
  exact ⟨i, by simpa using e⟩
theorem tdF {t : TypeId} {fu : Nat} {c : Value} (ht : Try.prog.underlying t = some (.float .f64)) (h : Td enc w fu t [c]) : ∃ q : Nat, c = .float .f64 q := by
  obtain ⟨y, h⟩ := h
  cases fu with
  | zero => simp [DataW.trod] at h
  | succ n =>
    unfold DataW.trod at h
    rw [ht] at h
    split at h <;> simp_all
theorem k2 : Try.prog.cellsOf 2 = 1 := by kernel_rfl
theorem k3 : Try.prog.cellsOf 3 = 1 := by kernel_rfl
theorem k9 : Try.prog.cellsOf 9 = 1 := by kernel_rfl
theorem k25 : Try.prog.cellsOf 25 = 1 := by kernel_rfl
theorem k22 : Try.prog.cellsOf 22 = 1 := by kernel_rfl
theorem k35 : Try.prog.cellsOf 35 = 1 := by kernel_rfl
theorem k36 : Try.prog.cellsOf 36 = 1 := by kernel_rfl
theorem k24 : Try.prog.cellsOf 24 = 3 := by kernel_rfl
theorem k27 : Try.prog.cellsOf 27 = 4 := by kernel_rfl
theorem k38 : Try.prog.cellsOf 38 = 4 := by kernel_rfl
theorem k40 : Try.prog.cellsOf 40 = 4 := by kernel_rfl
theorem k42 : Try.prog.cellsOf 42 = 4 := by kernel_rfl
theorem k44 : Try.prog.cellsOf 44 = 12 := by kernel_rfl
theorem k46 : Try.prog.cellsOf 46 = 16 := by kernel_rfl
theorem k54 : Try.prog.cellsOf 54 = 2 := by kernel_rfl
theorem el24 {fu : Nat} {zs : List Value} (hl : zs.length = 3) (h : Td enc w fu 24 zs) :
    ∃ x0 x1 x2 : Int, zs = [.int .i64 x0, .int .i64 x1, .int .i64 x2] := by
  match zs, hl with
  | [c0, c1, c2], _ =>
    obtain ⟨n, hf⟩ := td_struct Try.underlying24 h
    have t0 : Td enc w n 3 [c0] := by
      have h0 := hf 0 _ rfl
      change Td enc w n 3 (([c0, c1, c2].drop 0).take (Try.prog.cellsOf 3)) at h0
      rw [k3] at h0
      exact h0
    have t1 : Td enc w n 3 [c1] := by
      have h0 := hf 1 _ rfl
      change Td enc w n 3 (([c0, c1, c2].drop 1).take (Try.prog.cellsOf 3)) at h0
      rw [k3] at h0
      exact h0
    have t2 : Td enc w n 3 [c2] := by
      have h0 := hf 2 _ rfl
      change Td enc w n 3 (([c0, c1, c2].drop 2).take (Try.prog.cellsOf 3)) at h0
      rw [k3] at h0
      exact h0
    clear hf h
    obtain ⟨x0, rfl⟩ := tdI Try.underlying3 t0
    obtain ⟨x1, rfl⟩ := tdI Try.underlying3 t1
    obtain ⟨x2, rfl⟩ := tdI Try.underlying3 t2
    exact ⟨x0, x1, x2, rfl⟩
theorem el27 {fu : Nat} {zs : List Value} (hl : zs.length = 4) (h : Td enc w fu 27 zs) :
    ∃ x0 x1 x2 x3 : Int, zs = [.int .i64 x0, .int .i64 x1, .int .i64 x2, .int .i64 x3] := by
  match zs, hl with
  | [c0, c1, c2, c3], _ =>
    obtain ⟨n, hf⟩ := td_struct Try.underlying27 h
    have t0 : Td enc w n 3 [c0] := by
      have h0 := hf 0 _ rfl
      change Td enc w n 3 (([c0, c1, c2, c3].drop 0).take (Try.prog.cellsOf 3)) at h0
      rw [k3] at h0
      exact h0
    have t1 : Td enc w n 3 [c1] := by
      have h0 := hf 1 _ rfl
      change Td enc w n 3 (([c0, c1, c2, c3].drop 1).take (Try.prog.cellsOf 3)) at h0
      rw [k3] at h0
      exact h0
    have t2 : Td enc w n 3 [c2] := by
      have h0 := hf 2 _ rfl
      change Td enc w n 3 (([c0, c1, c2, c3].drop 2).take (Try.prog.cellsOf 3)) at h0
      rw [k3] at h0
      exact h0
    have t3 : Td enc w n 3 [c3] := by
      have h0 := hf 3 _ rfl
      change Td enc w n 3 (([c0, c1, c2, c3].drop 3).take (Try.prog.cellsOf 3)) at h0
      rw [k3] at h0
      exact h0
    clear hf h
    obtain ⟨x0, rfl⟩ := tdI Try.underlying3 t0
    obtain ⟨x1, rfl⟩ := tdI Try.underlying3 t1
    obtain ⟨x2, rfl⟩ := tdI Try.underlying3 t2
    obtain ⟨x3, rfl⟩ := tdI Try.underlying3 t3
    exact ⟨x0, x1, x2, x3, rfl⟩
theorem el38 {fu : Nat} {zs : List Value} (hl : zs.length = 4) (h : Td enc w fu 38 zs) :
    ∃ x0 x1 x2 x3 : Int, zs = [.int .i64 x0, .int .i64 x1, .int .i64 x2, .int .i64 x3] := by
  match zs, hl with
  | [c0, c1, c2, c3], _ =>
    obtain ⟨n, hf⟩ := td_struct Try.underlying38 h
    have t0 : Td enc w n 3 [c0] := by
      have h0 := hf 0 _ rfl
      change Td enc w n 3 (([c0, c1, c2, c3].drop 0).take (Try.prog.cellsOf 3)) at h0
      rw [k3] at h0
      exact h0
    have t1 : Td enc w n 2 [c1] := by
      have h0 := hf 1 _ rfl
      change Td enc w n 2 (([c0, c1, c2, c3].drop 1).take (Try.prog.cellsOf 2)) at h0
      rw [k2] at h0
      exact h0
    have t2 : Td enc w n 3 [c2] := by
      have h0 := hf 2 _ rfl
      change Td enc w n 3 (([c0, c1, c2, c3].drop 2).take (Try.prog.cellsOf 3)) at h0
      rw [k3] at h0
      exact h0
    have t3 : Td enc w n 3 [c3] := by
      have h0 := hf 3 _ rfl
      change Td enc w n 3 (([c0, c1, c2, c3].drop 3).take (Try.prog.cellsOf 3)) at h0
      rw [k3] at h0
      exact h0
    clear hf h
    obtain ⟨x0, rfl⟩ := tdI Try.underlying3 t0
    obtain ⟨x1, rfl⟩ := tdI Try.underlying2 t1
    obtain ⟨x2, rfl⟩ := tdI Try.underlying3 t2
    obtain ⟨x3, rfl⟩ := tdI Try.underlying3 t3
    exact ⟨x0, x1, x2, x3, rfl⟩
theorem el40 {fu : Nat} {zs : List Value} (hl : zs.length = 4) (h : Td enc w fu 40 zs) :
    ∃ x0 x1 x2 x3 : Int, zs = [.int .i64 x0, .int .i64 x1, .int .i64 x2, .int .i64 x3] := by
  match zs, hl with
  | [c0, c1, c2, c3], _ =>
    obtain ⟨n, hf⟩ := td_struct Try.underlying40 h
    have t0 : Td enc w n 3 [c0] := by
      have h0 := hf 0 _ rfl
      change Td enc w n 3 (([c0, c1, c2, c3].drop 0).take (Try.prog.cellsOf 3)) at h0
      rw [k3] at h0
      exact h0
    have t1 : Td enc w n 2 [c1] := by
      have h0 := hf 1 _ rfl
      change Td enc w n 2 (([c0, c1, c2, c3].drop 1).take (Try.prog.cellsOf 2)) at h0
      rw [k2] at h0
      exact h0
    have t2 : Td enc w n 2 [c2] := by
      have h0 := hf 2 _ rfl
      change Td enc w n 2 (([c0, c1, c2, c3].drop 2).take (Try.prog.cellsOf 2)) at h0
      rw [k2] at h0
      exact h0
    have t3 : Td enc w n 3 [c3] := by
      have h0 := hf 3 _ rfl
      change Td enc w n 3 (([c0, c1, c2, c3].drop 3).take (Try.prog.cellsOf 3)) at h0
      rw [k3] at h0
      exact h0
    clear hf h
    obtain ⟨x0, rfl⟩ := tdI Try.underlying3 t0
    obtain ⟨x1, rfl⟩ := tdI Try.underlying2 t1
    obtain ⟨x2, rfl⟩ := tdI Try.underlying2 t2
    obtain ⟨x3, rfl⟩ := tdI Try.underlying3 t3
    exact ⟨x0, x1, x2, x3, rfl⟩
theorem el42 {fu : Nat} {zs : List Value} (hl : zs.length = 4) (h : Td enc w fu 42 zs) :
    ∃ x0 x1 x2 x3 : Int, zs = [.int .i64 x0, .int .i64 x1, .int .i64 x2, .int .i64 x3] := by
  match zs, hl with
  | [c0, c1, c2, c3], _ =>
    obtain ⟨n, hf⟩ := td_struct Try.underlying42 h
    have t0 : Td enc w n 2 [c0] := by
      have h0 := hf 0 _ rfl
      change Td enc w n 2 (([c0, c1, c2, c3].drop 0).take (Try.prog.cellsOf 2)) at h0
      rw [k2] at h0
      exact h0
    have t1 : Td enc w n 2 [c1] := by
      have h0 := hf 1 _ rfl
      change Td enc w n 2 (([c0, c1, c2, c3].drop 1).take (Try.prog.cellsOf 2)) at h0
      rw [k2] at h0
      exact h0
    have t2 : Td enc w n 3 [c2] := by
      have h0 := hf 2 _ rfl
      change Td enc w n 3 (([c0, c1, c2, c3].drop 2).take (Try.prog.cellsOf 3)) at h0
      rw [k3] at h0
      exact h0
    have t3 : Td enc w n 3 [c3] := by
      have h0 := hf 3 _ rfl
      change Td enc w n 3 (([c0, c1, c2, c3].drop 3).take (Try.prog.cellsOf 3)) at h0
      rw [k3] at h0
      exact h0
    clear hf h
    obtain ⟨x0, rfl⟩ := tdI Try.underlying2 t0
    obtain ⟨x1, rfl⟩ := tdI Try.underlying2 t1
    obtain ⟨x2, rfl⟩ := tdI Try.underlying3 t2
    obtain ⟨x3, rfl⟩ := tdI Try.underlying3 t3
    exact ⟨x0, x1, x2, x3, rfl⟩
theorem el54 {fu : Nat} {zs : List Value} (hl : zs.length = 2) (h : Td enc w fu 54 zs) :
    ∃ u, zs = bkV u := by
  match zs, hl with
  | [c0, c1], _ =>
    obtain ⟨n, hf⟩ := td_struct Try.underlying54 h
    have t0 : Td enc w n 9 [c0] := by
      have h0 := hf 0 _ rfl
      change Td enc w n 9 (([c0, c1].drop 0).take (Try.prog.cellsOf 9)) at h0
      rw [k9] at h0
      exact h0
    have t1 : Td enc w n 25 [c1] := by
      have h0 := hf 1 _ rfl
      change Td enc w n 25 (([c0, c1].drop 1).take (Try.prog.cellsOf 25)) at h0
      rw [k25] at h0
      exact h0
    clear hf h
    obtain ⟨x0, rfl⟩ := tdS Try.underlying9 t0
    obtain ⟨x1, rfl⟩ := tdF Try.underlying25 t1
    exact ⟨(x0, x1), rfl⟩
theorem el44 {fu : Nat} {zs : List Value} (hl : zs.length = 12) (h : Td enc w fu 44 zs) :
    ∃ x0 x1 x2 x3 x4 x5 x6 x7 x8 x9 x10 x11 : Int, zs = [.int .i64 x0, .int .i64 x1, .int .i64 x2, .int .i64 x3, .int .i64 x4, .int .i64 x5, .int .i64 x6, .int .i64 x7, .int .i64 x8, .int .i64 x9, .int .i64 x10, .int .i64 x11] := by
  match zs, hl with
  | [c0, c1, c2, c3, c4, c5, c6, c7, c8, c9, c10, c11], _ =>
    obtain ⟨n, hf⟩ := td_struct Try.underlying44 h
    have t0 : Td enc w n 38 [c0, c1, c2, c3] := by
      have h0 := hf 0 _ rfl
      change Td enc w n 38 (([c0, c1, c2, c3, c4, c5, c6, c7, c8, c9, c10, c11].drop 0).take (Try.prog.cellsOf 38)) at h0
      rw [k38] at h0
      exact h0
    have t1 : Td enc w n 40 [c4, c5, c6, c7] := by
      have h0 := hf 1 _ rfl
      change Td enc w n 40 (([c0, c1, c2, c3, c4, c5, c6, c7, c8, c9, c10, c11].drop 4).take (Try.prog.cellsOf 40)) at h0
      rw [k40] at h0
      exact h0
    have t2 : Td enc w n 42 [c8, c9, c10, c11] := by
      have h0 := hf 2 _ rfl
      change Td enc w n 42 (([c0, c1, c2, c3, c4, c5, c6, c7, c8, c9, c10, c11].drop 8).take (Try.prog.cellsOf 42)) at h0
      rw [k42] at h0
      exact h0
    clear hf h
    obtain ⟨x0, x1, x2, x3, e0⟩ := el38 rfl t0
    simp only [List.cons.injEq, and_true] at e0
    obtain ⟨rfl, rfl, rfl, rfl⟩ := e0
    obtain ⟨x4, x5, x6, x7, e1⟩ := el40 rfl t1
    simp only [List.cons.injEq, and_true] at e1
    obtain ⟨rfl, rfl, rfl, rfl⟩ := e1
    obtain ⟨x8, x9, x10, x11, e2⟩ := el42 rfl t2
    simp only [List.cons.injEq, and_true] at e2
    obtain ⟨rfl, rfl, rfl, rfl⟩ := e2
    exact ⟨x0, x1, x2, x3, x4, x5, x6, x7, x8, x9, x10, x11, rfl⟩
abbrev hF : ByteArray → List Value := fun t => [.string t]
/-- A pool that came in, with the places of its rows. -/
abbrev InP (w : World) : Type := {t : PoolT × (Option Addr × Nat) × (Option Addr × Nat) // Opn w hF t.1.hs t.2.1.1 t.2.1.2 ∧ Opn w bkV t.1.bk t.2.2.1 t.2.2.2}
theorem opn_nil {T : Type} {f : T → List Value} {w : World} : Opn w f [] none 0 := ⟨Nat.le_refl _, fun h => absurd h (Nat.lt_irrefl 0)⟩
instance : Inhabited (InP w) := ⟨⟨(default, (none, 0), (none, 0)), opn_nil, opn_nil⟩⟩
abbrev inP {w : World} (t : InP w) : List Value := [.string t.1.1.nm, .slice t.1.2.1.1 t.1.1.hs.length t.1.2.1.2, .slice t.1.2.2.1 t.1.1.bk.length t.1.2.2.2, .int .i64 t.1.1.po, .int .i64 t.1.1.b1, .int .i64 t.1.1.b2, .int .i64 t.1.1.b3, .int .i64 t.1.1.b4, .int .i64 t.1.1.e1, .int .i64 t.1.1.e2, .int .i64 t.1.1.e3, .int .i64 t.1.1.e4, .int .i64 t.1.1.p1, .int .i64 t.1.1.p2, .int .i64 t.1.1.p3, .int .i64 t.1.1.p4]
theorem el46 {fu : Nat} {zs : List Value} (hl : zs.length = 16) (h : Td enc w fu 46 zs) :
    ∃ u : InP w, zs = inP u := by
  match zs, hl with
  | [c0, c1, c2, c3, c4, c5, c6, c7, c8, c9, c10, c11, c12, c13, c14, c15], _ =>
    obtain ⟨n, hf⟩ := td_struct Try.underlying46 h
    have t0 : Td enc w n 9 [c0] := by
      have h0 := hf 0 _ rfl
      change Td enc w n 9 (([c0, c1, c2, c3, c4, c5, c6, c7, c8, c9, c10, c11, c12, c13, c14, c15].drop 0).take (Try.prog.cellsOf 9)) at h0
      rw [k9] at h0
      exact h0
    have t1 : Td enc w n 35 [c1] := by
      have h0 := hf 1 _ rfl
      change Td enc w n 35 (([c0, c1, c2, c3, c4, c5, c6, c7, c8, c9, c10, c11, c12, c13, c14, c15].drop 1).take (Try.prog.cellsOf 35)) at h0
      rw [k35] at h0
      exact h0
    have t2 : Td enc w n 36 [c2] := by
      have h0 := hf 2 _ rfl
      change Td enc w n 36 (([c0, c1, c2, c3, c4, c5, c6, c7, c8, c9, c10, c11, c12, c13, c14, c15].drop 2).take (Try.prog.cellsOf 36)) at h0
      rw [k36] at h0
      exact h0
    have t3 : Td enc w n 3 [c3] := by
      have h0 := hf 3 _ rfl
      change Td enc w n 3 (([c0, c1, c2, c3, c4, c5, c6, c7, c8, c9, c10, c11, c12, c13, c14, c15].drop 3).take (Try.prog.cellsOf 3)) at h0
      rw [k3] at h0
      exact h0
    have t4 : Td enc w n 44 [c4, c5, c6, c7, c8, c9, c10, c11, c12, c13, c14, c15] := by
      have h0 := hf 4 _ rfl
      change Td enc w n 44 (([c0, c1, c2, c3, c4, c5, c6, c7, c8, c9, c10, c11, c12, c13, c14, c15].drop 4).take (Try.prog.cellsOf 44)) at h0
      rw [k44] at h0
      exact h0
    clear hf h
    obtain ⟨x0, rfl⟩ := tdS Try.underlying9 t0
    obtain ⟨y1, g1⟩ := t1
    obtain ⟨lh, oh, ch, rfl, ho⟩ := opn_of_sh (sh_cells (f := hF) (sz := 1) Try.underlying35 k9 (by decide) (fun _ => rfl) (fun fu cs y hl ht => by
      match cs, hl with
      | [c], _ => obtain ⟨b, rfl⟩ := tdS Try.underlying9 ⟨y, ht⟩; exact ⟨b, rfl⟩) g1)
    obtain ⟨y2, g2⟩ := t2
    obtain ⟨lb, ob, cb, rfl, hb⟩ := opn_of_sh (sh_cells (f := bkV) (sz := 2) Try.underlying36 k54 (by decide) (fun _ => rfl) (fun fu cs y hl ht => el54 hl ⟨y, ht⟩) g2)
    obtain ⟨x3, rfl⟩ := tdI Try.underlying3 t3
    obtain ⟨x4, x5, x6, x7, x8, x9, x10, x11, x12, x13, x14, x15, e4⟩ := el44 rfl t4
    simp only [List.cons.injEq, and_true] at e4
    obtain ⟨rfl, rfl, rfl, rfl, rfl, rfl, rfl, rfl, rfl, rfl, rfl, rfl⟩ := e4
    exact ⟨⟨(⟨x0, 0, lh, 0, lb, x3, x4, x5, x6, x7, x8, x9, x10, x11, x12, x13, x14, x15⟩, (oh, ch), (ob, cb)), ho, hb⟩, rfl⟩
/-- The pools that came in. -/
abbrev PoolsV (w : World) (v : Value) : Prop := ∃ (l : List (InP w)) (oa : Option Addr) (c : Nat), v = .slice oa l.length c ∧ Opn w inP l oa c ∧ l.length ≤ 9223372036854775807
theorem pools_of_trod {fu : Nat} {v : Value} (h : Td enc w fu 22 [v]) : PoolsV w v := by
  obtain ⟨y, h⟩ := h
  rcases slice_arg Try.underlying22 k46 (by decide) h (fun cs => ∃ u : InP w, cs = inP u) (fun fu cs y hl ht => el46 hl ⟨y, ht⟩) with hv' | ⟨a, n, c, xs, hv', hlen, hnc, hmx, hR', hb⟩
  · exact ⟨[], none, 0, hv', opn_nil, Nat.zero_le _⟩
  · have hm : maxLen = 9223372036854775807 := rfl
    obtain ⟨l, hl, rfl⟩ := list_of (f := fun t : InP w => inP t) (sz := 16) (fun _ => rfl) n xs hlen hR'
    refine ⟨l, some a, c, by rw [hv', hl], ⟨by omega, fun hp => ?_⟩, by omega⟩
    obtain ⟨hs, cs, el, fz, hh, hx⟩ := hb (by omega)
    exact ⟨a, rfl, hs, cs, el, fz, hh, hx⟩
theorem el29 {fu : Nat} {zs : List Value} (hl : zs.length = 18) (h : Td enc w fu 29 zs) :
    ∃ (cn : ByteArray) (v : Value) (re co rs dl rq cs br bs bm by_ en : Int) (q : Nat) (li he ct bo : Int), zs = [.string cn, v, .int .i64 re, .int .i64 co, .int .i64 rs, .int .i64 dl, .int .i64 rq, .int .i64 cs, .int .i64 br, .int .i64 bs, .int .i64 bm, .int .i64 by_, .int .i64 en, .float .f64 q, .int .i64 li, .int .i64 he, .int .i64 ct, .int .i64 bo] ∧ PoolsV w v := by
  match zs, hl with
  | [c0, c1, c2, c3, c4, c5, c6, c7, c8, c9, c10, c11, c12, c13, c14, c15, c16, c17], _ =>
    obtain ⟨n, hf⟩ := td_struct Try.underlying29 h
    have t0 : Td enc w n 9 [c0] := by
      have h0 := hf 0 _ rfl
      change Td enc w n 9 (([c0, c1, c2, c3, c4, c5, c6, c7, c8, c9, c10, c11, c12, c13, c14, c15, c16, c17].drop 0).take (Try.prog.cellsOf 9)) at h0
      rw [k9] at h0
      exact h0
    have t1 : Td enc w n 22 [c1] := by
      have h0 := hf 1 _ rfl
      change Td enc w n 22 (([c0, c1, c2, c3, c4, c5, c6, c7, c8, c9, c10, c11, c12, c13, c14, c15, c16, c17].drop 1).take (Try.prog.cellsOf 22)) at h0
      rw [k22] at h0
      exact h0
    have t2 : Td enc w n 3 [c2] := by
      have h0 := hf 2 _ rfl
      change Td enc w n 3 (([c0, c1, c2, c3, c4, c5, c6, c7, c8, c9, c10, c11, c12, c13, c14, c15, c16, c17].drop 2).take (Try.prog.cellsOf 3)) at h0
      rw [k3] at h0
      exact h0
    have t3 : Td enc w n 2 [c3] := by
      have h0 := hf 3 _ rfl
      change Td enc w n 2 (([c0, c1, c2, c3, c4, c5, c6, c7, c8, c9, c10, c11, c12, c13, c14, c15, c16, c17].drop 3).take (Try.prog.cellsOf 2)) at h0
      rw [k2] at h0
      exact h0
    have t4 : Td enc w n 2 [c4] := by
      have h0 := hf 4 _ rfl
      change Td enc w n 2 (([c0, c1, c2, c3, c4, c5, c6, c7, c8, c9, c10, c11, c12, c13, c14, c15, c16, c17].drop 4).take (Try.prog.cellsOf 2)) at h0
      rw [k2] at h0
      exact h0
    have t5 : Td enc w n 2 [c5] := by
      have h0 := hf 5 _ rfl
      change Td enc w n 2 (([c0, c1, c2, c3, c4, c5, c6, c7, c8, c9, c10, c11, c12, c13, c14, c15, c16, c17].drop 5).take (Try.prog.cellsOf 2)) at h0
      rw [k2] at h0
      exact h0
    have t6 : Td enc w n 3 [c6] := by
      have h0 := hf 6 _ rfl
      change Td enc w n 3 (([c0, c1, c2, c3, c4, c5, c6, c7, c8, c9, c10, c11, c12, c13, c14, c15, c16, c17].drop 6).take (Try.prog.cellsOf 3)) at h0
      rw [k3] at h0
      exact h0
    have t7 : Td enc w n 3 [c7] := by
      have h0 := hf 7 _ rfl
      change Td enc w n 3 (([c0, c1, c2, c3, c4, c5, c6, c7, c8, c9, c10, c11, c12, c13, c14, c15, c16, c17].drop 7).take (Try.prog.cellsOf 3)) at h0
      rw [k3] at h0
      exact h0
    have t8 : Td enc w n 24 [c8, c9, c10] := by
      have h0 := hf 8 _ rfl
      change Td enc w n 24 (([c0, c1, c2, c3, c4, c5, c6, c7, c8, c9, c10, c11, c12, c13, c14, c15, c16, c17].drop 8).take (Try.prog.cellsOf 24)) at h0
      rw [k24] at h0
      exact h0
    have t9 : Td enc w n 3 [c11] := by
      have h0 := hf 9 _ rfl
      change Td enc w n 3 (([c0, c1, c2, c3, c4, c5, c6, c7, c8, c9, c10, c11, c12, c13, c14, c15, c16, c17].drop 11).take (Try.prog.cellsOf 3)) at h0
      rw [k3] at h0
      exact h0
    have t10 : Td enc w n 3 [c12] := by
      have h0 := hf 10 _ rfl
      change Td enc w n 3 (([c0, c1, c2, c3, c4, c5, c6, c7, c8, c9, c10, c11, c12, c13, c14, c15, c16, c17].drop 12).take (Try.prog.cellsOf 3)) at h0
      rw [k3] at h0
      exact h0
    have t11 : Td enc w n 25 [c13] := by
      have h0 := hf 11 _ rfl
      change Td enc w n 25 (([c0, c1, c2, c3, c4, c5, c6, c7, c8, c9, c10, c11, c12, c13, c14, c15, c16, c17].drop 13).take (Try.prog.cellsOf 25)) at h0
      rw [k25] at h0
      exact h0
    have t12 : Td enc w n 27 [c14, c15, c16, c17] := by
      have h0 := hf 12 _ rfl
      change Td enc w n 27 (([c0, c1, c2, c3, c4, c5, c6, c7, c8, c9, c10, c11, c12, c13, c14, c15, c16, c17].drop 14).take (Try.prog.cellsOf 27)) at h0
      rw [k27] at h0
      exact h0
    clear hf h
    obtain ⟨cn, rfl⟩ := tdS Try.underlying9 t0
    have hp := pools_of_trod t1
    obtain ⟨re, rfl⟩ := tdI Try.underlying3 t2
    obtain ⟨co, rfl⟩ := tdI Try.underlying2 t3
    obtain ⟨rs, rfl⟩ := tdI Try.underlying2 t4
    obtain ⟨dl, rfl⟩ := tdI Try.underlying2 t5
    obtain ⟨rq, rfl⟩ := tdI Try.underlying3 t6
    obtain ⟨cs, rfl⟩ := tdI Try.underlying3 t7
    obtain ⟨br, bs, bm, e8⟩ := el24 rfl t8
    simp only [List.cons.injEq, and_true] at e8
    obtain ⟨rfl, rfl, rfl⟩ := e8
    obtain ⟨by_, rfl⟩ := tdI Try.underlying3 t9
    obtain ⟨en, rfl⟩ := tdI Try.underlying3 t10
    obtain ⟨q, rfl⟩ := tdF Try.underlying25 t11
    obtain ⟨li, he, ct, bo, e12⟩ := el27 rfl t12
    simp only [List.cons.injEq, and_true] at e12
    obtain ⟨rfl, rfl, rfl, rfl⟩ := e12
    exact ⟨cn, c1, re, co, rs, dl, rq, cs, br, bs, bm, by_, en, q, li, he, ct, bo, rfl, hp⟩
theorem cfg_of_trod {v : Value} {d : DataW HH} {p : List MemPlace} {r : Reach} {b0 : Nat} (hv : Value.okWide Try.prog w r b0 29 v) (h : DataW.Trod enc Try.prog w 0 (fun _ => true) true 29 v d p) :
    ∃ (cn : ByteArray) (u : Value) (re co rs dl rq cs br bs bm by_ en : Int) (q : Nat) (li he ct bo : Int), v = .agg #[.string cn, u, .int .i64 re, .int .i64 co, .int .i64 rs, .int .i64 dl, .int .i64 rq, .int .i64 cs, .int .i64 br, .int .i64 bs, .int .i64 bm, .int .i64 by_, .int .i64 en, .float .f64 q, .int .i64 li, .int .i64 he, .int .i64 ct, .int .i64 bo] ∧ PoolsV w u := by
  have hC : Try.prog.cellsOf 29 = 18 := by kernel_rfl
  obtain ⟨cs, rfl, hsz⟩ := okWide_struct Try.underlying29 hv
  obtain ⟨l⟩ := cs
  obtain ⟨fuel, hf⟩ := h
  obtain ⟨cn, u, re, co, rs, dl, rq, cs, br, bs, bm, by_, en, q, li, he, ct, bo, e, hp⟩ := el29 (zs := l) (hsz.trans hC) ⟨_, hf⟩
  subst e
  exact ⟨cn, u, re, co, rs, dl, rq, cs, br, bs, bm, by_, en, q, li, he, ct, bo, rfl, hp⟩
theorem rel_flat {R : Value → Value → Prop} {f g : Nat → List Value} : ∀ (L : List Nat), (∀ i ∈ L, (f i).length = (g i).length) → (∀ i ∈ L, ∀ (k : Nat) (v : Value), (f i)[k]? = some v → ∃ u : Value, (g i)[k]? = some u ∧ R v u) → ∀ (j : Nat) (v : Value), (L.flatMap f)[j]? = some v → ∃ u : Value, (L.flatMap g)[j]? = some u ∧ R v u
  | [], _, _, j, v, h => by cases h
  | i :: t, hl, hR, j, v, h => by
    rw [List.flatMap_cons] at h ⊢
    have e1 := hl i List.mem_cons_self
    rcases Nat.lt_or_ge j (f i).length with hj | hj
    · rw [List.getElem?_append_left hj] at h
      rw [List.getElem?_append_left (by omega)]
      exact hR i List.mem_cons_self j v h
    · rw [List.getElem?_append_right hj] at h
      rw [List.getElem?_append_right (by omega), ← e1]
      exact rel_flat t (fun i hi => hl i (List.mem_cons_of_mem _ hi)) (fun i hi => hR i (List.mem_cons_of_mem _ hi)) _ _ h
theorem flat_range {U : Type} [Inhabited U] (l : List U) (f : U → List Value) : l.flatMap f = (List.range l.length).flatMap fun j => f (l.getD j default) := by
  have h : l = (List.range l.length).map fun j => l.getD j default := by
    apply List.ext_getElem (by simp)
    intro i h1 h2
    rw [List.getElem_map, List.getElem_range, List.getD_eq_getElem?_getD, List.getElem?_eq_getElem h1]; rfl
  calc l.flatMap f = ((List.range l.length).map fun j => l.getD j default).flatMap f := congrArg (fun x => x.flatMap f) h
    _ = _ := by rw [List.flatMap_map]
/-- The pool of number j, with the numbers of its rows. -/
def numP (l : List (InP w)) (j : Nat) : PoolT := ⟨(l.getD j default).1.1.nm, 1 + 2 * j, (l.getD j default).1.1.hs, 2 + 2 * j, (l.getD j default).1.1.bk, (l.getD j default).1.1.po, (l.getD j default).1.1.b1, (l.getD j default).1.1.b2, (l.getD j default).1.1.b3, (l.getD j default).1.1.b4, (l.getD j default).1.1.e1, (l.getD j default).1.1.e2, (l.getD j default).1.1.e3, (l.getD j default).1.1.e4, (l.getD j default).1.1.p1, (l.getD j default).1.1.p2, (l.getD j default).1.1.p3, (l.getD j default).1.1.p4⟩
def psOf (l : List (InP w)) : List PoolT := (List.range l.length).map (numP l)
theorem psOf_len (l : List (InP w)) : (psOf l).length = l.length := by simp [psOf]
def entP (l : List (InP w)) (oa : Option Addr) (c : Nat) (i : Nat) : Ent :=
  if i = 0 then (oa, l.length, c, (psOf l).flatMap poolF)
  else if (i - 1) % 2 = 0 then ((l.getD ((i - 1) / 2) default).1.2.1.1, (l.getD ((i - 1) / 2) default).1.1.hs.length, (l.getD ((i - 1) / 2) default).1.2.1.2, (l.getD ((i - 1) / 2) default).1.1.hs.flatMap hF)
  else ((l.getD ((i - 1) / 2) default).1.2.2.1, (l.getD ((i - 1) / 2) default).1.1.bk.length, (l.getD ((i - 1) / 2) default).1.2.2.2, (l.getD ((i - 1) / 2) default).1.1.bk.flatMap bkV)
theorem entP0 (l : List (InP w)) (oa : Option Addr) (c : Nat) : entP l oa c 0 = (oa, l.length, c, (psOf l).flatMap poolF) := rfl
theorem entP1 (l : List (InP w)) (oa : Option Addr) (c j : Nat) : entP l oa c (1 + 2 * j) = ((l.getD j default).1.2.1.1, (l.getD j default).1.1.hs.length, (l.getD j default).1.2.1.2, (l.getD j default).1.1.hs.flatMap hF) := by
  unfold entP
  rw [if_neg (by omega), if_pos (by omega), show (1 + 2 * j - 1) / 2 = j by omega]
theorem entP2 (l : List (InP w)) (oa : Option Addr) (c j : Nat) : entP l oa c (2 + 2 * j) = ((l.getD j default).1.2.2.1, (l.getD j default).1.1.bk.length, (l.getD j default).1.2.2.2, (l.getD j default).1.1.bk.flatMap bkV) := by
  unfold entP
  rw [if_neg (by omega), if_neg (by omega), show (2 + 2 * j - 1) / 2 = j by omega]
theorem rowsP_ent (l : List (InP w)) (oa : Option Addr) (c : Nat) : @RowsP ⟨rawOf (entP l oa c)⟩ (psOf l) := by
  refine @RowsP.mk ⟨rawOf (entP l oa c)⟩ (psOf l) rfl (fun p hp => ?_) (fun p hp => ?_)
  · obtain ⟨j, _, rfl⟩ := List.mem_map.1 hp
    show (entP l oa c (1 + 2 * j)).2.2.2 = (l.getD j default).1.1.hs.map Value.string
    rw [entP1]
    exact flatMap_one _
  · obtain ⟨j, _, rfl⟩ := List.mem_map.1 hp
    show (entP l oa c (2 + 2 * j)).2.2.2 = (l.getD j default).1.1.bk.flatMap bkV
    rw [entP2]
theorem rawP {l : List (InP w)} {oa : Option Addr} {c : Nat} (ho : Opn w inP l oa c) (i : Nat) : @RawAt ⟨rawOf (entP l oa c)⟩ w i := by
  rcases Nat.eq_zero_or_pos i with rfl | hi
  · refine rawAt_of (entP l oa c) (entP0 l oa c) ho.le (fun hp he => ?_) (fun hne => ?_)
    · have h1 := congrArg List.length he
      rw [flatMap_len pool16, psOf_len] at h1
      simp at h1
      omega
    · have hp : 0 < l.length := by
        rcases Nat.eq_zero_or_pos l.length with h0 | h0
        · exact absurd (by rw [psOf, h0]; rfl) hne
        · exact h0
      obtain ⟨a, e1, e2, cs, el, fz, e3, e4⟩ := ho.row hp
      refine ⟨a, e1, e2, cs, el, fz, e3, fun j v hv => ?_⟩
      rw [psOf, List.flatMap_map] at hv
      obtain ⟨u, hu, hr⟩ := rel_flat (R := fun v u => @VR ⟨rawOf (entP l oa c)⟩ (fun _ => False) (fun _ => default) v u) (f := fun j => poolF (numP l j)) (g := fun j => inP (l.getD j default)) (List.range l.length) (fun _ _ => rfl) (fun i hi k v hk => by
        match k, hk with
        | 0, hk => obtain rfl := Option.some.inj hk; exact ⟨_, rfl, @VR.scal ⟨rawOf (entP l oa c)⟩ _ _ _ rfl⟩
        | 1, hk => obtain rfl := Option.some.inj hk; exact ⟨_, rfl, vr_opq _ (entP1 l oa c i)⟩
        | 2, hk => obtain rfl := Option.some.inj hk; exact ⟨_, rfl, vr_opq _ (entP2 l oa c i)⟩
        | 3, hk => obtain rfl := Option.some.inj hk; exact ⟨_, rfl, @VR.scal ⟨rawOf (entP l oa c)⟩ _ _ _ rfl⟩
        | 4, hk => obtain rfl := Option.some.inj hk; exact ⟨_, rfl, @VR.scal ⟨rawOf (entP l oa c)⟩ _ _ _ rfl⟩
        | 5, hk => obtain rfl := Option.some.inj hk; exact ⟨_, rfl, @VR.scal ⟨rawOf (entP l oa c)⟩ _ _ _ rfl⟩
        | 6, hk => obtain rfl := Option.some.inj hk; exact ⟨_, rfl, @VR.scal ⟨rawOf (entP l oa c)⟩ _ _ _ rfl⟩
        | 7, hk => obtain rfl := Option.some.inj hk; exact ⟨_, rfl, @VR.scal ⟨rawOf (entP l oa c)⟩ _ _ _ rfl⟩
        | 8, hk => obtain rfl := Option.some.inj hk; exact ⟨_, rfl, @VR.scal ⟨rawOf (entP l oa c)⟩ _ _ _ rfl⟩
        | 9, hk => obtain rfl := Option.some.inj hk; exact ⟨_, rfl, @VR.scal ⟨rawOf (entP l oa c)⟩ _ _ _ rfl⟩
        | 10, hk => obtain rfl := Option.some.inj hk; exact ⟨_, rfl, @VR.scal ⟨rawOf (entP l oa c)⟩ _ _ _ rfl⟩
        | 11, hk => obtain rfl := Option.some.inj hk; exact ⟨_, rfl, @VR.scal ⟨rawOf (entP l oa c)⟩ _ _ _ rfl⟩
        | 12, hk => obtain rfl := Option.some.inj hk; exact ⟨_, rfl, @VR.scal ⟨rawOf (entP l oa c)⟩ _ _ _ rfl⟩
        | 13, hk => obtain rfl := Option.some.inj hk; exact ⟨_, rfl, @VR.scal ⟨rawOf (entP l oa c)⟩ _ _ _ rfl⟩
        | 14, hk => obtain rfl := Option.some.inj hk; exact ⟨_, rfl, @VR.scal ⟨rawOf (entP l oa c)⟩ _ _ _ rfl⟩
        | 15, hk => obtain rfl := Option.some.inj hk; exact ⟨_, rfl, @VR.scal ⟨rawOf (entP l oa c)⟩ _ _ _ rfl⟩
        | k + 16, hk => cases hk) j v hv
      exact ⟨u, e4 j u (by rw [flat_range l inP]; exact hu), hr⟩
  · obtain ⟨j, rfl | rfl⟩ : ∃ j, i = 1 + 2 * j ∨ i = 2 + 2 * j := ⟨(i - 1) / 2, by omega⟩
    · exact rawAt_opn (entP l oa c) (f := hF) (entP1 l oa c j) (l.getD j default).2.1 (fun t u hu => by simp at hu; subst hu; rfl) (fun t h => by cases h)
    · exact rawAt_opn (entP l oa c) (f := bkV) (entP2 l oa c j) (l.getD j default).2.2 (fun t u hu => by simp at hu; (try rcases hu with rfl | rfl) <;> rfl) (fun t h => by cases h)
end
theorem vr_cfg {w : World} {l : List (InP w)} {oa : Option Addr} {c : Nat} {cn : ByteArray} {re co rs dl rq cs br bs bm by_ en : Int} {q : Nat} {li he ct bo : Int} : @VR ⟨rawOf (entP l oa c)⟩ (fun _ => False) (fun _ => default) (.agg #[.string cn, .slice (some ⟨0, 0, some 2⟩) (psOf l).length 0, .int .i64 re, .int .i64 co, .int .i64 rs, .int .i64 dl, .int .i64 rq, .int .i64 cs, .int .i64 br, .int .i64 bs, .int .i64 bm, .int .i64 by_, .int .i64 en, .float .f64 q, .int .i64 li, .int .i64 he, .int .i64 ct, .int .i64 bo]) (.agg #[.string cn, .slice oa l.length c, .int .i64 re, .int .i64 co, .int .i64 rs, .int .i64 dl, .int .i64 rq, .int .i64 cs, .int .i64 br, .int .i64 bs, .int .i64 bm, .int .i64 by_, .int .i64 en, .float .f64 q, .int .i64 li, .int .i64 he, .int .i64 ct, .int .i64 bo]) := by
  rw [psOf_len]
  refine @VR.agg ⟨rawOf (entP l oa c)⟩ _ _ _ _ rfl fun i => ?_
  exact (match i with
    | 0 => @VR.scal ⟨rawOf (entP l oa c)⟩ _ _ _ rfl
    | 1 => vr_opq _ (entP0 l oa c)
    | 2 => @VR.scal ⟨rawOf (entP l oa c)⟩ _ _ _ rfl
    | 3 => @VR.scal ⟨rawOf (entP l oa c)⟩ _ _ _ rfl
    | 4 => @VR.scal ⟨rawOf (entP l oa c)⟩ _ _ _ rfl
    | 5 => @VR.scal ⟨rawOf (entP l oa c)⟩ _ _ _ rfl
    | 6 => @VR.scal ⟨rawOf (entP l oa c)⟩ _ _ _ rfl
    | 7 => @VR.scal ⟨rawOf (entP l oa c)⟩ _ _ _ rfl
    | 8 => @VR.scal ⟨rawOf (entP l oa c)⟩ _ _ _ rfl
    | 9 => @VR.scal ⟨rawOf (entP l oa c)⟩ _ _ _ rfl
    | 10 => @VR.scal ⟨rawOf (entP l oa c)⟩ _ _ _ rfl
    | 11 => @VR.scal ⟨rawOf (entP l oa c)⟩ _ _ _ rfl
    | 12 => @VR.scal ⟨rawOf (entP l oa c)⟩ _ _ _ rfl
    | 13 => @VR.scal ⟨rawOf (entP l oa c)⟩ _ _ _ rfl
    | 14 => @VR.scal ⟨rawOf (entP l oa c)⟩ _ _ _ rfl
    | 15 => @VR.scal ⟨rawOf (entP l oa c)⟩ _ _ _ rfl
    | 16 => @VR.scal ⟨rawOf (entP l oa c)⟩ _ _ _ rfl
    | 17 => @VR.scal ⟨rawOf (entP l oa c)⟩ _ _ _ rfl
    | i + 18 => @VR.und ⟨rawOf (entP l oa c)⟩ _ _)
end Go.Proofs.Ytkdalfdfepipiaa
