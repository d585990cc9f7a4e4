/- Pool: Lower, its loop; printed by a program of mine. -/
import Derived.Test.YtkdalfdfepipiaaP12
import Derived.KernelRfl
namespace Go.Proofs.Ytkdalfdfepipiaa
open Go.RowKit
set_option linter.unusedSimpArgs false
set_option linter.unusedVariables false
set_option linter.unusedSectionVars false
set_option maxRecDepth 100000
variable [Inhabited RawG]
/-- A byte, small. -/
def lowZ (z : Int) : Int := bif decide (z ≥ 65) then (bif decide (z ≤ 90) then IntKind.u8.wrap (IntKind.u8.wrap (z + 97) - 65) else z) else z
/-- The bytes of a text; a text of bytes. -/
def bsI (s : ByteArray) : List Int := s.data.toList.map fun b => ((b.toNat : Nat) : Int)
def strZ (zs : List Int) : ByteArray := ⟨(zs.map fun z => UInt8.ofNat z.toNat).toArray⟩
theorem bytes_bsI (s : ByteArray) : byteCells s = (bsI s).map (fun z : Int => Value.int .u8 z) := by unfold byteCells bsI; rw [List.map_map]; rfl
theorem bsI_len (s : ByteArray) : (bsI s).length = s.size := by unfold bsI; simp
/-- The first so many made small. -/
def lowK (zs : List Int) (k : Nat) : List Int := (zs.take k).map lowZ ++ zs.drop k
theorem lowK_len {zs : List Int} {k : Nat} : (lowK zs k).length = zs.length := by unfold lowK; simp; omega
theorem lowK_at {zs : List Int} {k : Nat} (hk : k < zs.length) : (lowK zs k).getD k 0 = zs.getD k 0 := by
  unfold lowK
  rw [List.getD_eq_getElem?_getD, List.getElem?_append_right (by simp; omega), List.getElem?_drop, List.getD_eq_getElem?_getD]
  congr 2
  simp; omega
theorem lowK_up {zs : List Int} {k : Nat} (hk : k < zs.length) : (lowK zs k).set k (lowZ (zs.getD k 0)) = lowK zs (k + 1) := by
  unfold lowK
  have hl : ((zs.take k).map lowZ).length = k := by simp; omega
  rw [List.set_append_right _ _ (by omega), hl, Nat.sub_self, List.drop_eq_getElem_cons hk, List.take_add_one, List.getElem?_eq_getElem hk, List.map_append, List.append_assoc, List.getD_eq_getElem?_getD, List.getElem?_eq_getElem hk]
  rfl
theorem setZ_same {zs : List Int} {k : Nat} (hk : k < zs.length) : zs.set k (zs.getD k 0) = zs := by
  rw [List.getD_eq_getElem?_getD, List.getElem?_eq_getElem hk]; exact List.set_getElem_self hk
theorem z_at {zs : List Int} {x : Nat} (hx : x < zs.length) : (zs.map (fun z : Int => Value.int .u8 z))[0 + x * 1]? = some (Value.int IntKind.u8 (zs.getD x 0)) := by
  rw [Nat.zero_add, Nat.mul_one, List.getElem?_map, List.getElem?_eq_getElem hx, List.getD_eq_getElem?_getD, List.getElem?_eq_getElem hx]; rfl
theorem z_splice {zs : List Int} {x : Nat} (hx : x < zs.length) (v : Int) : splice (zs.map (fun z : Int => Value.int .u8 z)) (0 + x * 1) [Value.int IntKind.u8 v] = (zs.set x v).map (fun z : Int => Value.int .u8 z) := by
  unfold splice
  rw [Nat.zero_add, Nat.mul_one, List.map_set, List.set_eq_take_append_cons_drop, if_pos (by simpa using hx)]
  simp
section
variable {P : Program}
theorem bytes_loop (zs : List Int) : peval P (bytesLoop (zs.map (fun z : Int => Value.int .u8 z)).toArray) = some (.string (strZ zs)) := by
  have key : ∀ (l : List Int) (b : ByteArray), peval P ((forIn (l.map (fun z : Int => Value.int .u8 z)) b (fun (c : Value) (s : ByteArray) => (match c with | .int .u8 n => (Sem.pure (ForInStep.yield (s.push (UInt8.ofNat n.toNat))) : Sem (ForInStep ByteArray)) | _ => stuck "bytesToString: byte expected")) : Sem ByteArray)) = some ⟨b.data ++ (l.map fun z => UInt8.ofNat z.toNat).toArray⟩ := by
    intro l
    induction l with
    | nil => intro b; simp [peval]; rfl
    | cons z r ih =>
      intro b
      simp only [List.map_cons, List.forIn_cons]
      refine (ih (b.push (UInt8.ofNat z.toNat))).trans ?_
      simp [ByteArray.push]
  unfold bytesLoop
  refine (peval_bind (a := strZ zs) ?_).trans rfl
  rw [List.forIn_toArray]
  refine Eq.trans ?_ ((key zs ByteArray.empty).trans ?_)
  · congr 2
  · show some (ByteArray.mk (#[] ++ (zs.map fun z => UInt8.ofNat z.toNat).toArray)) = some (strZ zs)
    rw [Array.empty_append]; rfl
end
theorem lw_s {zs : List Int} {x : Nat} (hz : zs.length ≤ 9000000000000) (hx : x < zs.length) (g1 : (zs.getD x 0) ≥ 65) (g2 : (zs.getD x 0) ≤ 90) : RoundTo Try.prog callK 10 100 (loopN Try.prog 31 0) 448 449 [3, 8, 9, 10] .normal (mkF [(3, .slice (some ⟨128, 0, none⟩) zs.length zs.length), (8, .slice (some ⟨128, 0, none⟩) zs.length zs.length), (9, .int .i64 (zs.length : Int)), (10, .int .i64 (x : Int))] 30 0) [(128, ⟨5, (zs).map (fun z : Int => Value.int .u8 z), 3⟩)] (mkF [(3, Value.slice (some ⟨128, 0, none⟩) zs.length zs.length), (8, Value.slice (some ⟨128, 0, none⟩) zs.length zs.length), (9, Value.int IntKind.i64 (↑zs.length : Int)), (10, Value.int IntKind.i64 (↑(x + 1) : Int))] 30 0) [(128, ⟨5, List.map (fun z => Value.int IntKind.u8 z) (zs.set x (IntKind.u8.wrap (IntKind.u8.wrap (zs.getD x 0 + 97) - 65))), 3⟩)] 449 := by
  have k0 : (decide ((↑x : Int) < (↑zs.length : Int))) = true := (decide_eq_true (by omega))
  have k1 : (decide (zs.getD x 0 ≥ 65)) = true := (decide_eq_true g1)
  have k2 : (decide (zs.getD x 0 ≤ 90)) = true := (decide_eq_true g2)
  exact roundTo_of [(449, OV.soft (Value.bool true)), (577, OV.idx x), (641, OV.ld (Value.int IntKind.u8 (zs.getD x 0))), (961, OV.soft (Value.bool true)), (1153, OV.soft (Value.bool true)), (1537, OV.idx x), (1601, OV.st (some (List.map (fun z => Value.int IntKind.u8 z) (zs.set x (IntKind.u8.wrap (IntKind.u8.wrap (zs.getD x 0 + 97) - 65)))))), (1665, OV.soft (Value.int IntKind.i64 (↑(x + 1) : Int)))] [] (ps := [decide ((↑x : Int) < (↑zs.length : Int)) = true, 0 ≤ (↑x : Int) ∧ (↑x : Int) < (↑zs.length : Int) ∧ (↑x : Int).toNat = x, (List.map (fun z => Value.int IntKind.u8 z) zs)[0 + x * 1]? = some (Value.int IntKind.u8 (zs.getD x 0)), decide (zs.getD x 0 ≥ 65) = true, decide (zs.getD x 0 ≤ 90) = true, 0 ≤ (↑x : Int) ∧ (↑x : Int) < (↑zs.length : Int) ∧ (↑x : Int).toNat = x, 0 + x * 1 + 1 ≤ (List.map (fun z => Value.int IntKind.u8 z) zs).length, splice (List.map (fun z => Value.int IntKind.u8 z) zs) (0 + x * 1) [Value.int IntKind.u8 (IntKind.u8.wrap (IntKind.u8.wrap (zs.getD x 0 + 97) - 65))] = List.map (fun z => Value.int IntKind.u8 z) (zs.set x (IntKind.u8.wrap (IntKind.u8.wrap (zs.getD x 0 + 97) - 65))), IntKind.i64.wrap ((↑x : Int) + 1) = (↑(x + 1) : Int)]) (by kernel_rfl) (ob_cons k0 (ob_cons (by omega) (ob_cons (z_at hx) (ob_cons k1 (ob_cons k2 (ob_cons (by omega) (ob_cons (by rw [List.length_map]; omega) (ob_cons (z_splice hx _) (ob_cons (up1 (by omega)) ob_nil))))))))) (by decide)

theorem lw_a {zs : List Int} {x : Nat} (hz : zs.length ≤ 9000000000000) (hx : x < zs.length) (g1 : ¬ (zs.getD x 0) ≥ 65) : RoundTo Try.prog callK 10 100 (loopN Try.prog 31 0) 448 449 [3, 8, 9, 10] .normal (mkF [(3, .slice (some ⟨128, 0, none⟩) zs.length zs.length), (8, .slice (some ⟨128, 0, none⟩) zs.length zs.length), (9, .int .i64 (zs.length : Int)), (10, .int .i64 (x : Int))] 30 0) [(128, ⟨5, (zs).map (fun z : Int => Value.int .u8 z), 3⟩)] (mkF [(3, Value.slice (some ⟨128, 0, none⟩) zs.length zs.length), (8, Value.slice (some ⟨128, 0, none⟩) zs.length zs.length), (9, Value.int IntKind.i64 (↑zs.length : Int)), (10, Value.int IntKind.i64 (↑(x + 1) : Int))] 30 0) [(128, ⟨5, List.map (fun z => Value.int IntKind.u8 z) zs, 3⟩)] 449 := by
  have k0 : (decide ((↑x : Int) < (↑zs.length : Int))) = true := (decide_eq_true (by omega))
  have k1 : (decide (zs.getD x 0 ≥ 65)) = false := (decide_eq_false g1)
  exact roundTo_of [(449, OV.soft (Value.bool true)), (577, OV.idx x), (641, OV.ld (Value.int IntKind.u8 (zs.getD x 0))), (961, OV.soft (Value.bool false)), (1217, OV.soft (Value.int IntKind.i64 (↑(x + 1) : Int)))] [] (ps := [decide ((↑x : Int) < (↑zs.length : Int)) = true, 0 ≤ (↑x : Int) ∧ (↑x : Int) < (↑zs.length : Int) ∧ (↑x : Int).toNat = x, (List.map (fun z => Value.int IntKind.u8 z) zs)[0 + x * 1]? = some (Value.int IntKind.u8 (zs.getD x 0)), decide (zs.getD x 0 ≥ 65) = false, IntKind.i64.wrap ((↑x : Int) + 1) = (↑(x + 1) : Int)]) (by kernel_rfl) (ob_cons k0 (ob_cons (by omega) (ob_cons (z_at hx) (ob_cons k1 (ob_cons (up1 (by omega)) ob_nil))))) (by decide)

theorem lw_b {zs : List Int} {x : Nat} (hz : zs.length ≤ 9000000000000) (hx : x < zs.length) (g1 : (zs.getD x 0) ≥ 65) (g2 : ¬ (zs.getD x 0) ≤ 90) : RoundTo Try.prog callK 10 100 (loopN Try.prog 31 0) 448 449 [3, 8, 9, 10] .normal (mkF [(3, .slice (some ⟨128, 0, none⟩) zs.length zs.length), (8, .slice (some ⟨128, 0, none⟩) zs.length zs.length), (9, .int .i64 (zs.length : Int)), (10, .int .i64 (x : Int))] 30 0) [(128, ⟨5, (zs).map (fun z : Int => Value.int .u8 z), 3⟩)] (mkF [(3, Value.slice (some ⟨128, 0, none⟩) zs.length zs.length), (8, Value.slice (some ⟨128, 0, none⟩) zs.length zs.length), (9, Value.int IntKind.i64 (↑zs.length : Int)), (10, Value.int IntKind.i64 (↑(x + 1) : Int))] 30 0) [(128, ⟨5, List.map (fun z => Value.int IntKind.u8 z) zs, 3⟩)] 449 := by
  have k0 : (decide ((↑x : Int) < (↑zs.length : Int))) = true := (decide_eq_true (by omega))
  have k1 : (decide (zs.getD x 0 ≥ 65)) = true := (decide_eq_true g1)
  have k2 : (decide (zs.getD x 0 ≤ 90)) = false := (decide_eq_false g2)
  exact roundTo_of [(449, OV.soft (Value.bool true)), (577, OV.idx x), (641, OV.ld (Value.int IntKind.u8 (zs.getD x 0))), (961, OV.soft (Value.bool true)), (1153, OV.soft (Value.bool false)), (1217, OV.soft (Value.int IntKind.i64 (↑(x + 1) : Int)))] [] (ps := [decide ((↑x : Int) < (↑zs.length : Int)) = true, 0 ≤ (↑x : Int) ∧ (↑x : Int) < (↑zs.length : Int) ∧ (↑x : Int).toNat = x, (List.map (fun z => Value.int IntKind.u8 z) zs)[0 + x * 1]? = some (Value.int IntKind.u8 (zs.getD x 0)), decide (zs.getD x 0 ≥ 65) = true, decide (zs.getD x 0 ≤ 90) = false, IntKind.i64.wrap ((↑x : Int) + 1) = (↑(x + 1) : Int)]) (by kernel_rfl) (ob_cons k0 (ob_cons (by omega) (ob_cons (z_at hx) (ob_cons k1 (ob_cons k2 (ob_cons (up1 (by omega)) ob_nil)))))) (by decide)

theorem lw_e {zs : List Int} {x : Nat} (hx : x = zs.length) : RoundTo Try.prog callK 10 100 (loopN Try.prog 31 0) 448 449 [3] (.exit 0) (mkF [(3, .slice (some ⟨128, 0, none⟩) zs.length zs.length), (8, .slice (some ⟨128, 0, none⟩) zs.length zs.length), (9, .int .i64 (zs.length : Int)), (10, .int .i64 (x : Int))] 30 0) [(128, ⟨5, (zs).map (fun z : Int => Value.int .u8 z), 3⟩)] (mkF [(3, Value.slice (some ⟨128, 0, none⟩) zs.length zs.length)] 30 0) [(128, ⟨5, List.map (fun z => Value.int IntKind.u8 z) zs, 3⟩)] 512 := by
  have k0 : (decide ((↑x : Int) < (↑zs.length : Int))) = false := (decide_eq_false (by omega))
  exact roundTo_of [(449, OV.soft (Value.bool false))] [] (ps := [decide ((↑x : Int) < (↑zs.length : Int)) = false]) (by kernel_rfl) (ob_cons k0 ob_nil) (by decide)

theorem lw_step {zs : List Int} {x : Nat} (hz : zs.length ≤ 9000000000000) (hx : x < zs.length) : RoundTo Try.prog callK 10 100 (loopN Try.prog 31 0) 448 449 [3, 8, 9, 10] .normal (mkF [(3, .slice (some ⟨128, 0, none⟩) zs.length zs.length), (8, .slice (some ⟨128, 0, none⟩) zs.length zs.length), (9, .int .i64 (zs.length : Int)), (10, .int .i64 (x : Int))] 30 0) [(128, ⟨5, ((lowK zs x)).map (fun z : Int => Value.int .u8 z), 3⟩)] (mkF [(3, .slice (some ⟨128, 0, none⟩) zs.length zs.length), (8, .slice (some ⟨128, 0, none⟩) zs.length zs.length), (9, .int .i64 (zs.length : Int)), (10, .int .i64 ((x + 1 : Nat) : Int))] 30 0) [(128, ⟨5, ((lowK zs (x + 1))).map (fun z : Int => Value.int .u8 z), 3⟩)] 449 := by
  have hl : (lowK zs x).length = zs.length := lowK_len
  have ha := lowK_at hx
  rw [← lowK_up hx]
  by_cases g1 : zs.getD x 0 ≥ 65
  · by_cases g2 : zs.getD x 0 ≤ 90
    · have h := lw_s (zs := lowK zs x) (x := x) (by omega) (by omega) (by omega) (by omega)
      rw [hl, ha] at h
      rw [show lowZ (zs.getD x 0) = IntKind.u8.wrap (IntKind.u8.wrap (zs.getD x 0 + 97) - 65) by unfold lowZ; rw [decide_eq_true g1, decide_eq_true g2]; rfl]
      exact h
    · have h := lw_b (zs := lowK zs x) (x := x) (by omega) (by omega) (by omega) (by omega)
      rw [hl] at h
      rw [show lowZ (zs.getD x 0) = (lowK zs x).getD x 0 by rw [ha]; unfold lowZ; rw [decide_eq_true g1, decide_eq_false g2]; rfl, setZ_same (by omega)]
      exact h
  · have h := lw_a (zs := lowK zs x) (x := x) (by omega) (by omega) (by omega)
    rw [hl] at h
    rw [show lowZ (zs.getD x 0) = (lowK zs x).getD x 0 by rw [ha]; unfold lowZ; rw [decide_eq_false g1]; rfl, setZ_same (by omega)]
    exact h
theorem lw_loop {zs : List Int} (hz : zs.length ≤ 9000000000000) : LoopOK Try.prog (loopN Try.prog 31 0) (mkF [(3, .slice (some ⟨128, 0, none⟩) zs.length zs.length), (8, .slice (some ⟨128, 0, none⟩) zs.length zs.length), (9, .int .i64 (zs.length : Int)), (10, .int .i64 ((0 : Nat) : Int))] 30 0) [(128, ⟨5, (zs).map (fun z : Int => Value.int .u8 z), 3⟩)] 448 ⟨.exit 0, mkF [(3, .slice (some ⟨128, 0, none⟩) zs.length zs.length)] 30 0, [(128, ⟨5, ((zs.map lowZ)).map (fun z : Int => Value.int .u8 z), 3⟩)], 512, []⟩ := by
  have h9 := loop_ind callK_spec mixed (LF := 10) (F := 100) (x := loopN Try.prog 31 0) (nx0 := 448) (o := ⟨.exit 0, mkF [(3, .slice (some ⟨128, 0, none⟩) zs.length zs.length)] 30 0, [(128, ⟨5, ((lowK zs zs.length)).map (fun z : Int => Value.int .u8 z), 3⟩)], 512, []⟩) (nxb := 449) (keys := [3, 8, 9, 10]) (keysE := [3]) zs.length (fun k => mkF [(3, .slice (some ⟨128, 0, none⟩) zs.length zs.length), (8, .slice (some ⟨128, 0, none⟩) zs.length zs.length), (9, .int .i64 (zs.length : Int)), (10, .int .i64 (k : Int))] 30 0) (fun k => [(128, ⟨5, ((lowK zs k)).map (fun z : Int => Value.int .u8 z), 3⟩)]) (by decide) (by simp) rfl (fun k hk => lw_step hz hk) (by
    have h := lw_e (zs := lowK zs zs.length) (x := zs.length) lowK_len.symm
    rw [lowK_len] at h
    exact h) (fun h => by cases h)
  have e0 : lowK zs 0 = zs := by unfold lowK; simp
  have e1 : lowK zs zs.length = zs.map lowZ := by unfold lowK; simp
  rw [e0, e1] at h9
  exact h9
/-- What Lower answers. -/
def lowE (s : ByteArray) : ByteArray := strZ ((bsI s).map lowZ)
end Go.Proofs.Ytkdalfdfepipiaa
