/- Pool: Cut; printed by a program of mine. -/
import Derived.Test.YtkdalfdfepipiaaP14
import Derived.KernelRfl
namespace Go.Proofs.Ytkdalfdfepipiaa
open Go.RowKit
set_option linter.unusedSimpArgs false
set_option linter.unusedVariables false
set_option linter.unusedSectionVars false
set_option maxRecDepth 100000
variable [Inhabited RawG]
section
variable {P : Program} {ev : Operand → Value} {o : Oper} {t : TypeId} {y l h : Operand} {i j : Nat} {s : ByteArray}
theorem bnd_ok {y : Nat} {c : BoundsCode} {z : Int} (hz : z = (i : Int)) (hx : i ≤ y) : peval P (Instr.sliceBound (.int .i64 z) y c) = some i := by
  subst hz
  unfold Instr.sliceBound
  show peval P (if 0 ≤ (i : Int) ∧ (i : Int) ≤ (y : Int) then _ else _) = _
  rw [if_pos ⟨Int.natCast_nonneg i, by omega⟩]
  rfl
theorem slc_hi {z : Int} (ho : o.op = .slice t y none (some h) none) (hy : ev y = .string s) (hi : ev h = .int .i64 z) (hu : peval P (underlying t) = some .string) (hz : z = (i : Int)) (hx : i ≤ s.size) : peval P (execOp ev o) = some (Next.value (.string (s.extract 0 i))) := by
  have hI : peval P (Instr.sliceAt t (.string s) none (some (.int .i64 z)) none) = some (.string (s.extract 0 i)) := by
    unfold Instr.sliceAt
    refine (peval_bind hu).trans ?_
    show peval P (Instr.slice t (.string s) none (some (.int .i64 z)) none) = _
    unfold Instr.slice
    refine (peval_bind hu).trans ?_
    have hb : peval P (Instr.sliceBounds false s.size s.size none (some (.int .i64 z)) none) = some (0, i, s.size) := by
      unfold Instr.sliceBounds
      refine (peval_bind (a := s.size) rfl).trans ?_
      refine (peval_bind (a := i) (bnd_ok hz hx)).trans ?_
      rfl
    exact (peval_bind hb).trans rfl
  have he : execOp ev o = (Instr.sliceAt t (.string s) none (some (.int .i64 z)) none).bind fun v => .pure (Next.value v) := by
    unfold execOp
    rw [ho, ← hy, ← hi]
    rfl
  rw [he, peval_bind hI]
  rfl
theorem slc_lo {z : Int} (ho : o.op = .slice t y (some l) none none) (hy : ev y = .string s) (hi : ev l = .int .i64 z) (hu : peval P (underlying t) = some .string) (hz : z = (i : Int)) (hx : i ≤ s.size) : peval P (execOp ev o) = some (Next.value (.string (s.extract i s.size))) := by
  have hI : peval P (Instr.sliceAt t (.string s) (some (.int .i64 z)) none none) = some (.string (s.extract i s.size)) := by
    unfold Instr.sliceAt
    refine (peval_bind hu).trans ?_
    show peval P (Instr.slice t (.string s) (some (.int .i64 z)) none none) = _
    unfold Instr.slice
    refine (peval_bind hu).trans ?_
    have hb : peval P (Instr.sliceBounds false s.size s.size (some (.int .i64 z)) none none) = some (i, s.size, s.size) := by
      unfold Instr.sliceBounds
      refine (peval_bind (a := s.size) rfl).trans ?_
      refine (peval_bind (a := s.size) rfl).trans ?_
      refine (peval_bind (a := i) (bnd_ok hz hx)).trans ?_
      rfl
    exact (peval_bind hb).trans rfl
  have he : execOp ev o = (Instr.sliceAt t (.string s) (some (.int .i64 z)) none none).bind fun v => .pure (Next.value v) := by
    unfold execOp
    rw [ho, ← hy, ← hi]
    rfl
  rw [he, peval_bind hI]
  rfl
end
/-- Where the first colon lies. -/
def colF (s : ByteArray) : Option Nat := (List.range s.size).find? fun i => s[i]! == (58 : Int).toNat.toUInt8
def colB (s : ByteArray) : Int := match colF s with | some i => (i : Int) | none => -1
theorem ext75 (s : ByteArray) : peval Try.prog ((Go.Extern.BytealgIndexByte.indexByte #[.string s, .int .u8 58]).bind fun v => .pure (Next.value v)) = some (Next.value (.int .i64 (colB s))) := by
  refine (peval_bind (a := .int .i64 (colB s)) ?_).trans rfl
  unfold Go.Extern.BytealgIndexByte.indexByte
  refine (peval_bind (a := s) rfl).trans ?_
  refine (peval_bind (a := (58 : Int).toNat.toUInt8) rfl).trans ?_
  unfold colB colF
  cases (List.range s.size).find? fun i => s[i]! == (58 : Int).toNat.toUInt8 <;> rfl
theorem disp75s (s : ByteArray) : peval Try.prog (execOp (evF [Value.string s, Value.int IntKind.u8 58, Value.tuple #[], Value.tuple #[], Value.int IntKind.i64 0, Value.string s, Value.int IntKind.u8 58, Value.tuple #[]]) { dst := some 7, op := Op.call { callee := Callee.value (Operand.func 75), args := #[Operand.tmp 5, Operand.tmp 6], argTypes := #[9, 5] }, type := 3, pos := "strings.go:25", after := #[{ on := 0, ground := Ground.data }, { on := 1, ground := Ground.data }], guard := none }) = peval Try.prog ((Go.Extern.BytealgIndexByte.indexByte #[.string s, .int .u8 58]).bind fun v => .pure (Next.value v)) := by kernel_rfl
theorem hard75s {s : ByteArray} {i : Int} (hi : i = colB s) : peval Try.prog (execOp (evF [Value.string s, Value.int IntKind.u8 58, Value.tuple #[], Value.tuple #[], Value.int IntKind.i64 0, Value.string s, Value.int IntKind.u8 58, Value.tuple #[]]) { dst := some 7, op := Op.call { callee := Callee.value (Operand.func 75), args := #[Operand.tmp 5, Operand.tmp 6], argTypes := #[9, 5] }, type := 3, pos := "strings.go:25", after := #[{ on := 0, ground := Ground.data }, { on := 1, ground := Ground.data }], guard := none }) = some (Next.value (Value.int IntKind.i64 i)) := by
  rw [disp75s, hi]; exact ext75 s
theorem idx71_i {s : ByteArray} {i : Int} (hi : i = colB s) : CallOK Try.prog 71 [.string s, .int .u8 58] [] 0 (.int .i64 i) [] := by
  exact callOK_keep (call := callK) [] callK_spec mixed (ω := [(192, OV.hard (Value.int IntKind.i64 i))]) (LF := 10) (F := 100) (ps := [peval Try.prog (execOp (evF [Value.string s, Value.int IntKind.u8 58, Value.tuple #[], Value.tuple #[], Value.int IntKind.i64 0, Value.string s, Value.int IntKind.u8 58, Value.tuple #[]]) { dst := some 7, op := Op.call { callee := Callee.value (Operand.func 75), args := #[Operand.tmp 5, Operand.tmp 6], argTypes := #[9, 5] }, type := 3, pos := "strings.go:25", after := #[{ on := 0, ground := Ground.data }, { on := 1, ground := Ground.data }], guard := none }) = some (Next.value (Value.int IntKind.i64 i))]) (by kernel_rfl) (ob_cons (hard75s hi) ob_nil)

theorem idx66_i {s : ByteArray} {i : Int} (hi : CallOK Try.prog 71 [.string s, .int .u8 58] [] 0 (.int .i64 i) []) : CallOK Try.prog 66 [.string s, .string ⟨#[58]⟩] [] 0 (.int .i64 (bif (ByteArray.mk #[58]).toList == s.toList then 0 else i)) [] := by
  rcases Bool.eq_false_or_eq_true ((ByteArray.mk #[58]).toList == s.toList) with h0 | h0
  · have hv : (.int .i64 (bif (ByteArray.mk #[58]).toList == s.toList then 0 else i)) = Value.int IntKind.i64 0 := by rw [h0]; rfl
    rw [hv]
    exact callOK_keep (call := callK) [] callK_spec mixed (ω := [(704, OV.soft (Value.bool true))]) (LF := 10) (F := 100) (ps := [((ByteArray.mk #[58]).toList == s.toList) = true]) (by kernel_rfl) (ob_cons h0 ob_nil)
  · have hv : (.int .i64 (bif (ByteArray.mk #[58]).toList == s.toList then 0 else i)) = Value.int IntKind.i64 i := by rw [h0]; rfl
    rw [hv]
    exact callOK_keep (call := callK) [] callK_spec mixed (ω := [(704, OV.soft (Value.bool false)), (1152, OV.call (Value.int IntKind.i64 i) [])]) (LF := 10) (F := 100) (ps := [((ByteArray.mk #[58]).toList == s.toList) = false, CallOK Try.prog 71 [Value.string s, Value.int IntKind.u8 58] [] 0 (Value.int IntKind.i64 i) []]) (by kernel_rfl) (ob_cons h0 (ob_cons hi ob_nil))

theorem s58_size {s : ByteArray} (h : ((ByteArray.mk #[58]).toList == s.toList) = true) : s = ⟨#[58]⟩ := by
  have h1 := eq_of_beq h
  rw [ByteArray.toList_eq, ByteArray.toList_eq] at h1
  exact (congrArg (fun l : List UInt8 => ByteArray.mk l.toArray) h1).symm
theorem idx66_ok {s : ByteArray} : CallOK Try.prog 66 [.string s, .string ⟨#[58]⟩] [] 0 (.int .i64 (colB s)) [] := by
  have h := idx66_i (idx71_i (s := s) rfl)
  cases hb : ((ByteArray.mk #[58]).toList == s.toList) with
  | true =>
    rw [hb] at h
    rw [s58_size hb] at h ⊢
    exact h
  | false => rw [hb] at h; exact h
theorem cut54_t {s : ByteArray} {i : Nat} {a b : ByteArray} (hz : s.size ≤ 9000000000000) (hi : CallOK Try.prog 66 [.string s, .string ⟨#[58]⟩] [] 0 (.int .i64 (i : Int)) []) (hl : i < s.size) (ha : a = s.extract 0 i) (hb : b = s.extract (i + 1) s.size) : CallOK Try.prog 54 [.string s, .string ⟨#[58]⟩] [] 0 (.tuple #[.string a, .string b, .bool true]) [] := by
  exact callOK_keep (call := callK) [] callK_spec mixed (ω := [(320, OV.call (Value.int IntKind.i64 (↑i : Int)) []), (704, OV.hard (Value.string a)), (1024, OV.soft (Value.int IntKind.i64 (↑(i + 1) : Int))), (1088, OV.hard (Value.string b))]) (LF := 10) (F := 100) (ps := [CallOK Try.prog 66 [Value.string s, Value.string (ByteArray.mk #[58])] [] 0 (Value.int IntKind.i64 (↑i : Int)) [], peval Try.prog (execOp (evF [Value.string s, Value.string (ByteArray.mk #[58]), Value.tuple #[], Value.tuple #[], Value.string (ByteArray.mk #[]), Value.string (ByteArray.mk #[]), Value.bool false, Value.int IntKind.i64 (↑i : Int), Value.string s, Value.string (ByteArray.mk #[58]), Value.int IntKind.i64 (↑i : Int), Value.int IntKind.i64 (↑i : Int), Value.bool true, Value.string s, Value.int IntKind.i64 (↑i : Int), Value.tuple #[], Value.tuple #[], Value.tuple #[], Value.tuple #[], Value.tuple #[], Value.tuple #[], Value.tuple #[], Value.tuple #[]]) { dst := some 15, op := Op.slice 9 (Operand.tmp 13) none (some (Operand.tmp 14)) none, type := 9, pos := "strings.go:82", after := #[{ on := 0, ground := Ground.data }, { on := 1, ground := Ground.data }], guard := none }) = some (Next.value (Value.string a)), IntKind.i64.wrap ((↑i : Int) + 1) = (↑(i + 1) : Int), peval Try.prog (execOp (evF [Value.string s, Value.string (ByteArray.mk #[58]), Value.tuple #[], Value.tuple #[], Value.string (ByteArray.mk #[]), Value.string (ByteArray.mk #[]), Value.bool false, Value.int IntKind.i64 (↑i : Int), Value.string s, Value.string (ByteArray.mk #[58]), Value.int IntKind.i64 (↑i : Int), Value.int IntKind.i64 (↑i : Int), Value.bool true, Value.string s, Value.int IntKind.i64 (↑i : Int), Value.string a, Value.string s, Value.int IntKind.i64 (↑i : Int), Value.string (ByteArray.mk #[58]), Value.int IntKind.i64 1, Value.int IntKind.i64 (↑(i + 1) : Int), Value.tuple #[], Value.tuple #[]]) { dst := some 21, op := Op.slice 9 (Operand.tmp 16) (some (Operand.tmp 20)) none none, type := 9, pos := "strings.go:82", after := #[{ on := 3, ground := Ground.data }, { on := 7, ground := Ground.data }], guard := none }) = some (Next.value (Value.string b))]) (by kernel_rfl) (ob_cons hi (ob_cons (by rw [ha]; exact slc_hi rfl rfl rfl (by kernel_rfl) rfl (by omega)) (ob_cons (up1 (by omega)) (ob_cons (by rw [hb]; exact slc_lo rfl rfl rfl (by kernel_rfl) rfl (by omega)) ob_nil))))

theorem cut54_f {s : ByteArray} {i : Int} (hi : CallOK Try.prog 66 [.string s, .string ⟨#[58]⟩] [] 0 (.int .i64 i) []) (hl : i < 0) : CallOK Try.prog 54 [.string s, .string ⟨#[58]⟩] [] 0 (.tuple #[.string s, .string ⟨#[]⟩, .bool false]) [] := by
  have k0 : (decide (i ≥ 0)) = false := (decide_eq_false (by omega))
  exact callOK_keep (call := callK) [] callK_spec mixed (ω := [(320, OV.call (Value.int IntKind.i64 i) []), (512, OV.soft (Value.bool false))]) (LF := 10) (F := 100) (ps := [CallOK Try.prog 66 [Value.string s, Value.string (ByteArray.mk #[58])] [] 0 (Value.int IntKind.i64 i) [], decide (i ≥ 0) = false]) (by kernel_rfl) (ob_cons hi (ob_cons k0 ob_nil))

/-- What Cut answers, and the part before the colon. -/
def cutV (s : ByteArray) : Value := match colF s with | some i => .tuple #[.string (s.extract 0 i), .string (s.extract (i + 1) s.size), .bool true] | none => .tuple #[.string s, .string ⟨#[]⟩, .bool false]
def bareN (s : ByteArray) : ByteArray := match colF s with | some i => s.extract 0 i | none => s
theorem colF_lt {s : ByteArray} {i : Nat} (h : colF s = some i) : i < s.size := List.mem_range.1 (List.mem_of_find?_eq_some h)
theorem cut54_ok {s : ByteArray} (hz : s.size ≤ 9000000000000) : CallOK Try.prog 54 [.string s, .string ⟨#[58]⟩] [] 0 (cutV s) [] := by
  have h := idx66_ok (s := s)
  unfold cutV
  cases hc : colF s with
  | some i =>
    rw [show colB s = (i : Int) by unfold colB; rw [hc]] at h
    exact cut54_t hz h (colF_lt hc) rfl rfl
  | none =>
    rw [show colB s = -1 by unfold colB; rw [hc]] at h
    exact cut54_f h (by decide)
theorem cut30_v {s a b : ByteArray} {q : Bool} (h : CallOK Try.prog 54 [.string s, .string ⟨#[58]⟩] [] 0 (.tuple #[.string a, .string b, .bool q]) []) : CallOK Try.prog 30 [.string s, .string ⟨#[58]⟩] [] 0 (.tuple #[.string a, .string b, .bool q]) [] := by
  exact callOK_keep (call := callK) [] callK_spec mixed (ω := [(320, OV.call (Value.tuple #[Value.string a, Value.string b, Value.bool q]) [])]) (LF := 10) (F := 100) (ps := [CallOK Try.prog 54 [Value.string s, Value.string (ByteArray.mk #[58])] [] 0 (Value.tuple #[Value.string a, Value.string b, Value.bool q]) []]) (by kernel_rfl) (ob_cons h ob_nil)

theorem bare_v {s a b r : ByteArray} {q : Bool} (h : CallOK Try.prog 30 [.string s, .string ⟨#[58]⟩] [] 0 (.tuple #[.string a, .string b, .bool q]) []) (hr : CallOK Try.prog 31 [.string a] [] 0 (.string r) []) : CallOK Try.prog 12 [.string s] [] 0 (.string r) [] := by
  exact callOK_keep (call := callK) [] callK_spec mixed (ω := [(128, OV.call (Value.tuple #[Value.string a, Value.string b, Value.bool q]) []), (704, OV.call (Value.string r) [])]) (LF := 10) (F := 100) (ps := [CallOK Try.prog 30 [Value.string s, Value.string (ByteArray.mk #[58])] [] 0 (Value.tuple #[Value.string a, Value.string b, Value.bool q]) [], CallOK Try.prog 31 [Value.string a] [] 0 (Value.string r) []]) (by kernel_rfl) (ob_cons h (ob_cons hr ob_nil))

/-- What Bare answers. -/
def bareE (s : ByteArray) : ByteArray := lowE (bareN s)
theorem bareN_size {s : ByteArray} : (bareN s).size ≤ s.size := by
  unfold bareN
  split
  · rw [ByteArray.size_extract]; omega
  · exact Nat.le_refl _
theorem bare_ok {s : ByteArray} (hz : s.size ≤ 9000000000000) : CallOK Try.prog 12 [.string s] [] 0 (.string (bareE s)) [] := by
  have h := cut54_ok hz
  have hr := lower_ok (s := bareN s) (Nat.le_trans bareN_size hz)
  show CallOK Try.prog 12 [.string s] [] 0 (.string (lowE (bareN s))) []
  unfold bareN at hr ⊢
  unfold cutV at h
  cases hc : colF s with
  | some i => rw [hc] at h hr; exact bare_v (cut30_v h) hr
  | none => rw [hc] at h hr; exact bare_v (cut30_v h) hr
end Go.Proofs.Ytkdalfdfepipiaa
