/- Pool: tokens; printed by a program of mine. -/
import Derived.Test.YtkdalfdfepipiaaP10
import Derived.Test.YtkdalfdfepipiaaT4
import Derived.KernelRfl
namespace Go.Proofs.Ytkdalfdfepipiaa
open Go.RowKit
set_option linter.unusedSimpArgs false
set_option linter.unusedVariables false
set_option linter.unusedSectionVars false
set_option maxRecDepth 100000
variable [Inhabited RawG]
noncomputable def callK : CallF := aCall Try.prog (orΨ ψtab ΨpartE) 20 100 8
theorem callK_spec : CallSpec Try.prog callK := call_spec (orΨ_spec ψtab_spec ΨpartE_spec) mixed 8
theorem tb_get {k : Nat} : ∀ (m j i : Nat), i < m → (tbB k m j)[i]? = some (Value.int .u8 (bif Nat.blt (j + i) k then flB (j + i) else 0))
  | 0, j, i, h => absurd h (Nat.not_lt_zero i)
  | m + 1, j, 0, h => rfl
  | m + 1, j, i + 1, h => by
    show (tbB k m (j + 1))[i]? = _
    rw [tb_get m (j + 1) i (by omega), show j + 1 + i = j + (i + 1) by omega]
theorem byte_lt {s : ByteArray} {x : Nat} : 0 ≤ bAt s x ∧ bAt s x < 256 := by
  have := (s.data.toList.getD x default).toNat_lt
  unfold bAt
  omega
theorem tb_byte {s : ByteArray} {x : Nat} : (tbB 256 256 0)[0 + (bAt s x).toNat * 1]? = some (Value.int IntKind.u8 (flB (bAt s x).toNat)) := by
  have h := byte_lt (s := s) (x := x)
  have h2 : (bAt s x).toNat < 256 := by omega
  rw [Nat.zero_add, Nat.mul_one, tb_get 256 0 _ h2, Nat.zero_add]
  have : Nat.blt (bAt s x).toNat 256 = true := by rw [Nat.blt_eq]; exact h2
  rw [this]; rfl
section
variable {P : Program} {ev : Operand → Value} {H : Heap} {o : Oper} {nid : Nat} {t e : TypeId} {y ix : Operand} {b off len n : Nat} {i : Int} {k : IntKind} {s : ByteArray} {x : Nat}
theorem idxA (ho : o.op = .indexAddr t y ix) (hx : ev y = .pointer (some ⟨b, off, none⟩)) (hi : ev ix = .int k i) (hu : P.underlying t = some (.array len e)) (hn : peval P (sizeOf e) = some n) (h : 0 ≤ i ∧ i < (len : Int)) : aOpM P ev H o nid = some ⟨.pointer (some ⟨b, off + i.toNat * n, none⟩), [], [], []⟩ := by
  have h2 : flat (ev y) = false := by rw [hx]; rfl
  rw [aOpM_map (by unfold isAggOp; rw [ho]) (by rw [ho]; simp [Op.operands, h2])]
  unfold aMem
  simp only [ho]
  unfold aIndexAddr
  rw [hi, hu, hx]
  simp only [hn]
  rw [if_pos h]
theorem idx_str (ho : o.op = .index t y ix) (hy : ev y = .string s) (hi : ev ix = .int k (x : Int)) (hu : peval P (underlying t) = some .string) (hx : x < s.size) : peval P (execOp ev o) = some (Next.value (.int .u8 (bAt s x))) := by
  have hg : s[x]? = some (s.data.toList.getD x default) := by
    have h' : x < s.data.toList.length := by simpa using hx
    rw [List.getD_eq_getElem?_getD, List.getElem?_eq_getElem h']
    rw [getElem?_pos s x hx]
    rfl
  have hI : peval P (Instr.index t (.string s) (.int k (x : Int))) = some (.int .u8 (bAt s x)) := by
    unfold Instr.index
    show peval P ((underlying t).bind _) = _
    rw [peval_bind hu]
    simp only [Int.natCast_nonneg, if_true, Int.toNat_natCast, hg]
    rfl
  have he : execOp ev o = (Instr.index t (.string s) (.int k (x : Int))).bind fun v => .pure (Next.value v) := by
    unfold execOp
    rw [ho, ← hy, ← hi]
    rfl
  rw [he, peval_bind hI]
  rfl
end
theorem tk_go {s : ByteArray} {x : Nat} (hz : s.size ≤ 9000000000000) (hx : x < s.size) (he : (IntKind.u8.wrap (((BitVec.ofInt IntKind.u8.bits (flB (bAt s x).toNat) &&& BitVec.ofInt IntKind.u8.bits 1).toNat : Nat) : Int) == 0) = false) : RoundTo Try.prog callK 10 100 (loopN Try.prog 48 0) 448 449 [0, 1, 5, 9, 10] .normal (mkF [(0, .string s), (1, .int .u8 1), (5, .pointer (some ⟨128, 0, none⟩)), (9, .int .i64 (s.size : Int)), (10, .int .i64 (x : Int))] 22 0) [(128, ⟨104, tbB 256 256 0, 0⟩)] (mkF [(0, Value.string s), (1, Value.int IntKind.u8 1), (5, Value.pointer (some ⟨128, 0, none⟩)), (9, Value.int IntKind.i64 (↑s.size : Int)), (10, Value.int IntKind.i64 (↑(x + 1) : Int))] 22 0) [(128, ⟨104, (tbB 256 256 0), 0⟩)] 449 := by
  have k0 : (decide ((↑x : Int) < (↑s.size : Int))) = true := (decide_eq_true (by omega))
  have k1 : (IntKind.u8.wrap (↑(BitVec.ofInt IntKind.u8.bits (flB (bAt s x).toNat) &&& BitVec.ofInt IntKind.u8.bits 1).toNat : Int) == 0) = false := he
  exact roundTo_of [(449, OV.soft (Value.bool true)), (769, OV.hard (Value.int IntKind.u8 (bAt s x))), (833, OV.does { v := Value.pointer (some { block := 128, off := 0 + (bAt s x).toNat * 1 }), rd := [], wr := [], nw := [] }), (897, OV.ld (Value.int IntKind.u8 (flB (bAt s x).toNat))), (1089, OV.soft (Value.bool false)), (1153, OV.soft (Value.int IntKind.i64 (↑(x + 1) : Int)))] [] (ps := [decide ((↑x : Int) < (↑s.size : Int)) = true, peval Try.prog (execOp (evF [Value.string s, Value.int IntKind.u8 1, Value.chan (some 0), Value.chan (some 0), Value.chan (some 0), Value.pointer (some ⟨128, 0, none⟩), Value.int IntKind.i64 (↑x : Int), Value.chan (some 0), Value.chan (some 0), Value.int IntKind.i64 (↑s.size : Int), Value.int IntKind.i64 (↑x : Int), Value.bool true, Value.int IntKind.i64 (↑x : Int), Value.string s, Value.int IntKind.i64 (↑x : Int), Value.chan (some 0), Value.chan (some 0), Value.chan (some 0), Value.chan (some 0), Value.chan (some 0), Value.chan (some 0), Value.chan (some 0)]) { dst := some 15, op := Op.index 9 (Operand.tmp 13) (Operand.tmp 14), type := 5, pos := "token.go:41", after := #[{ on := 0, ground := Ground.data }, { on := 1, ground := Ground.data }], guard := none }) = some (Next.value (Value.int IntKind.u8 (bAt s x))), aOpM Try.prog (evF [Value.string s, Value.int IntKind.u8 1, Value.chan (some 0), Value.chan (some 0), Value.chan (some 0), Value.pointer (some ⟨128, 0, none⟩), Value.int IntKind.i64 (↑x : Int), Value.chan (some 0), Value.chan (some 0), Value.int IntKind.i64 (↑s.size : Int), Value.int IntKind.i64 (↑x : Int), Value.bool true, Value.int IntKind.i64 (↑x : Int), Value.string s, Value.int IntKind.i64 (↑x : Int), Value.int IntKind.u8 (bAt s x), Value.chan (some 0), Value.chan (some 0), Value.chan (some 0), Value.chan (some 0), Value.chan (some 0), Value.chan (some 0)]) [(128, ⟨104, (tbB 256 256 0), 0⟩)] { dst := some 16, op := Op.indexAddr 104 (Operand.tmp 5) (Operand.tmp 15), type := 0, pos := "token.go:41", after := #[{ on := 2, ground := Ground.data }], guard := none } 833 = some { v := Value.pointer (some { block := 128, off := 0 + (bAt s x).toNat * 1 }), rd := [], wr := [], nw := [] }, (tbB 256 256 0)[0 + (bAt s x).toNat * 1]? = some (Value.int IntKind.u8 (flB (bAt s x).toNat)), (IntKind.u8.wrap (↑(BitVec.ofInt IntKind.u8.bits (flB (bAt s x).toNat) &&& BitVec.ofInt IntKind.u8.bits 1).toNat : Int) == 0) = false, IntKind.i64.wrap ((↑x : Int) + 1) = (↑(x + 1) : Int)]) (by kernel_rfl) (ob_cons k0 (ob_cons (idx_str rfl rfl rfl (by kernel_rfl) hx) (ob_cons (idxA (e := 5) rfl rfl rfl (by kernel_rfl) (by kernel_rfl) byte_lt) (ob_cons tb_byte (ob_cons k1 (ob_cons (up1 (by omega)) ob_nil)))))) (by decide)

theorem tk_hit {s : ByteArray} {x : Nat} (hz : s.size ≤ 9000000000000) (hx : x < s.size) (he : (IntKind.u8.wrap (((BitVec.ofInt IntKind.u8.bits (flB (bAt s x).toNat) &&& BitVec.ofInt IntKind.u8.bits 1).toNat : Nat) : Int) == 0) = true) : RoundTo Try.prog callK 10 100 (loopN Try.prog 48 0) 448 449 [4] .ret (mkF [(0, .string s), (1, .int .u8 1), (5, .pointer (some ⟨128, 0, none⟩)), (9, .int .i64 (s.size : Int)), (10, .int .i64 (x : Int))] 22 0) [(128, ⟨104, tbB 256 256 0, 0⟩)] (mkF [(4, Value.bool false)] 22 0) [] 512 := by
  have k0 : (decide ((↑x : Int) < (↑s.size : Int))) = true := (decide_eq_true (by omega))
  have k1 : (IntKind.u8.wrap (↑(BitVec.ofInt IntKind.u8.bits (flB (bAt s x).toNat) &&& BitVec.ofInt IntKind.u8.bits 1).toNat : Int) == 0) = true := he
  exact roundTo_of [(449, OV.soft (Value.bool true)), (769, OV.hard (Value.int IntKind.u8 (bAt s x))), (833, OV.does { v := Value.pointer (some { block := 128, off := 0 + (bAt s x).toNat * 1 }), rd := [], wr := [], nw := [] }), (897, OV.ld (Value.int IntKind.u8 (flB (bAt s x).toNat))), (1089, OV.soft (Value.bool true))] [] (ps := [decide ((↑x : Int) < (↑s.size : Int)) = true, peval Try.prog (execOp (evF [Value.string s, Value.int IntKind.u8 1, Value.chan (some 0), Value.chan (some 0), Value.chan (some 0), Value.pointer (some ⟨128, 0, none⟩), Value.int IntKind.i64 (↑x : Int), Value.chan (some 0), Value.chan (some 0), Value.int IntKind.i64 (↑s.size : Int), Value.int IntKind.i64 (↑x : Int), Value.bool true, Value.int IntKind.i64 (↑x : Int), Value.string s, Value.int IntKind.i64 (↑x : Int), Value.chan (some 0), Value.chan (some 0), Value.chan (some 0), Value.chan (some 0), Value.chan (some 0), Value.chan (some 0), Value.chan (some 0)]) { dst := some 15, op := Op.index 9 (Operand.tmp 13) (Operand.tmp 14), type := 5, pos := "token.go:41", after := #[{ on := 0, ground := Ground.data }, { on := 1, ground := Ground.data }], guard := none }) = some (Next.value (Value.int IntKind.u8 (bAt s x))), aOpM Try.prog (evF [Value.string s, Value.int IntKind.u8 1, Value.chan (some 0), Value.chan (some 0), Value.chan (some 0), Value.pointer (some ⟨128, 0, none⟩), Value.int IntKind.i64 (↑x : Int), Value.chan (some 0), Value.chan (some 0), Value.int IntKind.i64 (↑s.size : Int), Value.int IntKind.i64 (↑x : Int), Value.bool true, Value.int IntKind.i64 (↑x : Int), Value.string s, Value.int IntKind.i64 (↑x : Int), Value.int IntKind.u8 (bAt s x), Value.chan (some 0), Value.chan (some 0), Value.chan (some 0), Value.chan (some 0), Value.chan (some 0), Value.chan (some 0)]) [(128, ⟨104, (tbB 256 256 0), 0⟩)] { dst := some 16, op := Op.indexAddr 104 (Operand.tmp 5) (Operand.tmp 15), type := 0, pos := "token.go:41", after := #[{ on := 2, ground := Ground.data }], guard := none } 833 = some { v := Value.pointer (some { block := 128, off := 0 + (bAt s x).toNat * 1 }), rd := [], wr := [], nw := [] }, (tbB 256 256 0)[0 + (bAt s x).toNat * 1]? = some (Value.int IntKind.u8 (flB (bAt s x).toNat)), (IntKind.u8.wrap (↑(BitVec.ofInt IntKind.u8.bits (flB (bAt s x).toNat) &&& BitVec.ofInt IntKind.u8.bits 1).toNat : Int) == 0) = true]) (by kernel_rfl) (ob_cons k0 (ob_cons (idx_str rfl rfl rfl (by kernel_rfl) hx) (ob_cons (idxA (e := 5) rfl rfl rfl (by kernel_rfl) (by kernel_rfl) byte_lt) (ob_cons tb_byte (ob_cons k1 ob_nil))))) (by decide)

theorem tk_end {s : ByteArray} {x : Nat} (hz : s.size ≤ 9000000000000) (hx : x = s.size) : RoundTo Try.prog callK 10 100 (loopN Try.prog 48 0) 448 449 [0] (.exit 0) (mkF [(0, .string s), (1, .int .u8 1), (5, .pointer (some ⟨128, 0, none⟩)), (9, .int .i64 (s.size : Int)), (10, .int .i64 (x : Int))] 22 0) [(128, ⟨104, tbB 256 256 0, 0⟩)] (mkF [(0, Value.string s)] 22 0) [] 512 := by
  have k0 : (decide ((↑x : Int) < (↑s.size : Int))) = false := (decide_eq_false (by omega))
  exact roundTo_of [(449, OV.soft (Value.bool false))] [] (ps := [decide ((↑x : Int) < (↑s.size : Int)) = false]) (by kernel_rfl) (ob_cons k0 ob_nil) (by decide)

theorem tk_lhit {s : ByteArray} {x : Nat} (hz : s.size ≤ 9000000000000) (hl : s.size ≤ 9000000000000) (hx : x < s.size) (he : (IntKind.u8.wrap (((BitVec.ofInt IntKind.u8.bits (flB (bAt s x).toNat) &&& BitVec.ofInt IntKind.u8.bits 1).toNat : Nat) : Int) == 0) = true) (hb : ∀ y, y < x → (IntKind.u8.wrap (((BitVec.ofInt IntKind.u8.bits (flB (bAt s y).toNat) &&& BitVec.ofInt IntKind.u8.bits 1).toNat : Nat) : Int) == 0) = false) : LoopOK Try.prog (loopN Try.prog 48 0) (mkF [(0, .string s), (1, .int .u8 1), (5, .pointer (some ⟨128, 0, none⟩)), (9, .int .i64 (s.size : Int)), (10, .int .i64 ((0 : Nat) : Int))] 22 0) [(128, ⟨104, tbB 256 256 0, 0⟩)] 448 ⟨.ret, mkF [(4, Value.bool false)] 22 0, [], 512, []⟩ := by
  refine loop_ind callK_spec mixed (LF := 10) (F := 100) (nxb := 449) (keys := [0, 1, 5, 9, 10]) (keysE := [4]) x (fun x => mkF [(0, .string s), (1, .int .u8 1), (5, .pointer (some ⟨128, 0, none⟩)), (9, .int .i64 (s.size : Int)), (10, .int .i64 (x : Int))] 22 0) (fun _ => [(128, ⟨104, tbB 256 256 0, 0⟩)]) (by decide) (by simp) rfl ?_ ?_ (fun h => by cases h)
  · intro y hy
    exact tk_go hz (by omega) (hb y hy)
  · exact tk_hit hz hx he
theorem tk_lnone {s : ByteArray} (hz : s.size ≤ 9000000000000) (hl : s.size ≤ 9000000000000) (hb : ∀ y, y < s.size → (IntKind.u8.wrap (((BitVec.ofInt IntKind.u8.bits (flB (bAt s y).toNat) &&& BitVec.ofInt IntKind.u8.bits 1).toNat : Nat) : Int) == 0) = false) : LoopOK Try.prog (loopN Try.prog 48 0) (mkF [(0, .string s), (1, .int .u8 1), (5, .pointer (some ⟨128, 0, none⟩)), (9, .int .i64 (s.size : Int)), (10, .int .i64 ((0 : Nat) : Int))] 22 0) [(128, ⟨104, tbB 256 256 0, 0⟩)] 448 ⟨(.exit 0), mkF [(0, Value.string s)] 22 0, [], 512, []⟩ := by
  refine loop_ind callK_spec mixed (LF := 10) (F := 100) (nxb := 449) (keys := [0, 1, 5, 9, 10]) (keysE := [0]) s.size (fun x => mkF [(0, .string s), (1, .int .u8 1), (5, .pointer (some ⟨128, 0, none⟩)), (9, .int .i64 (s.size : Int)), (10, .int .i64 (x : Int))] 22 0) (fun _ => [(128, ⟨104, tbB 256 256 0, 0⟩)]) (by decide) (by simp) rfl ?_ ?_ (fun h => by cases h)
  · intro y hy
    exact tk_go hz hy (hb y hy)
  · exact tk_end hz rfl
/-- Are all bytes a token's? -/
def tokA (s : ByteArray) : Bool := (List.range s.size).all fun x => !(IntKind.u8.wrap (((BitVec.ofInt IntKind.u8.bits (flB (bAt s x).toNat) &&& BitVec.ofInt IntKind.u8.bits 1).toNat : Nat) : Int) == 0)
theorem tokA_iff {s : ByteArray} : tokA s = true ↔ ∀ x, x < s.size → (IntKind.u8.wrap (((BitVec.ofInt IntKind.u8.bits (flB (bAt s x).toNat) &&& BitVec.ofInt IntKind.u8.bits 1).toNat : Nat) : Int) == 0) = false := by
  unfold tokA; rw [List.all_eq_true]; exact ⟨fun h x hx => by simpa using h x (List.mem_range.2 hx), fun h x hx => by rw [h x (List.mem_range.1 hx)]; rfl⟩
theorem tall_hit {s : ByteArray} (hL : LoopOK Try.prog (loopN Try.prog 48 0) (mkF [(0, .string s), (1, .int .u8 1), (5, .pointer (some ⟨128, 0, none⟩)), (9, .int .i64 (s.size : Int)), (10, .int .i64 ((0 : Nat) : Int))] 22 0) [(128, ⟨104, tbB 256 256 0, 0⟩)] 448 ⟨.ret, mkF [(4, Value.bool false)] 22 0, [], 512, []⟩) : CallOK Try.prog 48 [.string s, .int .u8 1] [] 0 (.bool false) [] := by
  exact callOK_keep (call := callK) [] callK_spec mixed (ω := [(449, OV.loop [0, 1, 5, 9, 10] AX.ret (mkF [(4, Value.bool false)] 22 0) [] 512)]) (LF := 10) (F := 100) (ps := [LoopOK Try.prog (loopN Try.prog 48 0) (mkF [(0, .string s), (1, .int .u8 1), (5, .pointer (some ⟨128, 0, none⟩)), (9, .int .i64 (s.size : Int)), (10, .int .i64 ((0 : Nat) : Int))] 22 0) [(128, ⟨104, tbB 256 256 0, 0⟩)] 448 ⟨.ret, mkF [(4, Value.bool false)] 22 0, [], 512, []⟩]) (by kernel_rfl) (ob_cons hL ob_nil)

theorem tall_none {s : ByteArray} (hL : LoopOK Try.prog (loopN Try.prog 48 0) (mkF [(0, .string s), (1, .int .u8 1), (5, .pointer (some ⟨128, 0, none⟩)), (9, .int .i64 (s.size : Int)), (10, .int .i64 ((0 : Nat) : Int))] 22 0) [(128, ⟨104, tbB 256 256 0, 0⟩)] 448 ⟨(.exit 0), mkF [(0, Value.string s)] 22 0, [], 512, []⟩) : CallOK Try.prog 48 [.string s, .int .u8 1] [] 0 (.bool true) [] := by
  exact callOK_keep (call := callK) [] callK_spec mixed (ω := [(449, OV.loop [0, 1, 5, 9, 10] (AX.exit 0) (mkF [(0, Value.string s)] 22 0) [] 512)]) (LF := 10) (F := 100) (ps := [LoopOK Try.prog (loopN Try.prog 48 0) (mkF [(0, .string s), (1, .int .u8 1), (5, .pointer (some ⟨128, 0, none⟩)), (9, .int .i64 (s.size : Int)), (10, .int .i64 ((0 : Nat) : Int))] 22 0) [(128, ⟨104, tbB 256 256 0, 0⟩)] 448 ⟨(.exit 0), mkF [(0, Value.string s)] 22 0, [], 512, []⟩]) (by kernel_rfl) (ob_cons hL ob_nil)

theorem tall_ok {s : ByteArray} (hz : s.size ≤ 9000000000000) : CallOK Try.prog 48 [.string s, .int .u8 1] [] 0 (.bool (tokA s)) [] := by
  by_cases h3 : ∀ x, x < s.size → (IntKind.u8.wrap (((BitVec.ofInt IntKind.u8.bits (flB (bAt s x).toNat) &&& BitVec.ofInt IntKind.u8.bits 1).toNat : Nat) : Int) == 0) = false
  · rw [tokA_iff.2 h3]
    exact tall_none (tk_lnone hz hz h3)
  · obtain ⟨x, hx, hf, hb⟩ := first_badP h3
    rw [show tokA s = false by rw [← Bool.not_eq_true, tokA_iff]; exact h3]
    exact tall_hit (tk_lhit hz hz hx (by simpa using hf) hb)
theorem token_q {s : ByteArray} {q : Bool} (hq : CallOK Try.prog 48 [.string s, .int .u8 1] [] 0 (.bool q) []) : CallOK Try.prog 22 [.string s] [] 0 (.bool (bif !s.toList == (ByteArray.mk #[]).toList then q else false)) [] := by
  rcases Bool.eq_false_or_eq_true (!s.toList == (ByteArray.mk #[]).toList) with h0 | h0
  · have hv : (.bool (bif !s.toList == (ByteArray.mk #[]).toList then q else false)) = Value.bool q := by rw [h0]; rfl
    rw [hv]
    exact callOK_keep (call := callK) [] callK_spec mixed (ω := [(192, OV.soft (Value.bool true)), (320, OV.call (Value.bool q) [])]) (LF := 10) (F := 100) (ps := [(!s.toList == (ByteArray.mk #[]).toList) = true, CallOK Try.prog 48 [Value.string s, Value.int IntKind.u8 1] [] 0 (Value.bool q) []]) (by kernel_rfl) (ob_cons h0 (ob_cons hq ob_nil))
  · have hv : (.bool (bif !s.toList == (ByteArray.mk #[]).toList then q else false)) = Value.bool false := by rw [h0]; rfl
    rw [hv]
    exact callOK_keep (call := callK) [] callK_spec mixed (ω := [(192, OV.soft (Value.bool false))]) (LF := 10) (F := 100) (ps := [(!s.toList == (ByteArray.mk #[]).toList) = false]) (by kernel_rfl) (ob_cons h0 ob_nil)

/-- What Token answers. -/
def tokE (s : ByteArray) : Bool := bif !s.toList == (ByteArray.mk #[]).toList then tokA s else false
theorem token_ok {s : ByteArray} (hz : s.size ≤ 9000000000000) : CallOK Try.prog 22 [.string s] [] 0 (.bool (tokE s)) [] := token_q (tall_ok hz)
end Go.Proofs.Ytkdalfdfepipiaa
