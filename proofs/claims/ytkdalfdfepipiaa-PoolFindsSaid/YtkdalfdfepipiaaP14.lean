/- Pool: Lower; printed by a program of mine. -/
import Derived.Test.YtkdalfdfepipiaaP13
import Derived.KernelRfl
namespace Go.Proofs.Ytkdalfdfepipiaa
open Go.RowKit
set_option linter.unusedSimpArgs false
set_option linter.unusedVariables false
set_option linter.unusedSectionVars false
set_option maxRecDepth 100000
variable [Inhabited RawG]
theorem lower_loop {s : ByteArray} (hz : s.size ≤ 9000000000000) : LoopOK Try.prog (loopN Try.prog 31 0) (mkF [(3, .slice (some ⟨128, 0, none⟩) s.size s.size), (8, .slice (some ⟨128, 0, none⟩) s.size s.size), (9, .int .i64 (s.size : Int)), (10, .int .i64 ((0 : Nat) : Int))] 30 0) [(128, ⟨5, byteCells s, 3⟩)] 448 ⟨.exit 0, mkF [(3, .slice (some ⟨128, 0, none⟩) s.size s.size)] 30 0, [(128, ⟨5, ((bsI s).map lowZ).map (fun z : Int => Value.int .u8 z), 3⟩)], 512, []⟩ := by
  have h := lw_loop (zs := bsI s) (by rw [bsI_len]; exact hz)
  rw [bsI_len] at h
  rw [bytes_bsI]
  exact h
section
variable {P : Program} {ev : Operand → Value} {H : Heap} {o : Oper} {nid : Nat} {src dst e : TypeId} {y : Operand} {b n c eb : Nat} {zs : List Int}
theorem convZ (ho : o.op = .convert src dst y) (hx : ev y = .slice (some ⟨b, 0, none⟩) n c) (hH : hget H b = some ⟨eb, zs.map (fun z : Int => Value.int .u8 z), 3⟩) (hn : zs.length = n) (h1 : P.underlying src = some (.slice e)) (h2 : P.underlying dst = some .string) (h3 : P.underlying e = some (.int .u8)) : aOpM P ev H o nid = some ⟨.string (strZ zs), [b], [], []⟩ := by
  have hf : flat (ev y) = false := by rw [hx]; rfl
  rw [aOpM_map (by unfold isAggOp; rw [ho]) (by rw [ho]; simp [Op.operands, hf])]
  unfold aMem
  simp only [ho]
  unfold aConvert
  rw [h1, h2, hx]
  have hC : hgetC H b = some ⟨eb, zs.map (fun z : Int => Value.int .u8 z), 3⟩ := by unfold hgetC; rw [hH]; rfl
  have ht : List.take n (List.drop 0 (zs.map (fun z : Int => Value.int .u8 z))) = zs.map (fun z : Int => Value.int .u8 z) := by rw [List.drop_zero, List.take_of_length_le (by rw [List.length_map]; omega)]
  simp only [h3, hC, ht]
  rw [if_pos ⟨by rw [List.length_map]; omega, by rw [List.all_eq_true]; intro v hv; obtain ⟨z, _, rfl⟩ := List.mem_map.1 hv; rfl⟩, bytes_loop]
end
theorem lower_z {s : ByteArray} {zs : List Int} (hn : zs.length = s.size) (hL : LoopOK Try.prog (loopN Try.prog 31 0) (mkF [(3, .slice (some ⟨128, 0, none⟩) s.size s.size), (8, .slice (some ⟨128, 0, none⟩) s.size s.size), (9, .int .i64 (s.size : Int)), (10, .int .i64 ((0 : Nat) : Int))] 30 0) [(128, ⟨5, byteCells s, 3⟩)] 448 ⟨.exit 0, mkF [(3, .slice (some ⟨128, 0, none⟩) s.size s.size)] 30 0, [(128, ⟨5, (zs).map (fun z : Int => Value.int .u8 z), 3⟩)], 512, []⟩) : CallOK Try.prog 31 [.string s] [] 0 (.string (strZ zs)) [] := by
  exact callOK_keep (call := callK) [] callK_spec mixed (ω := [(449, OV.loop [3, 8, 9, 10] (AX.exit 0) (mkF [(3, Value.slice (some ⟨128, 0, none⟩) s.size s.size)] 30 0) [(128, ⟨5, List.map (fun z => Value.int IntKind.u8 z) zs, 3⟩)] 512), (576, OV.does { v := Value.string (strZ zs), rd := [128], wr := [], nw := [] })]) (LF := 10) (F := 100) (ps := [LoopOK Try.prog (loopN Try.prog 31 0) (mkF [(3, .slice (some ⟨128, 0, none⟩) s.size s.size), (8, .slice (some ⟨128, 0, none⟩) s.size s.size), (9, .int .i64 (s.size : Int)), (10, .int .i64 ((0 : Nat) : Int))] 30 0) [(128, ⟨5, byteCells s, 3⟩)] 448 ⟨.exit 0, mkF [(3, .slice (some ⟨128, 0, none⟩) s.size s.size)] 30 0, [(128, ⟨5, (zs).map (fun z : Int => Value.int .u8 z), 3⟩)], 512, []⟩, aOpM Try.prog (evF [Value.chan (some 0), Value.chan (some 0), Value.chan (some 0), Value.slice (some ⟨128, 0, none⟩) s.size s.size, Value.chan (some 0), Value.chan (some 0), Value.chan (some 0), Value.chan (some 0), Value.chan (some 0), Value.chan (some 0), Value.chan (some 0), Value.chan (some 0), Value.chan (some 0), Value.chan (some 0), Value.chan (some 0), Value.chan (some 0), Value.chan (some 0), Value.chan (some 0), Value.chan (some 0), Value.chan (some 0), Value.chan (some 0), Value.chan (some 0), Value.chan (some 0), Value.chan (some 0), Value.chan (some 0), Value.chan (some 0), Value.chan (some 0), Value.chan (some 0), Value.slice (some ⟨128, 0, none⟩) s.size s.size, Value.chan (some 0)]) [(128, ⟨5, List.map (fun z => Value.int IntKind.u8 z) zs, 3⟩)] { dst := some 29, op := Op.convert 97 9 (Operand.tmp 28), type := 9, pos := "token.go:59", after := #[{ on := 0, ground := Ground.data }], guard := none } 576 = some { v := Value.string (strZ zs), rd := [128], wr := [], nw := [] }]) (by kernel_rfl) (ob_cons hL (ob_cons (convZ (e := 5) rfl rfl rfl hn (by kernel_rfl) (by kernel_rfl) (by kernel_rfl)) ob_nil))

theorem lower_ok {s : ByteArray} (hz : s.size ≤ 9000000000000) : CallOK Try.prog 31 [.string s] [] 0 (.string (lowE s)) [] := lower_z (by rw [List.length_map, bsI_len]) (lower_loop hz)
end Go.Proofs.Ytkdalfdfepipiaa
