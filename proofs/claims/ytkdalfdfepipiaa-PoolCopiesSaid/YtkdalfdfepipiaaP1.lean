/- Pool: again; printed by a program of mine. -/
import Derived.Test.YtkdalfdfepipiaaPM
import Derived.Test.YtkdalfdfepipiaaX18
import Derived.Test.YtkdalfdfepipiaaProg
import Derived.KernelRfl
namespace Go.Proofs.Ytkdalfdfepipiaa
open Go.RowKit
set_option linter.unusedSimpArgs false
set_option linter.unusedVariables false
set_option linter.unusedSectionVars false
set_option maxRecDepth 100000
variable [Inhabited RawG]
theorem mixed : Try.prog.follows .mixedOrders = true := by kernel_rfl
noncomputable def callF : CallF := aCall Try.prog (fun _ _ _ _ => none) 300 400 9
theorem none_spec : CallSpec Try.prog (fun _ _ _ _ => none) := fun g av Hs lo v H1 h => by cases h
theorem callF_spec : CallSpec Try.prog callF := call_spec none_spec mixed 9
theorem aOpM_map {P : Program} {ev : Operand → Value} {H : Heap} {o : Oper} {nid : Nat} (h1 : isAggOp ev o.op = false) (h2 : (o.op.operands.all fun x => flat (ev x)) = false) : aOpM P ev H o nid = aMem P ev H o nid := by
  unfold aOpM
  rw [if_neg (by rw [h1]; decide), if_neg (by rw [h2]; exact fun h => by cases h.1)]
section
variable {P : Program} {ev : Operand → Value} {H : Heap} {o : Oper} {nid : Nat} {t kt el tb : TypeId} {m k y : Operand} {b : Nat} {x : ByteArray} {l : List (ByteArray × Int)}
theorem lookO (ho : o.op = .lookup t m k false) (hT : MapT P t kt el) (hm : ev m = .map (some b)) (hk : ev k = .string x) (hH : hget H b = some ⟨tb, mapV l, 4⟩) {v : Int} (hv : ((fndV x l).map (·.2)).getD 0 = v) : aOpM P ev H o nid = some ⟨.int .i64 v, [b], [], []⟩ := by
  have h2 : flat (ev m) = false := by rw [hm]; rfl
  rw [aOpM_map (by unfold isAggOp; rw [ho]) (by rw [ho]; simp [Op.operands, h2])]
  unfold aMem
  simp only [ho]
  rw [← hv]
  exact lookV hT hm hk hH
theorem updO_new (ho : o.op = .mapUpdate t m k y) (hT : MapT P t kt el) (hm : ev m = .map (some b)) (hk : ev k = .string x) (hH : hget H b = some ⟨tb, mapV l, 4⟩) {v : Int} (hy : ev y = .int .i64 v) (hf : fndV x l = none) : aOpM P ev H o nid = some ⟨undef, [b], [(b, some ⟨tb, mapV (l ++ [(x, v)]), 4⟩)], []⟩ := by
  have h2 : flat (ev m) = false := by rw [hm]; rfl
  rw [aOpM_map (by unfold isAggOp; rw [ho]) (by rw [ho]; simp [Op.operands, h2])]
  unfold aMem
  simp only [ho]
  exact updV_new hT hm hk hH hy hf
theorem updO_old (ho : o.op = .mapUpdate t m k y) (hT : MapT P t kt el) (hm : ev m = .map (some b)) (hk : ev k = .string x) (hH : hget H b = some ⟨tb, mapV l, 4⟩) {v w : Int} {j : Nat} (hy : ev y = .int .i64 v) (hf : fndV x l = some (j, w)) : aOpM P ev H o nid = some ⟨undef, [b], [(b, some ⟨tb, mapV (l.set j (x, v)), 4⟩)], []⟩ := by
  have h2 : flat (ev m) = false := by rw [hm]; rfl
  rw [aOpM_map (by unfold isAggOp; rw [ho]) (by rw [ho]; simp [Op.operands, h2])]
  unfold aMem
  simp only [ho]
  exact updV_old hT hm hk hH hy hf
end
theorem mapT : MapT Try.prog 86 9 3 := ⟨by kernel_rfl, by kernel_rfl, fun e x => by cases e <;> kernel_rfl, by kernel_rfl⟩
theorem again_new {l : List (ByteArray × Int)} {x : ByteArray} {j : Nat} (hf : fndV x l = none) : CallOK Try.prog 45 [.map (some 0), .string x] [(0, ⟨86, mapV l, 4⟩)] 1 (.bool false) [(0, ⟨86, mapV (l ++ [(x, (1 : Int))]), 4⟩)] :=
  callOK_keep (call := callF) [0] callF_spec mixed (ω := [(193, OV.does { v := Value.int IntKind.i64 0, rd := [0], wr := [], nw := [] }), (321, OV.does { v := undef, rd := [0], wr := [(0, some ⟨86, mapV (l ++ [(x, 1)]), 4⟩)], nw := [] }), (513, OV.does { v := Value.int IntKind.i64 1, rd := [0], wr := [], nw := [] })]) (LF := 10) (F := 100) (ps := [aOpM Try.prog (evF [Value.map (some 0), Value.string x, Value.tuple #[], Value.tuple #[], Value.bool false, Value.map (some 0), Value.string x, Value.tuple #[], Value.tuple #[], Value.tuple #[], Value.tuple #[], Value.tuple #[], Value.tuple #[]]) [(0, ⟨86, mapV l, 4⟩)] { dst := some 7, op := Op.lookup 86 (Operand.tmp 5) (Operand.tmp 6) false, type := 3, pos := "pool.go:61", after := #[{ on := 0, ground := Ground.data }, { on := 1, ground := Ground.data }], guard := none } 193 = some { v := Value.int IntKind.i64 0, rd := [0], wr := [], nw := [] }, aOpM Try.prog (evF [Value.map (some 0), Value.string x, Value.tuple #[], Value.tuple #[], Value.bool false, Value.map (some 0), Value.string x, Value.int IntKind.i64 0, Value.int IntKind.i64 1, Value.tuple #[], Value.tuple #[], Value.tuple #[], Value.tuple #[]]) [(0, ⟨86, mapV l, 4⟩)] { dst := none, op := Op.mapUpdate 86 (Operand.tmp 5) (Operand.tmp 6) (Operand.tmp 8), type := 0, pos := "pool.go:61", after := #[{ on := 0, ground := Ground.data }, { on := 1, ground := Ground.data }, { on := 3, ground := Ground.data }, { on := 0, ground := Ground.phase }, { on := 1, ground := Ground.phase }, { on := 2, ground := Ground.phase }, { on := 3, ground := Ground.phase }], guard := none } 321 = some { v := undef, rd := [0], wr := [(0, some ⟨86, mapV (l ++ [(x, 1)]), 4⟩)], nw := [] }, aOpM Try.prog (evF [Value.map (some 0), Value.string x, Value.tuple #[], Value.tuple #[], Value.bool false, Value.map (some 0), Value.string x, Value.int IntKind.i64 0, Value.int IntKind.i64 1, Value.map (some 0), Value.string x, Value.tuple #[], Value.tuple #[]]) [(0, ⟨86, mapV (l ++ [(x, 1)]), 4⟩)] { dst := some 11, op := Op.lookup 86 (Operand.tmp 9) (Operand.tmp 10) false, type := 3, pos := "pool.go:62", after := #[{ on := 0, ground := Ground.data }, { on := 1, ground := Ground.data }], guard := none } 513 = some { v := Value.int IntKind.i64 1, rd := [0], wr := [], nw := [] }]) (by kernel_rfl) (ob_cons (lookO rfl mapT rfl rfl rfl (by rw [hf]; rfl)) (ob_cons (updO_new rfl mapT rfl rfl rfl rfl hf) (ob_cons (lookO rfl mapT rfl rfl rfl (by rw [fndV_snoc hf]; rfl)) ob_nil)))
theorem again_old {l : List (ByteArray × Int)} {x : ByteArray} {j : Nat} (hf : fndV x l = some (j, 1)) : CallOK Try.prog 45 [.map (some 0), .string x] [(0, ⟨86, mapV l, 4⟩)] 1 (.bool true) [(0, ⟨86, mapV (l.set j (x, (2 : Int))), 4⟩)] :=
  callOK_keep (call := callF) [0] callF_spec mixed (ω := [(193, OV.does { v := Value.int IntKind.i64 1, rd := [0], wr := [], nw := [] }), (321, OV.does { v := undef, rd := [0], wr := [(0, some ⟨86, mapV (l.set j (x, 2)), 4⟩)], nw := [] }), (513, OV.does { v := Value.int IntKind.i64 2, rd := [0], wr := [], nw := [] })]) (LF := 10) (F := 100) (ps := [aOpM Try.prog (evF [Value.map (some 0), Value.string x, Value.tuple #[], Value.tuple #[], Value.bool false, Value.map (some 0), Value.string x, Value.tuple #[], Value.tuple #[], Value.tuple #[], Value.tuple #[], Value.tuple #[], Value.tuple #[]]) [(0, ⟨86, mapV l, 4⟩)] { dst := some 7, op := Op.lookup 86 (Operand.tmp 5) (Operand.tmp 6) false, type := 3, pos := "pool.go:61", after := #[{ on := 0, ground := Ground.data }, { on := 1, ground := Ground.data }], guard := none } 193 = some { v := Value.int IntKind.i64 1, rd := [0], wr := [], nw := [] }, aOpM Try.prog (evF [Value.map (some 0), Value.string x, Value.tuple #[], Value.tuple #[], Value.bool false, Value.map (some 0), Value.string x, Value.int IntKind.i64 1, Value.int IntKind.i64 2, Value.tuple #[], Value.tuple #[], Value.tuple #[], Value.tuple #[]]) [(0, ⟨86, mapV l, 4⟩)] { dst := none, op := Op.mapUpdate 86 (Operand.tmp 5) (Operand.tmp 6) (Operand.tmp 8), type := 0, pos := "pool.go:61", after := #[{ on := 0, ground := Ground.data }, { on := 1, ground := Ground.data }, { on := 3, ground := Ground.data }, { on := 0, ground := Ground.phase }, { on := 1, ground := Ground.phase }, { on := 2, ground := Ground.phase }, { on := 3, ground := Ground.phase }], guard := none } 321 = some { v := undef, rd := [0], wr := [(0, some ⟨86, mapV (l.set j (x, 2)), 4⟩)], nw := [] }, aOpM Try.prog (evF [Value.map (some 0), Value.string x, Value.tuple #[], Value.tuple #[], Value.bool false, Value.map (some 0), Value.string x, Value.int IntKind.i64 1, Value.int IntKind.i64 2, Value.map (some 0), Value.string x, Value.tuple #[], Value.tuple #[]]) [(0, ⟨86, mapV (l.set j (x, 2)), 4⟩)] { dst := some 11, op := Op.lookup 86 (Operand.tmp 9) (Operand.tmp 10) false, type := 3, pos := "pool.go:62", after := #[{ on := 0, ground := Ground.data }, { on := 1, ground := Ground.data }], guard := none } 513 = some { v := Value.int IntKind.i64 2, rd := [0], wr := [], nw := [] }]) (by kernel_rfl) (ob_cons (lookO rfl mapT rfl rfl rfl (by rw [hf]; rfl)) (ob_cons (updO_old rfl mapT rfl rfl rfl rfl hf) (ob_cons (lookO rfl mapT rfl rfl rfl (by rw [fndV_set hf]; rfl)) ob_nil)))
end Go.Proofs.Ytkdalfdfepipiaa
