/- Pick. PoolSpoils: its pieces. PoolSpoils: the border behind the copy. PoolSpoils: its last region. PoolSpoils behind the copy. PoolSpoils: plain facts. -/
import Derived.Test.YtkdalfdfepipiaaP18
import Derived.KernelRfl
import Derived.Test.YtkdalfdfepipiaaBB
import Derived.Test.YtkdalfdfepipiaaCF
namespace Go.Proofs.Ytkdalfdfepipiaa
section
open Go.RowKit
set_option linter.unusedSimpArgs false
set_option linter.unusedVariables false
set_option linter.unusedSectionVars false
set_option maxRecDepth 100000
variable [Inhabited RawG]
theorem pick_a {n m : Int} (hm : 1 ≤ m) (h : ¬ n.tmod m < 0) : CallOK Try.prog 10 [.int .i64 n, .int .i64 m] [] 0 (.int .i64 (n.tmod m)) [] := by
  have k0 : (decide (m < 1)) = false := (decide_eq_false (by omega))
  have k1 : (decide (n.tmod m < 0)) = false := (decide_eq_false h)
  exact callOK_keep (call := callK) [] callK_spec mixed (ω := [(128, OV.soft (Value.bool false)), (320, OV.div), (512, OV.soft (Value.bool false))]) (LF := 10) (F := 100) (ps := [decide (m < 1) = false, m ≠ 0, decide (n.tmod m < 0) = false]) (by kernel_rfl) (ob_cons k0 (ob_cons (by omega) (ob_cons k1 ob_nil)))

theorem pick_b {n m : Int} (hm : 1 ≤ m) (h : n.tmod m < 0) : CallOK Try.prog 10 [.int .i64 n, .int .i64 m] [] 0 (.int .i64 (IntKind.i64.wrap (n.tmod m + m))) [] := by
  have k0 : (decide (m < 1)) = false := (decide_eq_false (by omega))
  have k1 : (decide (n.tmod m < 0)) = true := (decide_eq_true h)
  exact callOK_keep (call := callK) [] callK_spec mixed (ω := [(128, OV.soft (Value.bool false)), (320, OV.div), (512, OV.soft (Value.bool true))]) (LF := 10) (F := 100) (ps := [decide (m < 1) = false, m ≠ 0, decide (n.tmod m < 0) = true]) (by kernel_rfl) (ob_cons k0 (ob_cons (by omega) (ob_cons k1 ob_nil)))

end
section
open Go.RowKit
set_option linter.unusedSimpArgs false
set_option linter.unusedVariables false
set_option linter.unusedSectionVars false
set_option maxRecDepth 100000
variable [Inhabited RawG]
theorem hs_get0 {l : List ByteArray} (h : 0 < l.length) : (l.map Value.string)[0]? = some (Value.string (l.getD 0 default)) := by
  cases l with
  | nil => cases h
  | cons a t => rfl
theorem hs_set0 {l : List ByteArray} {b : ByteArray} (h : 0 < l.length) : splice (l.map Value.string) 0 [Value.string b] = (l.set 0 b).map Value.string := by
  cases l with
  | nil => cases h
  | cons a t => rfl
theorem bk_set0 {l : List (ByteArray × Nat)} {q : Nat} (h : 0 < l.length) : splice (l.flatMap bkV) 1 [Value.float .f64 q] = (l.set 0 ((l.getD 0 default).1, q)).flatMap bkV := by
  cases l with
  | nil => cases h
  | cons a t => rfl
theorem bk_ld0 {l : List (ByteArray × Nat)} (h : 0 < l.length) : 0 + 2 ≤ (l.flatMap bkV).length ∧ ((l.flatMap bkV).drop 0).take 2 = [Value.string (l.getD 0 default).1, Value.float .f64 (l.getD 0 default).2] := by
  cases l with
  | nil => cases h
  | cons a t => exact ⟨by rw [flatMap_len bkV2]; simp only [List.length_cons]; omega, rfl⟩
theorem sp0 {ps : List PoolT} {cn : ByteArray} {re co rs dl rq cs br bs bm by_ en li he ct bo : Int} {q : Nat} {wh wt : Int}  : CodeOK Try.prog (regN Try.prog 5 0) (mkF [(0, .agg #[.string cn, .slice (some ⟨0, 0, some 2⟩) ps.length 0, .int .i64 re, .int .i64 co, .int .i64 rs, .int .i64 dl, .int .i64 rq, .int .i64 cs, .int .i64 br, .int .i64 bs, .int .i64 bm, .int .i64 by_, .int .i64 en, .float .f64 q, .int .i64 li, .int .i64 he, .int .i64 ct, .int .i64 bo]), (1, .int .i64 wh), (2, .int .i64 wt)] 171 0) [] 0 ⟨.normal, mkF [(1, .int .i64 wh), (2, .int .i64 wt), (3, .pointer (some ⟨0, 0, none⟩)), (6, .bool false)] 171 0, [(0, ⟨29, [.string cn, .slice (some ⟨0, 0, some 2⟩) ps.length 0, .int .i64 re, .int .i64 co, .int .i64 rs, .int .i64 dl, .int .i64 rq, .int .i64 cs, .int .i64 br, .int .i64 bs, .int .i64 bm, .int .i64 by_, .int .i64 en, .float .f64 q, .int .i64 li, .int .i64 he, .int .i64 ct, .int .i64 bo], 0⟩)], 128, []⟩ :=
  codeOK_of callK_spec mixed (ω := []) (LF := 10) (n := 100) (keys := [1, 2, 3, 6]) (ids := [0]) (ps := []) (by kernel_rfl) ob_nil
theorem sp1 {ps : List PoolT} {cn : ByteArray} {re co rs dl rq cs br bs bm by_ en li he ct bo : Int} {q : Nat} {wh wt : Int}  : CodeOK Try.prog (Code.seq (regN Try.prog 5 1) (Code.cond (.tmp 11) (Code.seq (regN Try.prog 5 2) Code.ret) Code.skip)) (mkF [(1, .int .i64 wh), (2, .int .i64 wt), (3, .pointer (some ⟨0, 0, none⟩)), (6, .bool false)] 171 0) [(0, ⟨29, [.string cn, .slice (some ⟨0, 0, some 2⟩) ps.length 0, .int .i64 re, .int .i64 co, .int .i64 rs, .int .i64 dl, .int .i64 rq, .int .i64 cs, .int .i64 br, .int .i64 bs, .int .i64 bm, .int .i64 by_, .int .i64 en, .float .f64 q, .int .i64 li, .int .i64 he, .int .i64 ct, .int .i64 bo], 0⟩)] 128 ⟨.normal, mkF [(1, .int .i64 wh), (2, .int .i64 wt), (3, .pointer (some ⟨0, 0, none⟩)), (6, .bool false)] 171 0, [(0, ⟨29, [.string cn, .slice (some ⟨0, 0, some 2⟩) ps.length 0, .int .i64 re, .int .i64 co, .int .i64 rs, .int .i64 dl, .int .i64 rq, .int .i64 cs, .int .i64 br, .int .i64 bs, .int .i64 bm, .int .i64 by_, .int .i64 en, .float .f64 q, .int .i64 li, .int .i64 he, .int .i64 ct, .int .i64 bo], 0⟩)], 256, []⟩ :=
  codeOK_of callK_spec mixed (ω := []) (LF := 10) (n := 100) (keys := [1, 2, 3, 6]) (ids := [0]) (ps := []) (by kernel_rfl) ob_nil
theorem sp3a {ps : List PoolT} {cn : ByteArray} {re co rs dl rq cs br bs bm by_ en li he ct bo : Int} {q : Nat} {wh wt : Int} {b : Bool} {w : Int} (h8 : CallOK Try.prog 8 [.agg #[.string cn, .slice (some ⟨0, 0, some 2⟩) ps.length 0, .int .i64 re, .int .i64 co, .int .i64 rs, .int .i64 dl, .int .i64 rq, .int .i64 cs, .int .i64 br, .int .i64 bs, .int .i64 bm, .int .i64 by_, .int .i64 en, .float .f64 q, .int .i64 li, .int .i64 he, .int .i64 ct, .int .i64 bo]] [] 0 (.bool b) []) (hb : (!b) = true) : CodeOK Try.prog (Code.seq (regN Try.prog 5 3) (Code.cond (.tmp 19) (Code.seq (regN Try.prog 5 4) Code.ret) Code.skip)) (mkF [(1, .int .i64 wh), (2, .int .i64 wt), (3, .pointer (some ⟨0, 0, none⟩)), (6, .bool false)] 171 0) [(0, ⟨29, [.string cn, .slice (some ⟨0, 0, some 2⟩) ps.length 0, .int .i64 re, .int .i64 co, .int .i64 rs, .int .i64 dl, .int .i64 rq, .int .i64 cs, .int .i64 br, .int .i64 bs, .int .i64 bm, .int .i64 by_, .int .i64 en, .float .f64 q, .int .i64 li, .int .i64 he, .int .i64 ct, .int .i64 bo], 0⟩)] 256 ⟨.ret, mkF [(6, .bool true)] 171 0, [], 832, []⟩ :=
  codeOK_of callK_spec mixed (ω := [(320, OV.call (Value.bool b) []), (448, OV.soft (Value.bool true))]) (LF := 10) (n := 100) (keys := [6]) (ids := []) (ps := [CallOK Try.prog 8 [Value.agg #[Value.string cn, Value.slice (some { block := 0, off := 0, spot := some 2 }) ps.length 0, Value.int IntKind.i64 re, Value.int IntKind.i64 co, Value.int IntKind.i64 rs, Value.int IntKind.i64 dl, Value.int IntKind.i64 rq, Value.int IntKind.i64 cs, Value.int IntKind.i64 br, Value.int IntKind.i64 bs, Value.int IntKind.i64 bm, Value.int IntKind.i64 by_, Value.int IntKind.i64 en, Value.float FloatKind.f64 q, Value.int IntKind.i64 li, Value.int IntKind.i64 he, Value.int IntKind.i64 ct, Value.int IntKind.i64 bo]] [] 0 (Value.bool b) [], (!b) = true]) (by kernel_rfl) (ob_cons h8 (ob_cons hb ob_nil))
theorem sp3b {ps : List PoolT} {cn : ByteArray} {re co rs dl rq cs br bs bm by_ en li he ct bo : Int} {q : Nat} {wh wt : Int} {b : Bool} {w : Int} (h8 : CallOK Try.prog 8 [.agg #[.string cn, .slice (some ⟨0, 0, some 2⟩) ps.length 0, .int .i64 re, .int .i64 co, .int .i64 rs, .int .i64 dl, .int .i64 rq, .int .i64 cs, .int .i64 br, .int .i64 bs, .int .i64 bm, .int .i64 by_, .int .i64 en, .float .f64 q, .int .i64 li, .int .i64 he, .int .i64 ct, .int .i64 bo]] [] 0 (.bool b) []) (h9 : CallOK Try.prog 9 [.agg #[.string cn, .slice (some ⟨0, 0, some 2⟩) ps.length 0, .int .i64 re, .int .i64 co, .int .i64 rs, .int .i64 dl, .int .i64 rq, .int .i64 cs, .int .i64 br, .int .i64 bs, .int .i64 bm, .int .i64 by_, .int .i64 en, .float .f64 q, .int .i64 li, .int .i64 he, .int .i64 ct, .int .i64 bo]] [] 0 (.int .i64 w) []) (hb : (!b) = false) (hw : (w != 0) = true) : CodeOK Try.prog (Code.seq (regN Try.prog 5 3) (Code.cond (.tmp 19) (Code.seq (regN Try.prog 5 4) Code.ret) Code.skip)) (mkF [(1, .int .i64 wh), (2, .int .i64 wt), (3, .pointer (some ⟨0, 0, none⟩)), (6, .bool false)] 171 0) [(0, ⟨29, [.string cn, .slice (some ⟨0, 0, some 2⟩) ps.length 0, .int .i64 re, .int .i64 co, .int .i64 rs, .int .i64 dl, .int .i64 rq, .int .i64 cs, .int .i64 br, .int .i64 bs, .int .i64 bm, .int .i64 by_, .int .i64 en, .float .f64 q, .int .i64 li, .int .i64 he, .int .i64 ct, .int .i64 bo], 0⟩)] 256 ⟨.ret, mkF [(6, .bool true)] 171 0, [], 832, []⟩ :=
  codeOK_of callK_spec mixed (ω := [(320, OV.call (Value.bool b) []), (448, OV.soft (Value.bool false)), (576, OV.call (Value.int IntKind.i64 w) []), (704, OV.soft (Value.bool true))]) (LF := 10) (n := 100) (keys := [6]) (ids := []) (ps := [CallOK Try.prog 8 [Value.agg #[Value.string cn, Value.slice (some { block := 0, off := 0, spot := some 2 }) ps.length 0, Value.int IntKind.i64 re, Value.int IntKind.i64 co, Value.int IntKind.i64 rs, Value.int IntKind.i64 dl, Value.int IntKind.i64 rq, Value.int IntKind.i64 cs, Value.int IntKind.i64 br, Value.int IntKind.i64 bs, Value.int IntKind.i64 bm, Value.int IntKind.i64 by_, Value.int IntKind.i64 en, Value.float FloatKind.f64 q, Value.int IntKind.i64 li, Value.int IntKind.i64 he, Value.int IntKind.i64 ct, Value.int IntKind.i64 bo]] [] 0 (Value.bool b) [], (!b) = false, CallOK Try.prog 9 [Value.agg #[Value.string cn, Value.slice (some { block := 0, off := 0, spot := some 2 }) ps.length 0, Value.int IntKind.i64 re, Value.int IntKind.i64 co, Value.int IntKind.i64 rs, Value.int IntKind.i64 dl, Value.int IntKind.i64 rq, Value.int IntKind.i64 cs, Value.int IntKind.i64 br, Value.int IntKind.i64 bs, Value.int IntKind.i64 bm, Value.int IntKind.i64 by_, Value.int IntKind.i64 en, Value.float FloatKind.f64 q, Value.int IntKind.i64 li, Value.int IntKind.i64 he, Value.int IntKind.i64 ct, Value.int IntKind.i64 bo]] [] 0 (Value.int IntKind.i64 w) [], (w != 0) = true]) (by kernel_rfl) (ob_cons h8 (ob_cons hb (ob_cons h9 (ob_cons hw ob_nil))))
theorem sp3c {ps : List PoolT} {cn : ByteArray} {re co rs dl rq cs br bs bm by_ en li he ct bo : Int} {q : Nat} {wh wt : Int} {b : Bool} {w : Int} (h8 : CallOK Try.prog 8 [.agg #[.string cn, .slice (some ⟨0, 0, some 2⟩) ps.length 0, .int .i64 re, .int .i64 co, .int .i64 rs, .int .i64 dl, .int .i64 rq, .int .i64 cs, .int .i64 br, .int .i64 bs, .int .i64 bm, .int .i64 by_, .int .i64 en, .float .f64 q, .int .i64 li, .int .i64 he, .int .i64 ct, .int .i64 bo]] [] 0 (.bool b) []) (h9 : CallOK Try.prog 9 [.agg #[.string cn, .slice (some ⟨0, 0, some 2⟩) ps.length 0, .int .i64 re, .int .i64 co, .int .i64 rs, .int .i64 dl, .int .i64 rq, .int .i64 cs, .int .i64 br, .int .i64 bs, .int .i64 bm, .int .i64 by_, .int .i64 en, .float .f64 q, .int .i64 li, .int .i64 he, .int .i64 ct, .int .i64 bo]] [] 0 (.int .i64 w) []) (hb : (!b) = false) (hw : (w != 0) = false) : CodeOK Try.prog (Code.seq (regN Try.prog 5 3) (Code.cond (.tmp 19) (Code.seq (regN Try.prog 5 4) Code.ret) Code.skip)) (mkF [(1, .int .i64 wh), (2, .int .i64 wt), (3, .pointer (some ⟨0, 0, none⟩)), (6, .bool false)] 171 0) [(0, ⟨29, [.string cn, .slice (some ⟨0, 0, some 2⟩) ps.length 0, .int .i64 re, .int .i64 co, .int .i64 rs, .int .i64 dl, .int .i64 rq, .int .i64 cs, .int .i64 br, .int .i64 bs, .int .i64 bm, .int .i64 by_, .int .i64 en, .float .f64 q, .int .i64 li, .int .i64 he, .int .i64 ct, .int .i64 bo], 0⟩)] 256 ⟨.normal, mkF [(1, .int .i64 wh), (2, .int .i64 wt), (3, .pointer (some ⟨0, 0, none⟩)), (6, .bool false)] 171 0, [(0, ⟨29, [.string cn, .slice (some ⟨0, 0, some 2⟩) ps.length 0, .int .i64 re, .int .i64 co, .int .i64 rs, .int .i64 dl, .int .i64 rq, .int .i64 cs, .int .i64 br, .int .i64 bs, .int .i64 bm, .int .i64 by_, .int .i64 en, .float .f64 q, .int .i64 li, .int .i64 he, .int .i64 ct, .int .i64 bo], 0⟩)], 768, []⟩ :=
  codeOK_of callK_spec mixed (ω := [(320, OV.call (Value.bool b) []), (448, OV.soft (Value.bool false)), (576, OV.call (Value.int IntKind.i64 w) []), (704, OV.soft (Value.bool false))]) (LF := 10) (n := 100) (keys := [1, 2, 3, 6]) (ids := [0]) (ps := [CallOK Try.prog 8 [Value.agg #[Value.string cn, Value.slice (some { block := 0, off := 0, spot := some 2 }) ps.length 0, Value.int IntKind.i64 re, Value.int IntKind.i64 co, Value.int IntKind.i64 rs, Value.int IntKind.i64 dl, Value.int IntKind.i64 rq, Value.int IntKind.i64 cs, Value.int IntKind.i64 br, Value.int IntKind.i64 bs, Value.int IntKind.i64 bm, Value.int IntKind.i64 by_, Value.int IntKind.i64 en, Value.float FloatKind.f64 q, Value.int IntKind.i64 li, Value.int IntKind.i64 he, Value.int IntKind.i64 ct, Value.int IntKind.i64 bo]] [] 0 (Value.bool b) [], (!b) = false, CallOK Try.prog 9 [Value.agg #[Value.string cn, Value.slice (some { block := 0, off := 0, spot := some 2 }) ps.length 0, Value.int IntKind.i64 re, Value.int IntKind.i64 co, Value.int IntKind.i64 rs, Value.int IntKind.i64 dl, Value.int IntKind.i64 rq, Value.int IntKind.i64 cs, Value.int IntKind.i64 br, Value.int IntKind.i64 bs, Value.int IntKind.i64 bm, Value.int IntKind.i64 by_, Value.int IntKind.i64 en, Value.float FloatKind.f64 q, Value.int IntKind.i64 li, Value.int IntKind.i64 he, Value.int IntKind.i64 ct, Value.int IntKind.i64 bo]] [] 0 (Value.int IntKind.i64 w) [], (w != 0) = false]) (by kernel_rfl) (ob_cons h8 (ob_cons hb (ob_cons h9 (ob_cons hw ob_nil))))
theorem sp6 {E : List PX} {p : PoolT} {n x k : Nat} {cn : ByteArray} {re co rs dl rq cs br bs bm by_ en li he ct bo : Int} {q : Nat} {wh wt : Int} (hn : n ≠ 0) : CodeOK Try.prog (Code.seq (regN Try.prog 5 6) (Code.cond (.tmp 34) (Code.seq (regN Try.prog 5 7) Code.ret) Code.skip)) (mkF [(1, .int .i64 wh), (2, .int .i64 wt), (3, .pointer (some ⟨0, 0, none⟩)), (6, .bool false), (7, .pointer (some ⟨1, 0, none⟩))] 171 0) [(0, ⟨29, [.string cn, .slice (some ⟨0, 0, some 2⟩) n 0, .int .i64 re, .int .i64 co, .int .i64 rs, .int .i64 dl, .int .i64 rq, .int .i64 cs, .int .i64 br, .int .i64 bs, .int .i64 bm, .int .i64 by_, .int .i64 en, .float .f64 q, .int .i64 li, .int .i64 he, .int .i64 ct, .int .i64 bo], 0⟩), (1, ⟨29, [.string cn, .slice (some ⟨2, 0, none⟩) n n, .int .i64 re, .int .i64 co, .int .i64 rs, .int .i64 dl, .int .i64 rq, .int .i64 cs, .int .i64 br, .int .i64 bs, .int .i64 bm, .int .i64 by_, .int .i64 en, .float .f64 q, .int .i64 li, .int .i64 he, .int .i64 ct, .int .i64 bo], 0⟩), (2, ⟨46, E.flatMap realP, 1⟩), (3, ⟨9, p.hs.map Value.string, 3⟩), (4, ⟨54, p.bk.flatMap bkV, 3⟩)] 5 ⟨.normal, mkF [(1, .int .i64 wh), (2, .int .i64 wt), (3, .pointer (some ⟨0, 0, none⟩)), (6, .bool false), (7, .pointer (some ⟨1, 0, none⟩))] 171 0, [(0, ⟨29, [.string cn, .slice (some ⟨0, 0, some 2⟩) n 0, .int .i64 re, .int .i64 co, .int .i64 rs, .int .i64 dl, .int .i64 rq, .int .i64 cs, .int .i64 br, .int .i64 bs, .int .i64 bm, .int .i64 by_, .int .i64 en, .float .f64 q, .int .i64 li, .int .i64 he, .int .i64 ct, .int .i64 bo], 0⟩), (1, ⟨29, [.string cn, .slice (some ⟨2, 0, none⟩) n n, .int .i64 re, .int .i64 co, .int .i64 rs, .int .i64 dl, .int .i64 rq, .int .i64 cs, .int .i64 br, .int .i64 bs, .int .i64 bm, .int .i64 by_, .int .i64 en, .float .f64 q, .int .i64 li, .int .i64 he, .int .i64 ct, .int .i64 bo], 0⟩), (2, ⟨46, E.flatMap realP, 1⟩), (3, ⟨9, p.hs.map Value.string, 3⟩), (4, ⟨54, p.bk.flatMap bkV, 3⟩)], 837, []⟩ :=
  codeOK_of callK_spec mixed (ω := [(261, OV.soft (Value.bool false)), (773, OV.soft (Value.bool false))]) (LF := 10) (n := 100) (keys := [1, 2, 3, 6, 7]) (ids := [0, 1, 2, 3, 4]) (ps := [((↑n : Int) == 0) = false, ((↑n : Int) != (↑n : Int)) = false]) (by kernel_rfl) (ob_cons (by rw [beq_eq_false_iff_ne]; omega) (ob_cons (bne_self_eq_false _) ob_nil))
theorem sp8 {E : List PX} {p : PoolT} {n x k : Nat} {cn : ByteArray} {re co rs dl rq cs br bs bm by_ en li he ct bo : Int} {q : Nat} {wh wt : Int} (h10 : CallOK Try.prog 10 [.int .i64 wh, .int .i64 (n : Int)] [] 0 (.int .i64 (x : Int)) []) : CodeOK Try.prog (regN Try.prog 5 8) (mkF [(1, .int .i64 wh), (2, .int .i64 wt), (3, .pointer (some ⟨0, 0, none⟩)), (6, .bool false), (7, .pointer (some ⟨1, 0, none⟩))] 171 0) [(0, ⟨29, [.string cn, .slice (some ⟨0, 0, some 2⟩) n 0, .int .i64 re, .int .i64 co, .int .i64 rs, .int .i64 dl, .int .i64 rq, .int .i64 cs, .int .i64 br, .int .i64 bs, .int .i64 bm, .int .i64 by_, .int .i64 en, .float .f64 q, .int .i64 li, .int .i64 he, .int .i64 ct, .int .i64 bo], 0⟩), (1, ⟨29, [.string cn, .slice (some ⟨2, 0, none⟩) n n, .int .i64 re, .int .i64 co, .int .i64 rs, .int .i64 dl, .int .i64 rq, .int .i64 cs, .int .i64 br, .int .i64 bs, .int .i64 bm, .int .i64 by_, .int .i64 en, .float .f64 q, .int .i64 li, .int .i64 he, .int .i64 ct, .int .i64 bo], 0⟩), (2, ⟨46, E.flatMap realP, 1⟩), (3, ⟨9, p.hs.map Value.string, 3⟩), (4, ⟨54, p.bk.flatMap bkV, 3⟩)] 837 ⟨.normal, mkF [(1, .int .i64 wh), (2, .int .i64 wt), (3, .pointer (some ⟨0, 0, none⟩)), (6, .bool false), (7, .pointer (some ⟨1, 0, none⟩)), (8, .int .i64 (x : Int))] 171 0, [(0, ⟨29, [.string cn, .slice (some ⟨0, 0, some 2⟩) n 0, .int .i64 re, .int .i64 co, .int .i64 rs, .int .i64 dl, .int .i64 rq, .int .i64 cs, .int .i64 br, .int .i64 bs, .int .i64 bm, .int .i64 by_, .int .i64 en, .float .f64 q, .int .i64 li, .int .i64 he, .int .i64 ct, .int .i64 bo], 0⟩), (1, ⟨29, [.string cn, .slice (some ⟨2, 0, none⟩) n n, .int .i64 re, .int .i64 co, .int .i64 rs, .int .i64 dl, .int .i64 rq, .int .i64 cs, .int .i64 br, .int .i64 bs, .int .i64 bm, .int .i64 by_, .int .i64 en, .float .f64 q, .int .i64 li, .int .i64 he, .int .i64 ct, .int .i64 bo], 0⟩), (2, ⟨46, E.flatMap realP, 1⟩), (3, ⟨9, p.hs.map Value.string, 3⟩), (4, ⟨54, p.bk.flatMap bkV, 3⟩)], 1221, []⟩ :=
  codeOK_of callK_spec mixed (ω := [(1093, OV.call (Value.int IntKind.i64 (↑x : Int)) [])]) (LF := 10) (n := 100) (keys := [1, 2, 3, 6, 7, 8]) (ids := [0, 1, 2, 3, 4]) (ps := [CallOK Try.prog 10 [Value.int IntKind.i64 wh, Value.int IntKind.i64 (↑n : Int)] [] 0 (Value.int IntKind.i64 (↑x : Int)) []]) (by kernel_rfl) (ob_cons h10 ob_nil)
theorem sp9 {E : List PX} {p : PoolT} {n x k : Nat} {cn : ByteArray} {re co rs dl rq cs br bs bm by_ en li he ct bo : Int} {q : Nat} {wh wt : Int} (hn : x < n) : CodeOK Try.prog (regN Try.prog 5 9) (mkF [(1, .int .i64 wh), (2, .int .i64 wt), (3, .pointer (some ⟨0, 0, none⟩)), (6, .bool false), (7, .pointer (some ⟨1, 0, none⟩)), (8, .int .i64 (x : Int))] 171 0) [(0, ⟨29, [.string cn, .slice (some ⟨0, 0, some 2⟩) n 0, .int .i64 re, .int .i64 co, .int .i64 rs, .int .i64 dl, .int .i64 rq, .int .i64 cs, .int .i64 br, .int .i64 bs, .int .i64 bm, .int .i64 by_, .int .i64 en, .float .f64 q, .int .i64 li, .int .i64 he, .int .i64 ct, .int .i64 bo], 0⟩), (1, ⟨29, [.string cn, .slice (some ⟨2, 0, none⟩) n n, .int .i64 re, .int .i64 co, .int .i64 rs, .int .i64 dl, .int .i64 rq, .int .i64 cs, .int .i64 br, .int .i64 bs, .int .i64 bm, .int .i64 by_, .int .i64 en, .float .f64 q, .int .i64 li, .int .i64 he, .int .i64 ct, .int .i64 bo], 0⟩), (2, ⟨46, E.flatMap realP, 1⟩), (3, ⟨9, p.hs.map Value.string, 3⟩), (4, ⟨54, p.bk.flatMap bkV, 3⟩)] 1221 ⟨.normal, mkF [(1, .int .i64 wh), (2, .int .i64 wt), (3, .pointer (some ⟨0, 0, none⟩)), (6, .bool false), (7, .pointer (some ⟨1, 0, none⟩)), (8, .int .i64 (x : Int)), (9, .pointer (some ⟨2, 0 + x * 16, none⟩))] 171 0, [(0, ⟨29, [.string cn, .slice (some ⟨0, 0, some 2⟩) n 0, .int .i64 re, .int .i64 co, .int .i64 rs, .int .i64 dl, .int .i64 rq, .int .i64 cs, .int .i64 br, .int .i64 bs, .int .i64 bm, .int .i64 by_, .int .i64 en, .float .f64 q, .int .i64 li, .int .i64 he, .int .i64 ct, .int .i64 bo], 0⟩), (1, ⟨29, [.string cn, .slice (some ⟨2, 0, none⟩) n n, .int .i64 re, .int .i64 co, .int .i64 rs, .int .i64 dl, .int .i64 rq, .int .i64 cs, .int .i64 br, .int .i64 bs, .int .i64 bm, .int .i64 by_, .int .i64 en, .float .f64 q, .int .i64 li, .int .i64 he, .int .i64 ct, .int .i64 bo], 0⟩), (2, ⟨46, E.flatMap realP, 1⟩), (3, ⟨9, p.hs.map Value.string, 3⟩), (4, ⟨54, p.bk.flatMap bkV, 3⟩)], 1541, []⟩ :=
  codeOK_of callK_spec mixed (ω := [(1413, OV.idx x)]) (LF := 10) (n := 100) (keys := [1, 2, 3, 6, 7, 8, 9]) (ids := [0, 1, 2, 3, 4]) (ps := [0 ≤ (↑x : Int) ∧ (↑x : Int) < (↑n : Int) ∧ (↑x : Int).toNat = x]) (by kernel_rfl) (ob_cons (by omega) ob_nil)
theorem sp10 {E : List PX} {p : PoolT} {n x k : Nat} {cn : ByteArray} {re co rs dl rq cs br bs bm by_ en li he ct bo : Int} {q : Nat} {wh wt : Int} (hx : x < E.length) (hE : E.getD x default = (p, .slice (some ⟨3, 0, none⟩) p.hs.length p.hs.length, .slice (some ⟨4, 0, none⟩) p.bk.length p.bk.length)) (hhp : 0 < p.hs.length) (hbp : 0 < p.bk.length) : CodeOK Try.prog (Code.seq (regN Try.prog 5 10) (Code.cond (.tmp 57) (Code.seq (regN Try.prog 5 11) Code.ret) Code.skip)) (mkF [(1, .int .i64 wh), (2, .int .i64 wt), (3, .pointer (some ⟨0, 0, none⟩)), (6, .bool false), (7, .pointer (some ⟨1, 0, none⟩)), (8, .int .i64 (x : Int)), (9, .pointer (some ⟨2, 0 + x * 16, none⟩))] 171 0) [(0, ⟨29, [.string cn, .slice (some ⟨0, 0, some 2⟩) n 0, .int .i64 re, .int .i64 co, .int .i64 rs, .int .i64 dl, .int .i64 rq, .int .i64 cs, .int .i64 br, .int .i64 bs, .int .i64 bm, .int .i64 by_, .int .i64 en, .float .f64 q, .int .i64 li, .int .i64 he, .int .i64 ct, .int .i64 bo], 0⟩), (1, ⟨29, [.string cn, .slice (some ⟨2, 0, none⟩) n n, .int .i64 re, .int .i64 co, .int .i64 rs, .int .i64 dl, .int .i64 rq, .int .i64 cs, .int .i64 br, .int .i64 bs, .int .i64 bm, .int .i64 by_, .int .i64 en, .float .f64 q, .int .i64 li, .int .i64 he, .int .i64 ct, .int .i64 bo], 0⟩), (2, ⟨46, E.flatMap realP, 1⟩), (3, ⟨9, p.hs.map Value.string, 3⟩), (4, ⟨54, p.bk.flatMap bkV, 3⟩)] 1541 ⟨.normal, mkF [(1, .int .i64 wh), (2, .int .i64 wt), (3, .pointer (some ⟨0, 0, none⟩)), (6, .bool false), (7, .pointer (some ⟨1, 0, none⟩)), (8, .int .i64 (x : Int)), (9, .pointer (some ⟨2, 0 + x * 16, none⟩))] 171 0, [(0, ⟨29, [.string cn, .slice (some ⟨0, 0, some 2⟩) n 0, .int .i64 re, .int .i64 co, .int .i64 rs, .int .i64 dl, .int .i64 rq, .int .i64 cs, .int .i64 br, .int .i64 bs, .int .i64 bm, .int .i64 by_, .int .i64 en, .float .f64 q, .int .i64 li, .int .i64 he, .int .i64 ct, .int .i64 bo], 0⟩), (1, ⟨29, [.string cn, .slice (some ⟨2, 0, none⟩) n n, .int .i64 re, .int .i64 co, .int .i64 rs, .int .i64 dl, .int .i64 rq, .int .i64 cs, .int .i64 br, .int .i64 bs, .int .i64 bm, .int .i64 by_, .int .i64 en, .float .f64 q, .int .i64 li, .int .i64 he, .int .i64 ct, .int .i64 bo], 0⟩), (2, ⟨46, E.flatMap realP, 1⟩), (3, ⟨9, p.hs.map Value.string, 3⟩), (4, ⟨54, p.bk.flatMap bkV, 3⟩)], 2437, []⟩ :=
  codeOK_of callK_spec mixed (ω := [(1733, OV.ld (Value.slice (some ⟨3, 0, none⟩) p.hs.length p.hs.length)), (1925, OV.soft (Value.bool false)), (2181, OV.ld (Value.slice (some ⟨4, 0, none⟩) p.bk.length p.bk.length)), (2373, OV.soft (Value.bool false))]) (LF := 10) (n := 100) (keys := [1, 2, 3, 6, 7, 8, 9]) (ids := [0, 1, 2, 3, 4]) (ps := [(List.flatMap realP E)[0 + x * 16 + 1]? = some (Value.slice (some ⟨3, 0, none⟩) p.hs.length p.hs.length), ((↑p.hs.length : Int) == 0) = false, (List.flatMap realP E)[0 + x * 16 + 2]? = some (Value.slice (some ⟨4, 0, none⟩) p.bk.length p.bk.length), ((↑p.bk.length : Int) == 0) = false]) (by kernel_rfl) (ob_cons (by rw [flatMap_cell (c := 1) realP16 default hx (by decide), hE]; rfl) (ob_cons (by rw [beq_eq_false_iff_ne]; omega) (ob_cons (by rw [flatMap_cell (c := 2) realP16 default hx (by decide), hE]; rfl) (ob_cons (by rw [beq_eq_false_iff_ne]; omega) ob_nil))))
theorem sps_0 {E : List PX} {p : PoolT} {n x k : Nat} {cn : ByteArray} {re co rs dl rq cs br bs bm by_ en li he ct bo : Int} {q : Nat} {wh wt : Int} (hk : CallOK Try.prog 10 [.int .i64 wt, .int .i64 14] [] 0 (.int .i64 0) []) (hx : x < E.length) (hE : E.getD x default = (p, .slice (some ⟨3, 0, none⟩) p.hs.length p.hs.length, .slice (some ⟨4, 0, none⟩) p.bk.length p.bk.length)) (hn : E.length = n) (h9 : n ≤ 9000000000) (hhp : 0 < p.hs.length) (hbp : 0 < p.bk.length) (hh9 : p.hs.length ≤ 9000000000) (hb9 : p.bk.length ≤ 9000000000) : CodeOK Try.prog (Code.seq (regN Try.prog 5 12) (Code.block 0 (((regN Try.prog 5 13)).seq (Code.cond (.tmp 62) ((regN Try.prog 5 14)) (((regN Try.prog 5 15)).seq (Code.cond (.tmp 67) ((regN Try.prog 5 16)) (((regN Try.prog 5 17)).seq (Code.cond (.tmp 84) ((regN Try.prog 5 18)) (((regN Try.prog 5 19)).seq (Code.cond (.tmp 91) ((regN Try.prog 5 20)) (((regN Try.prog 5 21)).seq (Code.cond (.tmp 108) ((regN Try.prog 5 22)) (((regN Try.prog 5 23)).seq (Code.cond (.tmp 117) ((regN Try.prog 5 24)) (((regN Try.prog 5 25)).seq (Code.cond (.tmp 122) ((regN Try.prog 5 26)) (((regN Try.prog 5 27)).seq (Code.cond (.tmp 136) ((regN Try.prog 5 28)) (((regN Try.prog 5 29)).seq (Code.cond (.tmp 146) ((regN Try.prog 5 30)) (((regN Try.prog 5 31)).seq (Code.cond (.tmp 149) ((regN Try.prog 5 32)) (((regN Try.prog 5 33)).seq (Code.cond (.tmp 153) ((regN Try.prog 5 34)) (((regN Try.prog 5 35)).seq (Code.cond (.tmp 156) ((regN Try.prog 5 36)) (((regN Try.prog 5 37)).seq (Code.cond (.tmp 159) ((regN Try.prog 5 38)) ((regN Try.prog 5 39)))))))))))))))))))))))))))))) (mkF [(1, .int .i64 wh), (2, .int .i64 wt), (3, .pointer (some ⟨0, 0, none⟩)), (6, .bool false), (7, .pointer (some ⟨1, 0, none⟩)), (8, .int .i64 (x : Int)), (9, .pointer (some ⟨2, 0 + x * 16, none⟩))] 171 0) [(0, ⟨29, [.string cn, .slice (some ⟨0, 0, some 2⟩) n 0, .int .i64 re, .int .i64 co, .int .i64 rs, .int .i64 dl, .int .i64 rq, .int .i64 cs, .int .i64 br, .int .i64 bs, .int .i64 bm, .int .i64 by_, .int .i64 en, .float .f64 q, .int .i64 li, .int .i64 he, .int .i64 ct, .int .i64 bo], 0⟩), (1, ⟨29, [.string cn, .slice (some ⟨2, 0, none⟩) n n, .int .i64 re, .int .i64 co, .int .i64 rs, .int .i64 dl, .int .i64 rq, .int .i64 cs, .int .i64 br, .int .i64 bs, .int .i64 bm, .int .i64 by_, .int .i64 en, .float .f64 q, .int .i64 li, .int .i64 he, .int .i64 ct, .int .i64 bo], 0⟩), (2, ⟨46, E.flatMap realP, 1⟩), (3, ⟨9, p.hs.map Value.string, 3⟩), (4, ⟨54, p.bk.flatMap bkV, 3⟩)] 2437 ⟨.normal, mkF [(3, .pointer (some ⟨0, 0, none⟩)), (7, .pointer (some ⟨1, 0, none⟩))] 171 0, [(0, ⟨29, [.string cn, .slice (some ⟨0, 0, some 2⟩) n 0, .int .i64 re, .int .i64 co, .int .i64 rs, .int .i64 dl, .int .i64 rq, .int .i64 cs, .int .i64 br, .int .i64 bs, .int .i64 bm, .int .i64 by_, .int .i64 en, .float .f64 q, .int .i64 li, .int .i64 he, .int .i64 ct, .int .i64 bo], 0⟩), (1, ⟨29, [.string cn, .slice (some ⟨2, 0, none⟩) n n, .int .i64 re, .int .i64 co, .int .i64 rs, .int .i64 dl, .int .i64 rq, .int .i64 cs, .int .i64 br, .int .i64 bs, .int .i64 bm, .int .i64 by_, .int .i64 en, .float .f64 q, .int .i64 li, .int .i64 he, .int .i64 ct, .int .i64 bo], 0⟩), (2, ⟨46, (E.set x ({ p with nm := ⟨#[]⟩ }, .slice (some ⟨3, 0, none⟩) p.hs.length p.hs.length, .slice (some ⟨4, 0, none⟩) p.bk.length p.bk.length)).flatMap realP, 1⟩), (3, ⟨9, p.hs.map Value.string, 3⟩), (4, ⟨54, p.bk.flatMap bkV, 3⟩)], 2949, []⟩ :=
  codeOK_of callK_spec mixed (ω := [(2501, OV.call (Value.int IntKind.i64 0) []), (2885, OV.st (some (List.flatMap realP (E.set x ({ nm := (ByteArray.mk #[]), ih := p.ih, hs := p.hs, ib := p.ib, bk := p.bk, po := p.po, b1 := p.b1, b2 := p.b2, b3 := p.b3, b4 := p.b4, e1 := p.e1, e2 := p.e2, e3 := p.e3, e4 := p.e4, p1 := p.p1, p2 := p.p2, p3 := p.p3, p4 := p.p4 }, Value.slice (some ⟨3, 0, none⟩) p.hs.length p.hs.length, Value.slice (some ⟨4, 0, none⟩) p.bk.length p.bk.length)))))]) (LF := 10) (n := 100) (keys := [3, 7]) (ids := [0, 1, 2, 3, 4]) (ps := [CallOK Try.prog 10 [Value.int IntKind.i64 wt, Value.int IntKind.i64 14] [] 0 (Value.int IntKind.i64 0) [], 0 + x * 16 + 0 + 1 ≤ (List.flatMap realP E).length, splice (List.flatMap realP E) (0 + x * 16 + 0) [Value.string (ByteArray.mk #[])] = List.flatMap realP (E.set x ({ nm := (ByteArray.mk #[]), ih := p.ih, hs := p.hs, ib := p.ib, bk := p.bk, po := p.po, b1 := p.b1, b2 := p.b2, b3 := p.b3, b4 := p.b4, e1 := p.e1, e2 := p.e2, e3 := p.e3, e4 := p.e4, p1 := p.p1, p2 := p.p2, p3 := p.p3, p4 := p.p4 }, Value.slice (some ⟨3, 0, none⟩) p.hs.length p.hs.length, Value.slice (some ⟨4, 0, none⟩) p.bk.length p.bk.length))]) (by kernel_rfl) (ob_cons hk (ob_cons (cell_le (c := 0) (n := 1) realP16 hx (by decide)) (ob_cons (splice_set realP16 default hx (Nat.le_of_ble_eq_true rfl) (by rw [hE]; rfl)) ob_nil)))
theorem sps_1 {E : List PX} {p : PoolT} {n x k : Nat} {cn : ByteArray} {re co rs dl rq cs br bs bm by_ en li he ct bo : Int} {q : Nat} {wh wt : Int} (hk : CallOK Try.prog 10 [.int .i64 wt, .int .i64 14] [] 0 (.int .i64 1) []) (hx : x < E.length) (hE : E.getD x default = (p, .slice (some ⟨3, 0, none⟩) p.hs.length p.hs.length, .slice (some ⟨4, 0, none⟩) p.bk.length p.bk.length)) (hn : E.length = n) (h9 : n ≤ 9000000000) (hhp : 0 < p.hs.length) (hbp : 0 < p.bk.length) (hh9 : p.hs.length ≤ 9000000000) (hb9 : p.bk.length ≤ 9000000000) : CodeOK Try.prog (Code.seq (regN Try.prog 5 12) (Code.block 0 (((regN Try.prog 5 13)).seq (Code.cond (.tmp 62) ((regN Try.prog 5 14)) (((regN Try.prog 5 15)).seq (Code.cond (.tmp 67) ((regN Try.prog 5 16)) (((regN Try.prog 5 17)).seq (Code.cond (.tmp 84) ((regN Try.prog 5 18)) (((regN Try.prog 5 19)).seq (Code.cond (.tmp 91) ((regN Try.prog 5 20)) (((regN Try.prog 5 21)).seq (Code.cond (.tmp 108) ((regN Try.prog 5 22)) (((regN Try.prog 5 23)).seq (Code.cond (.tmp 117) ((regN Try.prog 5 24)) (((regN Try.prog 5 25)).seq (Code.cond (.tmp 122) ((regN Try.prog 5 26)) (((regN Try.prog 5 27)).seq (Code.cond (.tmp 136) ((regN Try.prog 5 28)) (((regN Try.prog 5 29)).seq (Code.cond (.tmp 146) ((regN Try.prog 5 30)) (((regN Try.prog 5 31)).seq (Code.cond (.tmp 149) ((regN Try.prog 5 32)) (((regN Try.prog 5 33)).seq (Code.cond (.tmp 153) ((regN Try.prog 5 34)) (((regN Try.prog 5 35)).seq (Code.cond (.tmp 156) ((regN Try.prog 5 36)) (((regN Try.prog 5 37)).seq (Code.cond (.tmp 159) ((regN Try.prog 5 38)) ((regN Try.prog 5 39)))))))))))))))))))))))))))))) (mkF [(1, .int .i64 wh), (2, .int .i64 wt), (3, .pointer (some ⟨0, 0, none⟩)), (6, .bool false), (7, .pointer (some ⟨1, 0, none⟩)), (8, .int .i64 (x : Int)), (9, .pointer (some ⟨2, 0 + x * 16, none⟩))] 171 0) [(0, ⟨29, [.string cn, .slice (some ⟨0, 0, some 2⟩) n 0, .int .i64 re, .int .i64 co, .int .i64 rs, .int .i64 dl, .int .i64 rq, .int .i64 cs, .int .i64 br, .int .i64 bs, .int .i64 bm, .int .i64 by_, .int .i64 en, .float .f64 q, .int .i64 li, .int .i64 he, .int .i64 ct, .int .i64 bo], 0⟩), (1, ⟨29, [.string cn, .slice (some ⟨2, 0, none⟩) n n, .int .i64 re, .int .i64 co, .int .i64 rs, .int .i64 dl, .int .i64 rq, .int .i64 cs, .int .i64 br, .int .i64 bs, .int .i64 bm, .int .i64 by_, .int .i64 en, .float .f64 q, .int .i64 li, .int .i64 he, .int .i64 ct, .int .i64 bo], 0⟩), (2, ⟨46, E.flatMap realP, 1⟩), (3, ⟨9, p.hs.map Value.string, 3⟩), (4, ⟨54, p.bk.flatMap bkV, 3⟩)] 2437 ⟨.normal, mkF [(3, .pointer (some ⟨0, 0, none⟩)), (7, .pointer (some ⟨1, 0, none⟩))] 171 0, [(0, ⟨29, [.string cn, .slice (some ⟨0, 0, some 2⟩) n 0, .int .i64 re, .int .i64 co, .int .i64 rs, .int .i64 dl, .int .i64 rq, .int .i64 cs, .int .i64 br, .int .i64 bs, .int .i64 bm, .int .i64 by_, .int .i64 en, .float .f64 q, .int .i64 li, .int .i64 he, .int .i64 ct, .int .i64 bo], 0⟩), (1, ⟨29, [.string cn, .slice (some ⟨2, 0, none⟩) n n, .int .i64 re, .int .i64 co, .int .i64 rs, .int .i64 dl, .int .i64 rq, .int .i64 cs, .int .i64 br, .int .i64 bs, .int .i64 bm, .int .i64 by_, .int .i64 en, .float .f64 q, .int .i64 li, .int .i64 he, .int .i64 ct, .int .i64 bo], 0⟩), (2, ⟨46, (E.set x ({ p with hs := p.hs ++ [p.hs.getD 0 default] }, .slice (some ⟨3589, 0, none⟩) (p.hs.length + 1) (p.hs.length + 1), .slice (some ⟨4, 0, none⟩) p.bk.length p.bk.length)).flatMap realP, 1⟩), (4, ⟨54, p.bk.flatMap bkV, 3⟩), (3589, ⟨9, (p.hs ++ [p.hs.getD 0 default]).map Value.string, 3⟩)], 3845, []⟩ :=
  codeOK_of callK_spec mixed (ω := [(2501, OV.call (Value.int IntKind.i64 1) []), (3077, OV.ld (Value.slice (some ⟨3, 0, none⟩) p.hs.length p.hs.length)), (3333, OV.ld (Value.slice (some ⟨3, 0, none⟩) p.hs.length p.hs.length)), (3397, OV.idx (Int.toNat 0)), (3461, OV.ld (Value.string (p.hs.getD 0 default))), (3589, OV.app 2 (some (List.map Value.string (p.hs ++ [p.hs.getD 0 default])))), (3781, OV.st (some (List.flatMap realP (E.set x ({ nm := p.nm, ih := p.ih, hs := p.hs ++ [p.hs.getD 0 default], ib := p.ib, bk := p.bk, po := p.po, b1 := p.b1, b2 := p.b2, b3 := p.b3, b4 := p.b4, e1 := p.e1, e2 := p.e2, e3 := p.e3, e4 := p.e4, p1 := p.p1, p2 := p.p2, p3 := p.p3, p4 := p.p4 }, Value.slice (some ⟨3589, 0, none⟩) (p.hs.length + 1) (p.hs.length + 1), Value.slice (some ⟨4, 0, none⟩) p.bk.length p.bk.length)))))]) (LF := 10) (n := 100) (keys := [3, 7]) (ids := [0, 1, 2, 3589, 4]) (ps := [CallOK Try.prog 10 [Value.int IntKind.i64 wt, Value.int IntKind.i64 14] [] 0 (Value.int IntKind.i64 1) [], (List.flatMap realP E)[0 + x * 16 + 1]? = some (Value.slice (some ⟨3, 0, none⟩) p.hs.length p.hs.length), (List.flatMap realP E)[0 + x * 16 + 1]? = some (Value.slice (some ⟨3, 0, none⟩) p.hs.length p.hs.length), (0 : Int) ≤ (0 : Int) ∧ (0 : Int) < (↑p.hs.length : Int) ∧ Int.toNat 0 = 0, (List.map Value.string p.hs)[0]? = some (Value.string (p.hs.getD 0 default)), (p.hs.length + 1) * 16 ≤ 140737488355328 ∧ p.hs.length + 1 ≤ 9223372036854775807 ∧ p.hs.length * 1 = (List.map Value.string p.hs).length, List.map Value.string p.hs ++ [Value.string (p.hs.getD 0 default)] = List.map Value.string (p.hs ++ [p.hs.getD 0 default]), 0 + x * 16 + 1 + 1 ≤ (List.flatMap realP E).length, splice (List.flatMap realP E) (0 + x * 16 + 1) [Value.slice (some ⟨3589, 0, none⟩) (p.hs.length + 1) (p.hs.length + 1)] = List.flatMap realP (E.set x ({ nm := p.nm, ih := p.ih, hs := p.hs ++ [p.hs.getD 0 default], ib := p.ib, bk := p.bk, po := p.po, b1 := p.b1, b2 := p.b2, b3 := p.b3, b4 := p.b4, e1 := p.e1, e2 := p.e2, e3 := p.e3, e4 := p.e4, p1 := p.p1, p2 := p.p2, p3 := p.p3, p4 := p.p4 }, Value.slice (some ⟨3589, 0, none⟩) (p.hs.length + 1) (p.hs.length + 1), Value.slice (some ⟨4, 0, none⟩) p.bk.length p.bk.length))]) (by kernel_rfl) (ob_cons hk (ob_cons (by rw [flatMap_cell (c := 1) realP16 default hx (by decide), hE]; rfl) (ob_cons (by rw [flatMap_cell (c := 1) realP16 default hx (by decide), hE]; rfl) (ob_cons ⟨Int.le_refl 0, by omega, rfl⟩ (ob_cons (hs_get0 hhp) (ob_cons (by rw [List.length_map]; omega) (ob_cons (by rw [List.map_append]; rfl) (ob_cons (cell_le (c := 1) (n := 1) realP16 hx (by decide)) (ob_cons (splice_set realP16 default hx (Nat.le_of_ble_eq_true rfl) (by rw [hE]; rfl)) ob_nil)))))))))
theorem sps_2 {E : List PX} {p : PoolT} {n x k : Nat} {cn : ByteArray} {re co rs dl rq cs br bs bm by_ en li he ct bo : Int} {q : Nat} {wh wt : Int} (hk : CallOK Try.prog 10 [.int .i64 wt, .int .i64 14] [] 0 (.int .i64 2) []) (hx : x < E.length) (hE : E.getD x default = (p, .slice (some ⟨3, 0, none⟩) p.hs.length p.hs.length, .slice (some ⟨4, 0, none⟩) p.bk.length p.bk.length)) (hn : E.length = n) (h9 : n ≤ 9000000000) (hhp : 0 < p.hs.length) (hbp : 0 < p.bk.length) (hh9 : p.hs.length ≤ 9000000000) (hb9 : p.bk.length ≤ 9000000000) : CodeOK Try.prog (Code.seq (regN Try.prog 5 12) (Code.block 0 (((regN Try.prog 5 13)).seq (Code.cond (.tmp 62) ((regN Try.prog 5 14)) (((regN Try.prog 5 15)).seq (Code.cond (.tmp 67) ((regN Try.prog 5 16)) (((regN Try.prog 5 17)).seq (Code.cond (.tmp 84) ((regN Try.prog 5 18)) (((regN Try.prog 5 19)).seq (Code.cond (.tmp 91) ((regN Try.prog 5 20)) (((regN Try.prog 5 21)).seq (Code.cond (.tmp 108) ((regN Try.prog 5 22)) (((regN Try.prog 5 23)).seq (Code.cond (.tmp 117) ((regN Try.prog 5 24)) (((regN Try.prog 5 25)).seq (Code.cond (.tmp 122) ((regN Try.prog 5 26)) (((regN Try.prog 5 27)).seq (Code.cond (.tmp 136) ((regN Try.prog 5 28)) (((regN Try.prog 5 29)).seq (Code.cond (.tmp 146) ((regN Try.prog 5 30)) (((regN Try.prog 5 31)).seq (Code.cond (.tmp 149) ((regN Try.prog 5 32)) (((regN Try.prog 5 33)).seq (Code.cond (.tmp 153) ((regN Try.prog 5 34)) (((regN Try.prog 5 35)).seq (Code.cond (.tmp 156) ((regN Try.prog 5 36)) (((regN Try.prog 5 37)).seq (Code.cond (.tmp 159) ((regN Try.prog 5 38)) ((regN Try.prog 5 39)))))))))))))))))))))))))))))) (mkF [(1, .int .i64 wh), (2, .int .i64 wt), (3, .pointer (some ⟨0, 0, none⟩)), (6, .bool false), (7, .pointer (some ⟨1, 0, none⟩)), (8, .int .i64 (x : Int)), (9, .pointer (some ⟨2, 0 + x * 16, none⟩))] 171 0) [(0, ⟨29, [.string cn, .slice (some ⟨0, 0, some 2⟩) n 0, .int .i64 re, .int .i64 co, .int .i64 rs, .int .i64 dl, .int .i64 rq, .int .i64 cs, .int .i64 br, .int .i64 bs, .int .i64 bm, .int .i64 by_, .int .i64 en, .float .f64 q, .int .i64 li, .int .i64 he, .int .i64 ct, .int .i64 bo], 0⟩), (1, ⟨29, [.string cn, .slice (some ⟨2, 0, none⟩) n n, .int .i64 re, .int .i64 co, .int .i64 rs, .int .i64 dl, .int .i64 rq, .int .i64 cs, .int .i64 br, .int .i64 bs, .int .i64 bm, .int .i64 by_, .int .i64 en, .float .f64 q, .int .i64 li, .int .i64 he, .int .i64 ct, .int .i64 bo], 0⟩), (2, ⟨46, E.flatMap realP, 1⟩), (3, ⟨9, p.hs.map Value.string, 3⟩), (4, ⟨54, p.bk.flatMap bkV, 3⟩)] 2437 ⟨.normal, mkF [(3, .pointer (some ⟨0, 0, none⟩)), (7, .pointer (some ⟨1, 0, none⟩))] 171 0, [(0, ⟨29, [.string cn, .slice (some ⟨0, 0, some 2⟩) n 0, .int .i64 re, .int .i64 co, .int .i64 rs, .int .i64 dl, .int .i64 rq, .int .i64 cs, .int .i64 br, .int .i64 bs, .int .i64 bm, .int .i64 by_, .int .i64 en, .float .f64 q, .int .i64 li, .int .i64 he, .int .i64 ct, .int .i64 bo], 0⟩), (1, ⟨29, [.string cn, .slice (some ⟨2, 0, none⟩) n n, .int .i64 re, .int .i64 co, .int .i64 rs, .int .i64 dl, .int .i64 rq, .int .i64 cs, .int .i64 br, .int .i64 bs, .int .i64 bm, .int .i64 by_, .int .i64 en, .float .f64 q, .int .i64 li, .int .i64 he, .int .i64 ct, .int .i64 bo], 0⟩), (2, ⟨46, E.flatMap realP, 1⟩), (3, ⟨9, (p.hs.set 0 ⟨#[65]⟩).map Value.string, 3⟩), (4, ⟨54, p.bk.flatMap bkV, 3⟩)], 3333, []⟩ :=
  codeOK_of callK_spec mixed (ω := [(2501, OV.call (Value.int IntKind.i64 2) []), (3141, OV.ld (Value.slice (some ⟨3, 0, none⟩) p.hs.length p.hs.length)), (3205, OV.idx (Int.toNat 0)), (3269, OV.st (some (List.map Value.string (p.hs.set 0 (ByteArray.mk #[65])))))]) (LF := 10) (n := 100) (keys := [3, 7]) (ids := [0, 1, 2, 3, 4]) (ps := [CallOK Try.prog 10 [Value.int IntKind.i64 wt, Value.int IntKind.i64 14] [] 0 (Value.int IntKind.i64 2) [], (List.flatMap realP E)[0 + x * 16 + 1]? = some (Value.slice (some ⟨3, 0, none⟩) p.hs.length p.hs.length), (0 : Int) ≤ (0 : Int) ∧ (0 : Int) < (↑p.hs.length : Int) ∧ Int.toNat 0 = 0, 0 + 1 ≤ (List.map Value.string p.hs).length, splice (List.map Value.string p.hs) 0 [Value.string (ByteArray.mk #[65])] = List.map Value.string (p.hs.set 0 (ByteArray.mk #[65]))]) (by kernel_rfl) (ob_cons hk (ob_cons (by rw [flatMap_cell (c := 1) realP16 default hx (by decide), hE]; rfl) (ob_cons ⟨Int.le_refl 0, by omega, rfl⟩ (ob_cons (by rw [List.length_map]; omega) (ob_cons (hs_set0 hhp) ob_nil)))))
theorem sps_3 {E : List PX} {p : PoolT} {n x k : Nat} {cn : ByteArray} {re co rs dl rq cs br bs bm by_ en li he ct bo : Int} {q : Nat} {wh wt : Int} (hk : CallOK Try.prog 10 [.int .i64 wt, .int .i64 14] [] 0 (.int .i64 3) []) (hx : x < E.length) (hE : E.getD x default = (p, .slice (some ⟨3, 0, none⟩) p.hs.length p.hs.length, .slice (some ⟨4, 0, none⟩) p.bk.length p.bk.length)) (hn : E.length = n) (h9 : n ≤ 9000000000) (hhp : 0 < p.hs.length) (hbp : 0 < p.bk.length) (hh9 : p.hs.length ≤ 9000000000) (hb9 : p.bk.length ≤ 9000000000) : CodeOK Try.prog (Code.seq (regN Try.prog 5 12) (Code.block 0 (((regN Try.prog 5 13)).seq (Code.cond (.tmp 62) ((regN Try.prog 5 14)) (((regN Try.prog 5 15)).seq (Code.cond (.tmp 67) ((regN Try.prog 5 16)) (((regN Try.prog 5 17)).seq (Code.cond (.tmp 84) ((regN Try.prog 5 18)) (((regN Try.prog 5 19)).seq (Code.cond (.tmp 91) ((regN Try.prog 5 20)) (((regN Try.prog 5 21)).seq (Code.cond (.tmp 108) ((regN Try.prog 5 22)) (((regN Try.prog 5 23)).seq (Code.cond (.tmp 117) ((regN Try.prog 5 24)) (((regN Try.prog 5 25)).seq (Code.cond (.tmp 122) ((regN Try.prog 5 26)) (((regN Try.prog 5 27)).seq (Code.cond (.tmp 136) ((regN Try.prog 5 28)) (((regN Try.prog 5 29)).seq (Code.cond (.tmp 146) ((regN Try.prog 5 30)) (((regN Try.prog 5 31)).seq (Code.cond (.tmp 149) ((regN Try.prog 5 32)) (((regN Try.prog 5 33)).seq (Code.cond (.tmp 153) ((regN Try.prog 5 34)) (((regN Try.prog 5 35)).seq (Code.cond (.tmp 156) ((regN Try.prog 5 36)) (((regN Try.prog 5 37)).seq (Code.cond (.tmp 159) ((regN Try.prog 5 38)) ((regN Try.prog 5 39)))))))))))))))))))))))))))))) (mkF [(1, .int .i64 wh), (2, .int .i64 wt), (3, .pointer (some ⟨0, 0, none⟩)), (6, .bool false), (7, .pointer (some ⟨1, 0, none⟩)), (8, .int .i64 (x : Int)), (9, .pointer (some ⟨2, 0 + x * 16, none⟩))] 171 0) [(0, ⟨29, [.string cn, .slice (some ⟨0, 0, some 2⟩) n 0, .int .i64 re, .int .i64 co, .int .i64 rs, .int .i64 dl, .int .i64 rq, .int .i64 cs, .int .i64 br, .int .i64 bs, .int .i64 bm, .int .i64 by_, .int .i64 en, .float .f64 q, .int .i64 li, .int .i64 he, .int .i64 ct, .int .i64 bo], 0⟩), (1, ⟨29, [.string cn, .slice (some ⟨2, 0, none⟩) n n, .int .i64 re, .int .i64 co, .int .i64 rs, .int .i64 dl, .int .i64 rq, .int .i64 cs, .int .i64 br, .int .i64 bs, .int .i64 bm, .int .i64 by_, .int .i64 en, .float .f64 q, .int .i64 li, .int .i64 he, .int .i64 ct, .int .i64 bo], 0⟩), (2, ⟨46, E.flatMap realP, 1⟩), (3, ⟨9, p.hs.map Value.string, 3⟩), (4, ⟨54, p.bk.flatMap bkV, 3⟩)] 2437 ⟨.normal, mkF [(3, .pointer (some ⟨0, 0, none⟩)), (7, .pointer (some ⟨1, 0, none⟩))] 171 0, [(0, ⟨29, [.string cn, .slice (some ⟨0, 0, some 2⟩) n 0, .int .i64 re, .int .i64 co, .int .i64 rs, .int .i64 dl, .int .i64 rq, .int .i64 cs, .int .i64 br, .int .i64 bs, .int .i64 bm, .int .i64 by_, .int .i64 en, .float .f64 q, .int .i64 li, .int .i64 he, .int .i64 ct, .int .i64 bo], 0⟩), (1, ⟨29, [.string cn, .slice (some ⟨2, 0, none⟩) n n, .int .i64 re, .int .i64 co, .int .i64 rs, .int .i64 dl, .int .i64 rq, .int .i64 cs, .int .i64 br, .int .i64 bs, .int .i64 bm, .int .i64 by_, .int .i64 en, .float .f64 q, .int .i64 li, .int .i64 he, .int .i64 ct, .int .i64 bo], 0⟩), (2, ⟨46, (E.set x ({ p with bk := p.bk ++ [p.bk.getD 0 default] }, .slice (some ⟨3, 0, none⟩) p.hs.length p.hs.length, .slice (some ⟨3845, 0, none⟩) (p.bk.length + 1) (p.bk.length + 1))).flatMap realP, 1⟩), (3, ⟨9, p.hs.map Value.string, 3⟩), (3845, ⟨54, (p.bk ++ [p.bk.getD 0 default]).flatMap bkV, 3⟩)], 4101, []⟩ :=
  codeOK_of callK_spec mixed (ω := [(2501, OV.call (Value.int IntKind.i64 3) []), (3333, OV.ld (Value.slice (some ⟨4, 0, none⟩) p.bk.length p.bk.length)), (3589, OV.ld (Value.slice (some ⟨4, 0, none⟩) p.bk.length p.bk.length)), (3653, OV.idx (Int.toNat 0)), (3717, OV.ld (Value.agg #[Value.string (p.bk.getD 0 default).fst, Value.float FloatKind.f64 (p.bk.getD 0 default).snd])), (3845, OV.app 2 (some (List.flatMap bkV (p.bk ++ [p.bk.getD 0 default])))), (4037, OV.st (some (List.flatMap realP (E.set x ({ nm := p.nm, ih := p.ih, hs := p.hs, ib := p.ib, bk := p.bk ++ [p.bk.getD 0 default], po := p.po, b1 := p.b1, b2 := p.b2, b3 := p.b3, b4 := p.b4, e1 := p.e1, e2 := p.e2, e3 := p.e3, e4 := p.e4, p1 := p.p1, p2 := p.p2, p3 := p.p3, p4 := p.p4 }, Value.slice (some ⟨3, 0, none⟩) p.hs.length p.hs.length, Value.slice (some ⟨3845, 0, none⟩) (p.bk.length + 1) (p.bk.length + 1))))))]) (LF := 10) (n := 100) (keys := [3, 7]) (ids := [0, 1, 2, 3, 3845]) (ps := [CallOK Try.prog 10 [Value.int IntKind.i64 wt, Value.int IntKind.i64 14] [] 0 (Value.int IntKind.i64 3) [], (List.flatMap realP E)[0 + x * 16 + 2]? = some (Value.slice (some ⟨4, 0, none⟩) p.bk.length p.bk.length), (List.flatMap realP E)[0 + x * 16 + 2]? = some (Value.slice (some ⟨4, 0, none⟩) p.bk.length p.bk.length), (0 : Int) ≤ (0 : Int) ∧ (0 : Int) < (↑p.bk.length : Int) ∧ Int.toNat 0 = 0, 2 ≤ (List.flatMap bkV p.bk).length ∧ List.take 2 (List.drop 0 (List.flatMap bkV p.bk)) = [Value.string (p.bk.getD 0 default).fst, Value.float FloatKind.f64 (p.bk.getD 0 default).snd], (p.bk.length + 1) * 24 ≤ 140737488355328 ∧ p.bk.length + 1 ≤ 9223372036854775807 ∧ p.bk.length * 2 = (List.flatMap bkV p.bk).length, List.flatMap bkV p.bk ++ [Value.string (p.bk.getD 0 default).fst, Value.float FloatKind.f64 (p.bk.getD 0 default).snd] = List.flatMap bkV (p.bk ++ [p.bk.getD 0 default]), 0 + x * 16 + 2 + 1 ≤ (List.flatMap realP E).length, splice (List.flatMap realP E) (0 + x * 16 + 2) [Value.slice (some ⟨3845, 0, none⟩) (p.bk.length + 1) (p.bk.length + 1)] = List.flatMap realP (E.set x ({ nm := p.nm, ih := p.ih, hs := p.hs, ib := p.ib, bk := p.bk ++ [p.bk.getD 0 default], po := p.po, b1 := p.b1, b2 := p.b2, b3 := p.b3, b4 := p.b4, e1 := p.e1, e2 := p.e2, e3 := p.e3, e4 := p.e4, p1 := p.p1, p2 := p.p2, p3 := p.p3, p4 := p.p4 }, Value.slice (some ⟨3, 0, none⟩) p.hs.length p.hs.length, Value.slice (some ⟨3845, 0, none⟩) (p.bk.length + 1) (p.bk.length + 1)))]) (by kernel_rfl) (ob_cons hk (ob_cons (by rw [flatMap_cell (c := 2) realP16 default hx (by decide), hE]; rfl) (ob_cons (by rw [flatMap_cell (c := 2) realP16 default hx (by decide), hE]; rfl) (ob_cons ⟨Int.le_refl 0, by omega, rfl⟩ (ob_cons (bk_ld0 hbp) (ob_cons (by rw [flatMap_len bkV2]; omega) (ob_cons (by rw [List.flatMap_append, List.flatMap_singleton]) (ob_cons (cell_le (c := 2) (n := 1) realP16 hx (by decide)) (ob_cons (splice_set realP16 default hx (Nat.le_of_ble_eq_true rfl) (by rw [hE]; rfl)) ob_nil)))))))))
theorem sps_4 {E : List PX} {p : PoolT} {n x k : Nat} {cn : ByteArray} {re co rs dl rq cs br bs bm by_ en li he ct bo : Int} {q : Nat} {wh wt : Int} (hk : CallOK Try.prog 10 [.int .i64 wt, .int .i64 14] [] 0 (.int .i64 4) []) (hx : x < E.length) (hE : E.getD x default = (p, .slice (some ⟨3, 0, none⟩) p.hs.length p.hs.length, .slice (some ⟨4, 0, none⟩) p.bk.length p.bk.length)) (hn : E.length = n) (h9 : n ≤ 9000000000) (hhp : 0 < p.hs.length) (hbp : 0 < p.bk.length) (hh9 : p.hs.length ≤ 9000000000) (hb9 : p.bk.length ≤ 9000000000) : CodeOK Try.prog (Code.seq (regN Try.prog 5 12) (Code.block 0 (((regN Try.prog 5 13)).seq (Code.cond (.tmp 62) ((regN Try.prog 5 14)) (((regN Try.prog 5 15)).seq (Code.cond (.tmp 67) ((regN Try.prog 5 16)) (((regN Try.prog 5 17)).seq (Code.cond (.tmp 84) ((regN Try.prog 5 18)) (((regN Try.prog 5 19)).seq (Code.cond (.tmp 91) ((regN Try.prog 5 20)) (((regN Try.prog 5 21)).seq (Code.cond (.tmp 108) ((regN Try.prog 5 22)) (((regN Try.prog 5 23)).seq (Code.cond (.tmp 117) ((regN Try.prog 5 24)) (((regN Try.prog 5 25)).seq (Code.cond (.tmp 122) ((regN Try.prog 5 26)) (((regN Try.prog 5 27)).seq (Code.cond (.tmp 136) ((regN Try.prog 5 28)) (((regN Try.prog 5 29)).seq (Code.cond (.tmp 146) ((regN Try.prog 5 30)) (((regN Try.prog 5 31)).seq (Code.cond (.tmp 149) ((regN Try.prog 5 32)) (((regN Try.prog 5 33)).seq (Code.cond (.tmp 153) ((regN Try.prog 5 34)) (((regN Try.prog 5 35)).seq (Code.cond (.tmp 156) ((regN Try.prog 5 36)) (((regN Try.prog 5 37)).seq (Code.cond (.tmp 159) ((regN Try.prog 5 38)) ((regN Try.prog 5 39)))))))))))))))))))))))))))))) (mkF [(1, .int .i64 wh), (2, .int .i64 wt), (3, .pointer (some ⟨0, 0, none⟩)), (6, .bool false), (7, .pointer (some ⟨1, 0, none⟩)), (8, .int .i64 (x : Int)), (9, .pointer (some ⟨2, 0 + x * 16, none⟩))] 171 0) [(0, ⟨29, [.string cn, .slice (some ⟨0, 0, some 2⟩) n 0, .int .i64 re, .int .i64 co, .int .i64 rs, .int .i64 dl, .int .i64 rq, .int .i64 cs, .int .i64 br, .int .i64 bs, .int .i64 bm, .int .i64 by_, .int .i64 en, .float .f64 q, .int .i64 li, .int .i64 he, .int .i64 ct, .int .i64 bo], 0⟩), (1, ⟨29, [.string cn, .slice (some ⟨2, 0, none⟩) n n, .int .i64 re, .int .i64 co, .int .i64 rs, .int .i64 dl, .int .i64 rq, .int .i64 cs, .int .i64 br, .int .i64 bs, .int .i64 bm, .int .i64 by_, .int .i64 en, .float .f64 q, .int .i64 li, .int .i64 he, .int .i64 ct, .int .i64 bo], 0⟩), (2, ⟨46, E.flatMap realP, 1⟩), (3, ⟨9, p.hs.map Value.string, 3⟩), (4, ⟨54, p.bk.flatMap bkV, 3⟩)] 2437 ⟨.normal, mkF [(3, .pointer (some ⟨0, 0, none⟩)), (7, .pointer (some ⟨1, 0, none⟩))] 171 0, [(0, ⟨29, [.string cn, .slice (some ⟨0, 0, some 2⟩) n 0, .int .i64 re, .int .i64 co, .int .i64 rs, .int .i64 dl, .int .i64 rq, .int .i64 cs, .int .i64 br, .int .i64 bs, .int .i64 bm, .int .i64 by_, .int .i64 en, .float .f64 q, .int .i64 li, .int .i64 he, .int .i64 ct, .int .i64 bo], 0⟩), (1, ⟨29, [.string cn, .slice (some ⟨2, 0, none⟩) n n, .int .i64 re, .int .i64 co, .int .i64 rs, .int .i64 dl, .int .i64 rq, .int .i64 cs, .int .i64 br, .int .i64 bs, .int .i64 bm, .int .i64 by_, .int .i64 en, .float .f64 q, .int .i64 li, .int .i64 he, .int .i64 ct, .int .i64 bo], 0⟩), (2, ⟨46, E.flatMap realP, 1⟩), (3, ⟨9, p.hs.map Value.string, 3⟩), (4, ⟨54, (p.bk.set 0 ((p.bk.getD 0 default).1, 9223372036854775808)).flatMap bkV, 3⟩)], 3717, []⟩ :=
  codeOK_of callK_spec mixed (ω := [(2501, OV.call (Value.int IntKind.i64 4) []), (3397, OV.ld (Value.slice (some ⟨4, 0, none⟩) p.bk.length p.bk.length)), (3525, OV.idx (Int.toNat 0)), (3653, OV.st (some (List.flatMap bkV (p.bk.set 0 ((p.bk.getD 0 default).fst, 9223372036854775808)))))]) (LF := 10) (n := 100) (keys := [3, 7]) (ids := [0, 1, 2, 3, 4]) (ps := [CallOK Try.prog 10 [Value.int IntKind.i64 wt, Value.int IntKind.i64 14] [] 0 (Value.int IntKind.i64 4) [], (List.flatMap realP E)[0 + x * 16 + 2]? = some (Value.slice (some ⟨4, 0, none⟩) p.bk.length p.bk.length), (0 : Int) ≤ (0 : Int) ∧ (0 : Int) < (↑p.bk.length : Int) ∧ Int.toNat 0 = 0, 1 + 1 ≤ (List.flatMap bkV p.bk).length, splice (List.flatMap bkV p.bk) 1 [Value.float FloatKind.f64 9223372036854775808] = List.flatMap bkV (p.bk.set 0 ((p.bk.getD 0 default).fst, 9223372036854775808))]) (by kernel_rfl) (ob_cons hk (ob_cons (by rw [flatMap_cell (c := 2) realP16 default hx (by decide), hE]; rfl) (ob_cons ⟨Int.le_refl 0, by omega, rfl⟩ (ob_cons (by rw [flatMap_len bkV2]; omega) (ob_cons (bk_set0 hbp) ob_nil)))))
theorem sps_5 {E : List PX} {p : PoolT} {n x k : Nat} {cn : ByteArray} {re co rs dl rq cs br bs bm by_ en li he ct bo : Int} {q : Nat} {wh wt : Int} (hk : CallOK Try.prog 10 [.int .i64 wt, .int .i64 14] [] 0 (.int .i64 5) []) (hx : x < E.length) (hE : E.getD x default = (p, .slice (some ⟨3, 0, none⟩) p.hs.length p.hs.length, .slice (some ⟨4, 0, none⟩) p.bk.length p.bk.length)) (hn : E.length = n) (h9 : n ≤ 9000000000) (hhp : 0 < p.hs.length) (hbp : 0 < p.bk.length) (hh9 : p.hs.length ≤ 9000000000) (hb9 : p.bk.length ≤ 9000000000) : CodeOK Try.prog (Code.seq (regN Try.prog 5 12) (Code.block 0 (((regN Try.prog 5 13)).seq (Code.cond (.tmp 62) ((regN Try.prog 5 14)) (((regN Try.prog 5 15)).seq (Code.cond (.tmp 67) ((regN Try.prog 5 16)) (((regN Try.prog 5 17)).seq (Code.cond (.tmp 84) ((regN Try.prog 5 18)) (((regN Try.prog 5 19)).seq (Code.cond (.tmp 91) ((regN Try.prog 5 20)) (((regN Try.prog 5 21)).seq (Code.cond (.tmp 108) ((regN Try.prog 5 22)) (((regN Try.prog 5 23)).seq (Code.cond (.tmp 117) ((regN Try.prog 5 24)) (((regN Try.prog 5 25)).seq (Code.cond (.tmp 122) ((regN Try.prog 5 26)) (((regN Try.prog 5 27)).seq (Code.cond (.tmp 136) ((regN Try.prog 5 28)) (((regN Try.prog 5 29)).seq (Code.cond (.tmp 146) ((regN Try.prog 5 30)) (((regN Try.prog 5 31)).seq (Code.cond (.tmp 149) ((regN Try.prog 5 32)) (((regN Try.prog 5 33)).seq (Code.cond (.tmp 153) ((regN Try.prog 5 34)) (((regN Try.prog 5 35)).seq (Code.cond (.tmp 156) ((regN Try.prog 5 36)) (((regN Try.prog 5 37)).seq (Code.cond (.tmp 159) ((regN Try.prog 5 38)) ((regN Try.prog 5 39)))))))))))))))))))))))))))))) (mkF [(1, .int .i64 wh), (2, .int .i64 wt), (3, .pointer (some ⟨0, 0, none⟩)), (6, .bool false), (7, .pointer (some ⟨1, 0, none⟩)), (8, .int .i64 (x : Int)), (9, .pointer (some ⟨2, 0 + x * 16, none⟩))] 171 0) [(0, ⟨29, [.string cn, .slice (some ⟨0, 0, some 2⟩) n 0, .int .i64 re, .int .i64 co, .int .i64 rs, .int .i64 dl, .int .i64 rq, .int .i64 cs, .int .i64 br, .int .i64 bs, .int .i64 bm, .int .i64 by_, .int .i64 en, .float .f64 q, .int .i64 li, .int .i64 he, .int .i64 ct, .int .i64 bo], 0⟩), (1, ⟨29, [.string cn, .slice (some ⟨2, 0, none⟩) n n, .int .i64 re, .int .i64 co, .int .i64 rs, .int .i64 dl, .int .i64 rq, .int .i64 cs, .int .i64 br, .int .i64 bs, .int .i64 bm, .int .i64 by_, .int .i64 en, .float .f64 q, .int .i64 li, .int .i64 he, .int .i64 ct, .int .i64 bo], 0⟩), (2, ⟨46, E.flatMap realP, 1⟩), (3, ⟨9, p.hs.map Value.string, 3⟩), (4, ⟨54, p.bk.flatMap bkV, 3⟩)] 2437 ⟨.normal, mkF [(3, .pointer (some ⟨0, 0, none⟩)), (7, .pointer (some ⟨1, 0, none⟩))] 171 0, [(0, ⟨29, [.string cn, .slice (some ⟨0, 0, some 2⟩) n 0, .int .i64 re, .int .i64 co, .int .i64 rs, .int .i64 dl, .int .i64 rq, .int .i64 cs, .int .i64 br, .int .i64 bs, .int .i64 bm, .int .i64 by_, .int .i64 en, .float .f64 q, .int .i64 li, .int .i64 he, .int .i64 ct, .int .i64 bo], 0⟩), (1, ⟨29, [.string cn, .slice (some ⟨2, 0, none⟩) n n, .int .i64 re, .int .i64 co, .int .i64 rs, .int .i64 dl, .int .i64 rq, .int .i64 cs, .int .i64 br, .int .i64 bs, .int .i64 bm, .int .i64 by_, .int .i64 en, .float .f64 q, .int .i64 li, .int .i64 he, .int .i64 ct, .int .i64 bo], 0⟩), (2, ⟨46, (E.set x ({ p with po := 0 }, .slice (some ⟨3, 0, none⟩) p.hs.length p.hs.length, .slice (some ⟨4, 0, none⟩) p.bk.length p.bk.length)).flatMap realP, 1⟩), (3, ⟨9, p.hs.map Value.string, 3⟩), (4, ⟨54, p.bk.flatMap bkV, 3⟩)], 3589, []⟩ :=
  codeOK_of callK_spec mixed (ω := [(2501, OV.call (Value.int IntKind.i64 5) []), (3525, OV.st (some (List.flatMap realP (E.set x ({ nm := p.nm, ih := p.ih, hs := p.hs, ib := p.ib, bk := p.bk, po := 0, b1 := p.b1, b2 := p.b2, b3 := p.b3, b4 := p.b4, e1 := p.e1, e2 := p.e2, e3 := p.e3, e4 := p.e4, p1 := p.p1, p2 := p.p2, p3 := p.p3, p4 := p.p4 }, Value.slice (some ⟨3, 0, none⟩) p.hs.length p.hs.length, Value.slice (some ⟨4, 0, none⟩) p.bk.length p.bk.length)))))]) (LF := 10) (n := 100) (keys := [3, 7]) (ids := [0, 1, 2, 3, 4]) (ps := [CallOK Try.prog 10 [Value.int IntKind.i64 wt, Value.int IntKind.i64 14] [] 0 (Value.int IntKind.i64 5) [], 0 + x * 16 + 3 + 1 ≤ (List.flatMap realP E).length, splice (List.flatMap realP E) (0 + x * 16 + 3) [Value.int IntKind.i64 0] = List.flatMap realP (E.set x ({ nm := p.nm, ih := p.ih, hs := p.hs, ib := p.ib, bk := p.bk, po := 0, b1 := p.b1, b2 := p.b2, b3 := p.b3, b4 := p.b4, e1 := p.e1, e2 := p.e2, e3 := p.e3, e4 := p.e4, p1 := p.p1, p2 := p.p2, p3 := p.p3, p4 := p.p4 }, Value.slice (some ⟨3, 0, none⟩) p.hs.length p.hs.length, Value.slice (some ⟨4, 0, none⟩) p.bk.length p.bk.length))]) (by kernel_rfl) (ob_cons hk (ob_cons (cell_le (c := 3) (n := 1) realP16 hx (by decide)) (ob_cons (splice_set realP16 default hx (Nat.le_of_ble_eq_true rfl) (by rw [hE]; rfl)) ob_nil)))
theorem sps_6 {E : List PX} {p : PoolT} {n x k : Nat} {cn : ByteArray} {re co rs dl rq cs br bs bm by_ en li he ct bo : Int} {q : Nat} {wh wt : Int} (hk : CallOK Try.prog 10 [.int .i64 wt, .int .i64 14] [] 0 (.int .i64 6) []) (hx : x < E.length) (hE : E.getD x default = (p, .slice (some ⟨3, 0, none⟩) p.hs.length p.hs.length, .slice (some ⟨4, 0, none⟩) p.bk.length p.bk.length)) (hn : E.length = n) (h9 : n ≤ 9000000000) (hhp : 0 < p.hs.length) (hbp : 0 < p.bk.length) (hh9 : p.hs.length ≤ 9000000000) (hb9 : p.bk.length ≤ 9000000000) (h64 : 0 ≤ p.b3 ∧ p.b3 ≤ 9000000000) : CodeOK Try.prog (Code.seq (regN Try.prog 5 12) (Code.block 0 (((regN Try.prog 5 13)).seq (Code.cond (.tmp 62) ((regN Try.prog 5 14)) (((regN Try.prog 5 15)).seq (Code.cond (.tmp 67) ((regN Try.prog 5 16)) (((regN Try.prog 5 17)).seq (Code.cond (.tmp 84) ((regN Try.prog 5 18)) (((regN Try.prog 5 19)).seq (Code.cond (.tmp 91) ((regN Try.prog 5 20)) (((regN Try.prog 5 21)).seq (Code.cond (.tmp 108) ((regN Try.prog 5 22)) (((regN Try.prog 5 23)).seq (Code.cond (.tmp 117) ((regN Try.prog 5 24)) (((regN Try.prog 5 25)).seq (Code.cond (.tmp 122) ((regN Try.prog 5 26)) (((regN Try.prog 5 27)).seq (Code.cond (.tmp 136) ((regN Try.prog 5 28)) (((regN Try.prog 5 29)).seq (Code.cond (.tmp 146) ((regN Try.prog 5 30)) (((regN Try.prog 5 31)).seq (Code.cond (.tmp 149) ((regN Try.prog 5 32)) (((regN Try.prog 5 33)).seq (Code.cond (.tmp 153) ((regN Try.prog 5 34)) (((regN Try.prog 5 35)).seq (Code.cond (.tmp 156) ((regN Try.prog 5 36)) (((regN Try.prog 5 37)).seq (Code.cond (.tmp 159) ((regN Try.prog 5 38)) ((regN Try.prog 5 39)))))))))))))))))))))))))))))) (mkF [(1, .int .i64 wh), (2, .int .i64 wt), (3, .pointer (some ⟨0, 0, none⟩)), (6, .bool false), (7, .pointer (some ⟨1, 0, none⟩)), (8, .int .i64 (x : Int)), (9, .pointer (some ⟨2, 0 + x * 16, none⟩))] 171 0) [(0, ⟨29, [.string cn, .slice (some ⟨0, 0, some 2⟩) n 0, .int .i64 re, .int .i64 co, .int .i64 rs, .int .i64 dl, .int .i64 rq, .int .i64 cs, .int .i64 br, .int .i64 bs, .int .i64 bm, .int .i64 by_, .int .i64 en, .float .f64 q, .int .i64 li, .int .i64 he, .int .i64 ct, .int .i64 bo], 0⟩), (1, ⟨29, [.string cn, .slice (some ⟨2, 0, none⟩) n n, .int .i64 re, .int .i64 co, .int .i64 rs, .int .i64 dl, .int .i64 rq, .int .i64 cs, .int .i64 br, .int .i64 bs, .int .i64 bm, .int .i64 by_, .int .i64 en, .float .f64 q, .int .i64 li, .int .i64 he, .int .i64 ct, .int .i64 bo], 0⟩), (2, ⟨46, E.flatMap realP, 1⟩), (3, ⟨9, p.hs.map Value.string, 3⟩), (4, ⟨54, p.bk.flatMap bkV, 3⟩)] 2437 ⟨.normal, mkF [(3, .pointer (some ⟨0, 0, none⟩)), (7, .pointer (some ⟨1, 0, none⟩))] 171 0, [(0, ⟨29, [.string cn, .slice (some ⟨0, 0, some 2⟩) n 0, .int .i64 re, .int .i64 co, .int .i64 rs, .int .i64 dl, .int .i64 rq, .int .i64 cs, .int .i64 br, .int .i64 bs, .int .i64 bm, .int .i64 by_, .int .i64 en, .float .f64 q, .int .i64 li, .int .i64 he, .int .i64 ct, .int .i64 bo], 0⟩), (1, ⟨29, [.string cn, .slice (some ⟨2, 0, none⟩) n n, .int .i64 re, .int .i64 co, .int .i64 rs, .int .i64 dl, .int .i64 rq, .int .i64 cs, .int .i64 br, .int .i64 bs, .int .i64 bm, .int .i64 by_, .int .i64 en, .float .f64 q, .int .i64 li, .int .i64 he, .int .i64 ct, .int .i64 bo], 0⟩), (2, ⟨46, (E.set x ({ p with b4 := p.b3 + 1 }, .slice (some ⟨3, 0, none⟩) p.hs.length p.hs.length, .slice (some ⟨4, 0, none⟩) p.bk.length p.bk.length)).flatMap realP, 1⟩), (3, ⟨9, p.hs.map Value.string, 3⟩), (4, ⟨54, p.bk.flatMap bkV, 3⟩)], 4293, []⟩ :=
  codeOK_of callK_spec mixed (ω := [(2501, OV.call (Value.int IntKind.i64 6) []), (3845, OV.ld (Value.int IntKind.i64 p.b3)), (3909, OV.soft (Value.int IntKind.i64 (p.b3 + 1))), (4229, OV.st (some (List.flatMap realP (E.set x ({ nm := p.nm, ih := p.ih, hs := p.hs, ib := p.ib, bk := p.bk, po := p.po, b1 := p.b1, b2 := p.b2, b3 := p.b3, b4 := p.b3 + 1, e1 := p.e1, e2 := p.e2, e3 := p.e3, e4 := p.e4, p1 := p.p1, p2 := p.p2, p3 := p.p3, p4 := p.p4 }, Value.slice (some ⟨3, 0, none⟩) p.hs.length p.hs.length, Value.slice (some ⟨4, 0, none⟩) p.bk.length p.bk.length)))))]) (LF := 10) (n := 100) (keys := [3, 7]) (ids := [0, 1, 2, 3, 4]) (ps := [CallOK Try.prog 10 [Value.int IntKind.i64 wt, Value.int IntKind.i64 14] [] 0 (Value.int IntKind.i64 6) [], (List.flatMap realP E)[0 + x * 16 + 4 + 0 + 2]? = some (Value.int IntKind.i64 p.b3), IntKind.i64.wrap (p.b3 + 1) = p.b3 + 1, 0 + x * 16 + 4 + 0 + 3 + 1 ≤ (List.flatMap realP E).length, splice (List.flatMap realP E) (0 + x * 16 + 4 + 0 + 3) [Value.int IntKind.i64 (p.b3 + 1)] = List.flatMap realP (E.set x ({ nm := p.nm, ih := p.ih, hs := p.hs, ib := p.ib, bk := p.bk, po := p.po, b1 := p.b1, b2 := p.b2, b3 := p.b3, b4 := p.b3 + 1, e1 := p.e1, e2 := p.e2, e3 := p.e3, e4 := p.e4, p1 := p.p1, p2 := p.p2, p3 := p.p3, p4 := p.p4 }, Value.slice (some ⟨3, 0, none⟩) p.hs.length p.hs.length, Value.slice (some ⟨4, 0, none⟩) p.bk.length p.bk.length))]) (by kernel_rfl) (ob_cons hk (ob_cons (by rw [show 0 + x * 16 + 4 + 0 + 2 = 0 + x * 16 + 6 by omega, flatMap_cell (c := 6) realP16 default hx (by decide), hE]; rfl) (ob_cons (w64 (by omega)) (ob_cons (by have h := cell_le (c := 7) (n := 1) realP16 hx (by decide); omega) (ob_cons (by rw [show 0 + x * 16 + 4 + 0 + 3 = 0 + x * 16 + 7 by omega]; exact splice_set (c := 7) realP16 default hx (Nat.le_of_ble_eq_true rfl) (by rw [hE]; rfl)) ob_nil)))))
theorem sps_7 {E : List PX} {p : PoolT} {n x k : Nat} {cn : ByteArray} {re co rs dl rq cs br bs bm by_ en li he ct bo : Int} {q : Nat} {wh wt : Int} (hk : CallOK Try.prog 10 [.int .i64 wt, .int .i64 14] [] 0 (.int .i64 7) []) (hx : x < E.length) (hE : E.getD x default = (p, .slice (some ⟨3, 0, none⟩) p.hs.length p.hs.length, .slice (some ⟨4, 0, none⟩) p.bk.length p.bk.length)) (hn : E.length = n) (h9 : n ≤ 9000000000) (hhp : 0 < p.hs.length) (hbp : 0 < p.bk.length) (hh9 : p.hs.length ≤ 9000000000) (hb9 : p.bk.length ≤ 9000000000) : CodeOK Try.prog (Code.seq (regN Try.prog 5 12) (Code.block 0 (((regN Try.prog 5 13)).seq (Code.cond (.tmp 62) ((regN Try.prog 5 14)) (((regN Try.prog 5 15)).seq (Code.cond (.tmp 67) ((regN Try.prog 5 16)) (((regN Try.prog 5 17)).seq (Code.cond (.tmp 84) ((regN Try.prog 5 18)) (((regN Try.prog 5 19)).seq (Code.cond (.tmp 91) ((regN Try.prog 5 20)) (((regN Try.prog 5 21)).seq (Code.cond (.tmp 108) ((regN Try.prog 5 22)) (((regN Try.prog 5 23)).seq (Code.cond (.tmp 117) ((regN Try.prog 5 24)) (((regN Try.prog 5 25)).seq (Code.cond (.tmp 122) ((regN Try.prog 5 26)) (((regN Try.prog 5 27)).seq (Code.cond (.tmp 136) ((regN Try.prog 5 28)) (((regN Try.prog 5 29)).seq (Code.cond (.tmp 146) ((regN Try.prog 5 30)) (((regN Try.prog 5 31)).seq (Code.cond (.tmp 149) ((regN Try.prog 5 32)) (((regN Try.prog 5 33)).seq (Code.cond (.tmp 153) ((regN Try.prog 5 34)) (((regN Try.prog 5 35)).seq (Code.cond (.tmp 156) ((regN Try.prog 5 36)) (((regN Try.prog 5 37)).seq (Code.cond (.tmp 159) ((regN Try.prog 5 38)) ((regN Try.prog 5 39)))))))))))))))))))))))))))))) (mkF [(1, .int .i64 wh), (2, .int .i64 wt), (3, .pointer (some ⟨0, 0, none⟩)), (6, .bool false), (7, .pointer (some ⟨1, 0, none⟩)), (8, .int .i64 (x : Int)), (9, .pointer (some ⟨2, 0 + x * 16, none⟩))] 171 0) [(0, ⟨29, [.string cn, .slice (some ⟨0, 0, some 2⟩) n 0, .int .i64 re, .int .i64 co, .int .i64 rs, .int .i64 dl, .int .i64 rq, .int .i64 cs, .int .i64 br, .int .i64 bs, .int .i64 bm, .int .i64 by_, .int .i64 en, .float .f64 q, .int .i64 li, .int .i64 he, .int .i64 ct, .int .i64 bo], 0⟩), (1, ⟨29, [.string cn, .slice (some ⟨2, 0, none⟩) n n, .int .i64 re, .int .i64 co, .int .i64 rs, .int .i64 dl, .int .i64 rq, .int .i64 cs, .int .i64 br, .int .i64 bs, .int .i64 bm, .int .i64 by_, .int .i64 en, .float .f64 q, .int .i64 li, .int .i64 he, .int .i64 ct, .int .i64 bo], 0⟩), (2, ⟨46, E.flatMap realP, 1⟩), (3, ⟨9, p.hs.map Value.string, 3⟩), (4, ⟨54, p.bk.flatMap bkV, 3⟩)] 2437 ⟨.normal, mkF [(3, .pointer (some ⟨0, 0, none⟩)), (7, .pointer (some ⟨1, 0, none⟩))] 171 0, [(0, ⟨29, [.string cn, .slice (some ⟨0, 0, some 2⟩) n 0, .int .i64 re, .int .i64 co, .int .i64 rs, .int .i64 dl, .int .i64 rq, .int .i64 cs, .int .i64 br, .int .i64 bs, .int .i64 bm, .int .i64 by_, .int .i64 en, .float .f64 q, .int .i64 li, .int .i64 he, .int .i64 ct, .int .i64 bo], 0⟩), (1, ⟨29, [.string cn, .slice (some ⟨3973, 0, none⟩) (n + 1) (n + 1), .int .i64 re, .int .i64 co, .int .i64 rs, .int .i64 dl, .int .i64 rq, .int .i64 cs, .int .i64 br, .int .i64 bs, .int .i64 bm, .int .i64 by_, .int .i64 en, .float .f64 q, .int .i64 li, .int .i64 he, .int .i64 ct, .int .i64 bo], 0⟩), (3, ⟨9, p.hs.map Value.string, 3⟩), (4, ⟨54, p.bk.flatMap bkV, 3⟩), (3973, ⟨46, (E ++ [(p, Value.slice (some ⟨3, 0, none⟩) p.hs.length p.hs.length, Value.slice (some ⟨4, 0, none⟩) p.bk.length p.bk.length)]).flatMap realP, 1⟩)], 4165, []⟩ :=
  codeOK_of callK_spec mixed (ω := [(2501, OV.call (Value.int IntKind.i64 7) []), (3845, OV.ld (Value.agg #[Value.string p.nm, Value.slice (some ⟨3, 0, none⟩) p.hs.length p.hs.length, Value.slice (some ⟨4, 0, none⟩) p.bk.length p.bk.length, Value.int IntKind.i64 p.po, Value.int IntKind.i64 p.b1, Value.int IntKind.i64 p.b2, Value.int IntKind.i64 p.b3, Value.int IntKind.i64 p.b4, Value.int IntKind.i64 p.e1, Value.int IntKind.i64 p.e2, Value.int IntKind.i64 p.e3, Value.int IntKind.i64 p.e4, Value.int IntKind.i64 p.p1, Value.int IntKind.i64 p.p2, Value.int IntKind.i64 p.p3, Value.int IntKind.i64 p.p4])), (3973, OV.app 2 (some (List.flatMap realP (E ++ [(p, Value.slice (some ⟨3, 0, none⟩) p.hs.length p.hs.length, Value.slice (some ⟨4, 0, none⟩) p.bk.length p.bk.length)]))))]) (LF := 10) (n := 100) (keys := [3, 7]) (ids := [0, 1, 3973, 3, 4]) (ps := [CallOK Try.prog 10 [Value.int IntKind.i64 wt, Value.int IntKind.i64 14] [] 0 (Value.int IntKind.i64 7) [], 0 + x * 16 + 16 ≤ (List.flatMap realP E).length ∧ List.take 16 (List.drop (0 + x * 16) (List.flatMap realP E)) = [Value.string p.nm, Value.slice (some ⟨3, 0, none⟩) p.hs.length p.hs.length, Value.slice (some ⟨4, 0, none⟩) p.bk.length p.bk.length, Value.int IntKind.i64 p.po, Value.int IntKind.i64 p.b1, Value.int IntKind.i64 p.b2, Value.int IntKind.i64 p.b3, Value.int IntKind.i64 p.b4, Value.int IntKind.i64 p.e1, Value.int IntKind.i64 p.e2, Value.int IntKind.i64 p.e3, Value.int IntKind.i64 p.e4, Value.int IntKind.i64 p.p1, Value.int IntKind.i64 p.p2, Value.int IntKind.i64 p.p3, Value.int IntKind.i64 p.p4], (n + 1) * 168 ≤ 140737488355328 ∧ n + 1 ≤ 9223372036854775807 ∧ n * 16 = (List.flatMap realP E).length, List.flatMap realP E ++ [Value.string p.nm, Value.slice (some ⟨3, 0, none⟩) p.hs.length p.hs.length, Value.slice (some ⟨4, 0, none⟩) p.bk.length p.bk.length, Value.int IntKind.i64 p.po, Value.int IntKind.i64 p.b1, Value.int IntKind.i64 p.b2, Value.int IntKind.i64 p.b3, Value.int IntKind.i64 p.b4, Value.int IntKind.i64 p.e1, Value.int IntKind.i64 p.e2, Value.int IntKind.i64 p.e3, Value.int IntKind.i64 p.e4, Value.int IntKind.i64 p.p1, Value.int IntKind.i64 p.p2, Value.int IntKind.i64 p.p3, Value.int IntKind.i64 p.p4] = List.flatMap realP (E ++ [(p, Value.slice (some ⟨3, 0, none⟩) p.hs.length p.hs.length, Value.slice (some ⟨4, 0, none⟩) p.bk.length p.bk.length)])]) (by kernel_rfl) (ob_cons hk (ob_cons (by have h := flatMap_ld realP16 default hx; rw [hE] at h; exact h) (ob_cons (by rw [flatMap_len realP16]; omega) (ob_cons (by rw [List.flatMap_append, List.flatMap_singleton]) ob_nil))))
theorem sps_8 {E : List PX} {p : PoolT} {n x k : Nat} {cn : ByteArray} {re co rs dl rq cs br bs bm by_ en li he ct bo : Int} {q : Nat} {wh wt : Int} (hk : CallOK Try.prog 10 [.int .i64 wt, .int .i64 14] [] 0 (.int .i64 8) []) (hx : x < E.length) (hE : E.getD x default = (p, .slice (some ⟨3, 0, none⟩) p.hs.length p.hs.length, .slice (some ⟨4, 0, none⟩) p.bk.length p.bk.length)) (hn : E.length = n) (h9 : n ≤ 9000000000) (hhp : 0 < p.hs.length) (hbp : 0 < p.bk.length) (hh9 : p.hs.length ≤ 9000000000) (hb9 : p.bk.length ≤ 9000000000) : CodeOK Try.prog (Code.seq (regN Try.prog 5 12) (Code.block 0 (((regN Try.prog 5 13)).seq (Code.cond (.tmp 62) ((regN Try.prog 5 14)) (((regN Try.prog 5 15)).seq (Code.cond (.tmp 67) ((regN Try.prog 5 16)) (((regN Try.prog 5 17)).seq (Code.cond (.tmp 84) ((regN Try.prog 5 18)) (((regN Try.prog 5 19)).seq (Code.cond (.tmp 91) ((regN Try.prog 5 20)) (((regN Try.prog 5 21)).seq (Code.cond (.tmp 108) ((regN Try.prog 5 22)) (((regN Try.prog 5 23)).seq (Code.cond (.tmp 117) ((regN Try.prog 5 24)) (((regN Try.prog 5 25)).seq (Code.cond (.tmp 122) ((regN Try.prog 5 26)) (((regN Try.prog 5 27)).seq (Code.cond (.tmp 136) ((regN Try.prog 5 28)) (((regN Try.prog 5 29)).seq (Code.cond (.tmp 146) ((regN Try.prog 5 30)) (((regN Try.prog 5 31)).seq (Code.cond (.tmp 149) ((regN Try.prog 5 32)) (((regN Try.prog 5 33)).seq (Code.cond (.tmp 153) ((regN Try.prog 5 34)) (((regN Try.prog 5 35)).seq (Code.cond (.tmp 156) ((regN Try.prog 5 36)) (((regN Try.prog 5 37)).seq (Code.cond (.tmp 159) ((regN Try.prog 5 38)) ((regN Try.prog 5 39)))))))))))))))))))))))))))))) (mkF [(1, .int .i64 wh), (2, .int .i64 wt), (3, .pointer (some ⟨0, 0, none⟩)), (6, .bool false), (7, .pointer (some ⟨1, 0, none⟩)), (8, .int .i64 (x : Int)), (9, .pointer (some ⟨2, 0 + x * 16, none⟩))] 171 0) [(0, ⟨29, [.string cn, .slice (some ⟨0, 0, some 2⟩) n 0, .int .i64 re, .int .i64 co, .int .i64 rs, .int .i64 dl, .int .i64 rq, .int .i64 cs, .int .i64 br, .int .i64 bs, .int .i64 bm, .int .i64 by_, .int .i64 en, .float .f64 q, .int .i64 li, .int .i64 he, .int .i64 ct, .int .i64 bo], 0⟩), (1, ⟨29, [.string cn, .slice (some ⟨2, 0, none⟩) n n, .int .i64 re, .int .i64 co, .int .i64 rs, .int .i64 dl, .int .i64 rq, .int .i64 cs, .int .i64 br, .int .i64 bs, .int .i64 bm, .int .i64 by_, .int .i64 en, .float .f64 q, .int .i64 li, .int .i64 he, .int .i64 ct, .int .i64 bo], 0⟩), (2, ⟨46, E.flatMap realP, 1⟩), (3, ⟨9, p.hs.map Value.string, 3⟩), (4, ⟨54, p.bk.flatMap bkV, 3⟩)] 2437 ⟨.normal, mkF [(3, .pointer (some ⟨0, 0, none⟩)), (7, .pointer (some ⟨1, 0, none⟩))] 171 0, [(0, ⟨29, [.string cn, .slice (some ⟨0, 0, some 2⟩) n 0, .int .i64 re, .int .i64 co, .int .i64 rs, .int .i64 dl, .int .i64 rq, .int .i64 cs, .int .i64 br, .int .i64 bs, .int .i64 bm, .int .i64 by_, .int .i64 en, .float .f64 q, .int .i64 li, .int .i64 he, .int .i64 ct, .int .i64 bo], 0⟩), (1, ⟨29, [.string ⟨#[97, 32, 98]⟩, .slice (some ⟨2, 0, none⟩) n n, .int .i64 re, .int .i64 co, .int .i64 rs, .int .i64 dl, .int .i64 rq, .int .i64 cs, .int .i64 br, .int .i64 bs, .int .i64 bm, .int .i64 by_, .int .i64 en, .float .f64 q, .int .i64 li, .int .i64 he, .int .i64 ct, .int .i64 bo], 0⟩), (2, ⟨46, E.flatMap realP, 1⟩), (3, ⟨9, p.hs.map Value.string, 3⟩), (4, ⟨54, p.bk.flatMap bkV, 3⟩)], 3845, []⟩ :=
  codeOK_of callK_spec mixed (ω := [(2501, OV.call (Value.int IntKind.i64 8) [])]) (LF := 10) (n := 100) (keys := [3, 7]) (ids := [0, 1, 2, 3, 4]) (ps := [CallOK Try.prog 10 [Value.int IntKind.i64 wt, Value.int IntKind.i64 14] [] 0 (Value.int IntKind.i64 8) []]) (by kernel_rfl) (ob_cons hk ob_nil)
theorem sps_9 {E : List PX} {p : PoolT} {n x k : Nat} {cn : ByteArray} {re co rs dl rq cs br bs bm by_ en li he ct bo : Int} {q : Nat} {wh wt : Int} (hk : CallOK Try.prog 10 [.int .i64 wt, .int .i64 14] [] 0 (.int .i64 9) []) (hx : x < E.length) (hE : E.getD x default = (p, .slice (some ⟨3, 0, none⟩) p.hs.length p.hs.length, .slice (some ⟨4, 0, none⟩) p.bk.length p.bk.length)) (hn : E.length = n) (h9 : n ≤ 9000000000) (hhp : 0 < p.hs.length) (hbp : 0 < p.bk.length) (hh9 : p.hs.length ≤ 9000000000) (hb9 : p.bk.length ≤ 9000000000) : CodeOK Try.prog (Code.seq (regN Try.prog 5 12) (Code.block 0 (((regN Try.prog 5 13)).seq (Code.cond (.tmp 62) ((regN Try.prog 5 14)) (((regN Try.prog 5 15)).seq (Code.cond (.tmp 67) ((regN Try.prog 5 16)) (((regN Try.prog 5 17)).seq (Code.cond (.tmp 84) ((regN Try.prog 5 18)) (((regN Try.prog 5 19)).seq (Code.cond (.tmp 91) ((regN Try.prog 5 20)) (((regN Try.prog 5 21)).seq (Code.cond (.tmp 108) ((regN Try.prog 5 22)) (((regN Try.prog 5 23)).seq (Code.cond (.tmp 117) ((regN Try.prog 5 24)) (((regN Try.prog 5 25)).seq (Code.cond (.tmp 122) ((regN Try.prog 5 26)) (((regN Try.prog 5 27)).seq (Code.cond (.tmp 136) ((regN Try.prog 5 28)) (((regN Try.prog 5 29)).seq (Code.cond (.tmp 146) ((regN Try.prog 5 30)) (((regN Try.prog 5 31)).seq (Code.cond (.tmp 149) ((regN Try.prog 5 32)) (((regN Try.prog 5 33)).seq (Code.cond (.tmp 153) ((regN Try.prog 5 34)) (((regN Try.prog 5 35)).seq (Code.cond (.tmp 156) ((regN Try.prog 5 36)) (((regN Try.prog 5 37)).seq (Code.cond (.tmp 159) ((regN Try.prog 5 38)) ((regN Try.prog 5 39)))))))))))))))))))))))))))))) (mkF [(1, .int .i64 wh), (2, .int .i64 wt), (3, .pointer (some ⟨0, 0, none⟩)), (6, .bool false), (7, .pointer (some ⟨1, 0, none⟩)), (8, .int .i64 (x : Int)), (9, .pointer (some ⟨2, 0 + x * 16, none⟩))] 171 0) [(0, ⟨29, [.string cn, .slice (some ⟨0, 0, some 2⟩) n 0, .int .i64 re, .int .i64 co, .int .i64 rs, .int .i64 dl, .int .i64 rq, .int .i64 cs, .int .i64 br, .int .i64 bs, .int .i64 bm, .int .i64 by_, .int .i64 en, .float .f64 q, .int .i64 li, .int .i64 he, .int .i64 ct, .int .i64 bo], 0⟩), (1, ⟨29, [.string cn, .slice (some ⟨2, 0, none⟩) n n, .int .i64 re, .int .i64 co, .int .i64 rs, .int .i64 dl, .int .i64 rq, .int .i64 cs, .int .i64 br, .int .i64 bs, .int .i64 bm, .int .i64 by_, .int .i64 en, .float .f64 q, .int .i64 li, .int .i64 he, .int .i64 ct, .int .i64 bo], 0⟩), (2, ⟨46, E.flatMap realP, 1⟩), (3, ⟨9, p.hs.map Value.string, 3⟩), (4, ⟨54, p.bk.flatMap bkV, 3⟩)] 2437 ⟨.normal, mkF [(3, .pointer (some ⟨0, 0, none⟩)), (7, .pointer (some ⟨1, 0, none⟩))] 171 0, [(0, ⟨29, [.string cn, .slice (some ⟨0, 0, some 2⟩) n 0, .int .i64 re, .int .i64 co, .int .i64 rs, .int .i64 dl, .int .i64 rq, .int .i64 cs, .int .i64 br, .int .i64 bs, .int .i64 bm, .int .i64 by_, .int .i64 en, .float .f64 q, .int .i64 li, .int .i64 he, .int .i64 ct, .int .i64 bo], 0⟩), (1, ⟨29, [.string cn, .slice (some ⟨2, 0, none⟩) n n, .int .i64 re, .int .i64 co, .int .i64 rs, .int .i64 dl, .int .i64 rq, .int .i64 cs, .int .i64 br, .int .i64 bs, .int .i64 bm, .int .i64 by_, .int .i64 en, .float .f64 9223372036854775808, .int .i64 li, .int .i64 he, .int .i64 ct, .int .i64 bo], 0⟩), (2, ⟨46, E.flatMap realP, 1⟩), (3, ⟨9, p.hs.map Value.string, 3⟩), (4, ⟨54, p.bk.flatMap bkV, 3⟩)], 4037, []⟩ :=
  codeOK_of callK_spec mixed (ω := [(2501, OV.call (Value.int IntKind.i64 9) [])]) (LF := 10) (n := 100) (keys := [3, 7]) (ids := [0, 1, 2, 3, 4]) (ps := [CallOK Try.prog 10 [Value.int IntKind.i64 wt, Value.int IntKind.i64 14] [] 0 (Value.int IntKind.i64 9) []]) (by kernel_rfl) (ob_cons hk ob_nil)
theorem sps_10 {E : List PX} {p : PoolT} {n x k : Nat} {cn : ByteArray} {re co rs dl rq cs br bs bm by_ en li he ct bo : Int} {q : Nat} {wh wt : Int} (hk : CallOK Try.prog 10 [.int .i64 wt, .int .i64 14] [] 0 (.int .i64 10) []) (hx : x < E.length) (hE : E.getD x default = (p, .slice (some ⟨3, 0, none⟩) p.hs.length p.hs.length, .slice (some ⟨4, 0, none⟩) p.bk.length p.bk.length)) (hn : E.length = n) (h9 : n ≤ 9000000000) (hhp : 0 < p.hs.length) (hbp : 0 < p.bk.length) (hh9 : p.hs.length ≤ 9000000000) (hb9 : p.bk.length ≤ 9000000000) : CodeOK Try.prog (Code.seq (regN Try.prog 5 12) (Code.block 0 (((regN Try.prog 5 13)).seq (Code.cond (.tmp 62) ((regN Try.prog 5 14)) (((regN Try.prog 5 15)).seq (Code.cond (.tmp 67) ((regN Try.prog 5 16)) (((regN Try.prog 5 17)).seq (Code.cond (.tmp 84) ((regN Try.prog 5 18)) (((regN Try.prog 5 19)).seq (Code.cond (.tmp 91) ((regN Try.prog 5 20)) (((regN Try.prog 5 21)).seq (Code.cond (.tmp 108) ((regN Try.prog 5 22)) (((regN Try.prog 5 23)).seq (Code.cond (.tmp 117) ((regN Try.prog 5 24)) (((regN Try.prog 5 25)).seq (Code.cond (.tmp 122) ((regN Try.prog 5 26)) (((regN Try.prog 5 27)).seq (Code.cond (.tmp 136) ((regN Try.prog 5 28)) (((regN Try.prog 5 29)).seq (Code.cond (.tmp 146) ((regN Try.prog 5 30)) (((regN Try.prog 5 31)).seq (Code.cond (.tmp 149) ((regN Try.prog 5 32)) (((regN Try.prog 5 33)).seq (Code.cond (.tmp 153) ((regN Try.prog 5 34)) (((regN Try.prog 5 35)).seq (Code.cond (.tmp 156) ((regN Try.prog 5 36)) (((regN Try.prog 5 37)).seq (Code.cond (.tmp 159) ((regN Try.prog 5 38)) ((regN Try.prog 5 39)))))))))))))))))))))))))))))) (mkF [(1, .int .i64 wh), (2, .int .i64 wt), (3, .pointer (some ⟨0, 0, none⟩)), (6, .bool false), (7, .pointer (some ⟨1, 0, none⟩)), (8, .int .i64 (x : Int)), (9, .pointer (some ⟨2, 0 + x * 16, none⟩))] 171 0) [(0, ⟨29, [.string cn, .slice (some ⟨0, 0, some 2⟩) n 0, .int .i64 re, .int .i64 co, .int .i64 rs, .int .i64 dl, .int .i64 rq, .int .i64 cs, .int .i64 br, .int .i64 bs, .int .i64 bm, .int .i64 by_, .int .i64 en, .float .f64 q, .int .i64 li, .int .i64 he, .int .i64 ct, .int .i64 bo], 0⟩), (1, ⟨29, [.string cn, .slice (some ⟨2, 0, none⟩) n n, .int .i64 re, .int .i64 co, .int .i64 rs, .int .i64 dl, .int .i64 rq, .int .i64 cs, .int .i64 br, .int .i64 bs, .int .i64 bm, .int .i64 by_, .int .i64 en, .float .f64 q, .int .i64 li, .int .i64 he, .int .i64 ct, .int .i64 bo], 0⟩), (2, ⟨46, E.flatMap realP, 1⟩), (3, ⟨9, p.hs.map Value.string, 3⟩), (4, ⟨54, p.bk.flatMap bkV, 3⟩)] 2437 ⟨.normal, mkF [(3, .pointer (some ⟨0, 0, none⟩)), (7, .pointer (some ⟨1, 0, none⟩))] 171 0, [(0, ⟨29, [.string cn, .slice (some ⟨0, 0, some 2⟩) n 0, .int .i64 re, .int .i64 co, .int .i64 rs, .int .i64 dl, .int .i64 rq, .int .i64 cs, .int .i64 br, .int .i64 bs, .int .i64 bm, .int .i64 by_, .int .i64 en, .float .f64 q, .int .i64 li, .int .i64 he, .int .i64 ct, .int .i64 bo], 0⟩), (1, ⟨29, [.string cn, .slice (some ⟨2, 0, none⟩) n n, .int .i64 (-1), .int .i64 co, .int .i64 rs, .int .i64 dl, .int .i64 rq, .int .i64 cs, .int .i64 br, .int .i64 bs, .int .i64 bm, .int .i64 by_, .int .i64 en, .float .f64 q, .int .i64 li, .int .i64 he, .int .i64 ct, .int .i64 bo], 0⟩), (2, ⟨46, E.flatMap realP, 1⟩), (3, ⟨9, p.hs.map Value.string, 3⟩), (4, ⟨54, p.bk.flatMap bkV, 3⟩)], 4101, []⟩ :=
  codeOK_of callK_spec mixed (ω := [(2501, OV.call (Value.int IntKind.i64 10) [])]) (LF := 10) (n := 100) (keys := [3, 7]) (ids := [0, 1, 2, 3, 4]) (ps := [CallOK Try.prog 10 [Value.int IntKind.i64 wt, Value.int IntKind.i64 14] [] 0 (Value.int IntKind.i64 10) []]) (by kernel_rfl) (ob_cons hk ob_nil)
theorem sps_11 {E : List PX} {p : PoolT} {n x k : Nat} {cn : ByteArray} {re co rs dl rq cs br bs bm by_ en li he ct bo : Int} {q : Nat} {wh wt : Int} (hk : CallOK Try.prog 10 [.int .i64 wt, .int .i64 14] [] 0 (.int .i64 11) []) (hx : x < E.length) (hE : E.getD x default = (p, .slice (some ⟨3, 0, none⟩) p.hs.length p.hs.length, .slice (some ⟨4, 0, none⟩) p.bk.length p.bk.length)) (hn : E.length = n) (h9 : n ≤ 9000000000) (hhp : 0 < p.hs.length) (hbp : 0 < p.bk.length) (hh9 : p.hs.length ≤ 9000000000) (hb9 : p.bk.length ≤ 9000000000) : CodeOK Try.prog (Code.seq (regN Try.prog 5 12) (Code.block 0 (((regN Try.prog 5 13)).seq (Code.cond (.tmp 62) ((regN Try.prog 5 14)) (((regN Try.prog 5 15)).seq (Code.cond (.tmp 67) ((regN Try.prog 5 16)) (((regN Try.prog 5 17)).seq (Code.cond (.tmp 84) ((regN Try.prog 5 18)) (((regN Try.prog 5 19)).seq (Code.cond (.tmp 91) ((regN Try.prog 5 20)) (((regN Try.prog 5 21)).seq (Code.cond (.tmp 108) ((regN Try.prog 5 22)) (((regN Try.prog 5 23)).seq (Code.cond (.tmp 117) ((regN Try.prog 5 24)) (((regN Try.prog 5 25)).seq (Code.cond (.tmp 122) ((regN Try.prog 5 26)) (((regN Try.prog 5 27)).seq (Code.cond (.tmp 136) ((regN Try.prog 5 28)) (((regN Try.prog 5 29)).seq (Code.cond (.tmp 146) ((regN Try.prog 5 30)) (((regN Try.prog 5 31)).seq (Code.cond (.tmp 149) ((regN Try.prog 5 32)) (((regN Try.prog 5 33)).seq (Code.cond (.tmp 153) ((regN Try.prog 5 34)) (((regN Try.prog 5 35)).seq (Code.cond (.tmp 156) ((regN Try.prog 5 36)) (((regN Try.prog 5 37)).seq (Code.cond (.tmp 159) ((regN Try.prog 5 38)) ((regN Try.prog 5 39)))))))))))))))))))))))))))))) (mkF [(1, .int .i64 wh), (2, .int .i64 wt), (3, .pointer (some ⟨0, 0, none⟩)), (6, .bool false), (7, .pointer (some ⟨1, 0, none⟩)), (8, .int .i64 (x : Int)), (9, .pointer (some ⟨2, 0 + x * 16, none⟩))] 171 0) [(0, ⟨29, [.string cn, .slice (some ⟨0, 0, some 2⟩) n 0, .int .i64 re, .int .i64 co, .int .i64 rs, .int .i64 dl, .int .i64 rq, .int .i64 cs, .int .i64 br, .int .i64 bs, .int .i64 bm, .int .i64 by_, .int .i64 en, .float .f64 q, .int .i64 li, .int .i64 he, .int .i64 ct, .int .i64 bo], 0⟩), (1, ⟨29, [.string cn, .slice (some ⟨2, 0, none⟩) n n, .int .i64 re, .int .i64 co, .int .i64 rs, .int .i64 dl, .int .i64 rq, .int .i64 cs, .int .i64 br, .int .i64 bs, .int .i64 bm, .int .i64 by_, .int .i64 en, .float .f64 q, .int .i64 li, .int .i64 he, .int .i64 ct, .int .i64 bo], 0⟩), (2, ⟨46, E.flatMap realP, 1⟩), (3, ⟨9, p.hs.map Value.string, 3⟩), (4, ⟨54, p.bk.flatMap bkV, 3⟩)] 2437 ⟨.normal, mkF [(3, .pointer (some ⟨0, 0, none⟩)), (7, .pointer (some ⟨1, 0, none⟩))] 171 0, [(0, ⟨29, [.string cn, .slice (some ⟨0, 0, some 2⟩) n 0, .int .i64 re, .int .i64 co, .int .i64 rs, .int .i64 dl, .int .i64 rq, .int .i64 cs, .int .i64 br, .int .i64 bs, .int .i64 bm, .int .i64 by_, .int .i64 en, .float .f64 q, .int .i64 li, .int .i64 he, .int .i64 ct, .int .i64 bo], 0⟩), (1, ⟨29, [.string cn, .slice (some ⟨2, 0, none⟩) n n, .int .i64 re, .int .i64 co, .int .i64 rs, .int .i64 0, .int .i64 rq, .int .i64 cs, .int .i64 br, .int .i64 bs, .int .i64 bm, .int .i64 by_, .int .i64 en, .float .f64 q, .int .i64 li, .int .i64 he, .int .i64 ct, .int .i64 bo], 0⟩), (2, ⟨46, E.flatMap realP, 1⟩), (3, ⟨9, p.hs.map Value.string, 3⟩), (4, ⟨54, p.bk.flatMap bkV, 3⟩)], 4229, []⟩ :=
  codeOK_of callK_spec mixed (ω := [(2501, OV.call (Value.int IntKind.i64 11) [])]) (LF := 10) (n := 100) (keys := [3, 7]) (ids := [0, 1, 2, 3, 4]) (ps := [CallOK Try.prog 10 [Value.int IntKind.i64 wt, Value.int IntKind.i64 14] [] 0 (Value.int IntKind.i64 11) []]) (by kernel_rfl) (ob_cons hk ob_nil)
theorem sps_12 {E : List PX} {p : PoolT} {n x k : Nat} {cn : ByteArray} {re co rs dl rq cs br bs bm by_ en li he ct bo : Int} {q : Nat} {wh wt : Int} (hk : CallOK Try.prog 10 [.int .i64 wt, .int .i64 14] [] 0 (.int .i64 12) []) (hx : x < E.length) (hE : E.getD x default = (p, .slice (some ⟨3, 0, none⟩) p.hs.length p.hs.length, .slice (some ⟨4, 0, none⟩) p.bk.length p.bk.length)) (hn : E.length = n) (h9 : n ≤ 9000000000) (hhp : 0 < p.hs.length) (hbp : 0 < p.bk.length) (hh9 : p.hs.length ≤ 9000000000) (hb9 : p.bk.length ≤ 9000000000) : CodeOK Try.prog (Code.seq (regN Try.prog 5 12) (Code.block 0 (((regN Try.prog 5 13)).seq (Code.cond (.tmp 62) ((regN Try.prog 5 14)) (((regN Try.prog 5 15)).seq (Code.cond (.tmp 67) ((regN Try.prog 5 16)) (((regN Try.prog 5 17)).seq (Code.cond (.tmp 84) ((regN Try.prog 5 18)) (((regN Try.prog 5 19)).seq (Code.cond (.tmp 91) ((regN Try.prog 5 20)) (((regN Try.prog 5 21)).seq (Code.cond (.tmp 108) ((regN Try.prog 5 22)) (((regN Try.prog 5 23)).seq (Code.cond (.tmp 117) ((regN Try.prog 5 24)) (((regN Try.prog 5 25)).seq (Code.cond (.tmp 122) ((regN Try.prog 5 26)) (((regN Try.prog 5 27)).seq (Code.cond (.tmp 136) ((regN Try.prog 5 28)) (((regN Try.prog 5 29)).seq (Code.cond (.tmp 146) ((regN Try.prog 5 30)) (((regN Try.prog 5 31)).seq (Code.cond (.tmp 149) ((regN Try.prog 5 32)) (((regN Try.prog 5 33)).seq (Code.cond (.tmp 153) ((regN Try.prog 5 34)) (((regN Try.prog 5 35)).seq (Code.cond (.tmp 156) ((regN Try.prog 5 36)) (((regN Try.prog 5 37)).seq (Code.cond (.tmp 159) ((regN Try.prog 5 38)) ((regN Try.prog 5 39)))))))))))))))))))))))))))))) (mkF [(1, .int .i64 wh), (2, .int .i64 wt), (3, .pointer (some ⟨0, 0, none⟩)), (6, .bool false), (7, .pointer (some ⟨1, 0, none⟩)), (8, .int .i64 (x : Int)), (9, .pointer (some ⟨2, 0 + x * 16, none⟩))] 171 0) [(0, ⟨29, [.string cn, .slice (some ⟨0, 0, some 2⟩) n 0, .int .i64 re, .int .i64 co, .int .i64 rs, .int .i64 dl, .int .i64 rq, .int .i64 cs, .int .i64 br, .int .i64 bs, .int .i64 bm, .int .i64 by_, .int .i64 en, .float .f64 q, .int .i64 li, .int .i64 he, .int .i64 ct, .int .i64 bo], 0⟩), (1, ⟨29, [.string cn, .slice (some ⟨2, 0, none⟩) n n, .int .i64 re, .int .i64 co, .int .i64 rs, .int .i64 dl, .int .i64 rq, .int .i64 cs, .int .i64 br, .int .i64 bs, .int .i64 bm, .int .i64 by_, .int .i64 en, .float .f64 q, .int .i64 li, .int .i64 he, .int .i64 ct, .int .i64 bo], 0⟩), (2, ⟨46, E.flatMap realP, 1⟩), (3, ⟨9, p.hs.map Value.string, 3⟩), (4, ⟨54, p.bk.flatMap bkV, 3⟩)] 2437 ⟨.normal, mkF [(3, .pointer (some ⟨0, 0, none⟩)), (7, .pointer (some ⟨1, 0, none⟩))] 171 0, [(0, ⟨29, [.string cn, .slice (some ⟨0, 0, some 2⟩) n 0, .int .i64 re, .int .i64 co, .int .i64 rs, .int .i64 dl, .int .i64 rq, .int .i64 cs, .int .i64 br, .int .i64 bs, .int .i64 bm, .int .i64 by_, .int .i64 en, .float .f64 q, .int .i64 li, .int .i64 he, .int .i64 ct, .int .i64 bo], 0⟩), (1, ⟨29, [.string cn, .slice (some ⟨2, 0, none⟩) n n, .int .i64 re, .int .i64 co, .int .i64 rs, .int .i64 dl, .int .i64 rq, .int .i64 cs, .int .i64 br, .int .i64 bs, .int .i64 bm, .int .i64 by_, .int .i64 en, .float .f64 q, .int .i64 0, .int .i64 he, .int .i64 ct, .int .i64 bo], 0⟩), (2, ⟨46, E.flatMap realP, 1⟩), (3, ⟨9, p.hs.map Value.string, 3⟩), (4, ⟨54, p.bk.flatMap bkV, 3⟩)], 4421, []⟩ :=
  codeOK_of callK_spec mixed (ω := [(2501, OV.call (Value.int IntKind.i64 12) [])]) (LF := 10) (n := 100) (keys := [3, 7]) (ids := [0, 1, 2, 3, 4]) (ps := [CallOK Try.prog 10 [Value.int IntKind.i64 wt, Value.int IntKind.i64 14] [] 0 (Value.int IntKind.i64 12) []]) (by kernel_rfl) (ob_cons hk ob_nil)
theorem sps_13 {E : List PX} {p : PoolT} {n x k : Nat} {cn : ByteArray} {re co rs dl rq cs br bs bm by_ en li he ct bo : Int} {q : Nat} {wh wt : Int} (hk : CallOK Try.prog 10 [.int .i64 wt, .int .i64 14] [] 0 (.int .i64 13) []) (hx : x < E.length) (hE : E.getD x default = (p, .slice (some ⟨3, 0, none⟩) p.hs.length p.hs.length, .slice (some ⟨4, 0, none⟩) p.bk.length p.bk.length)) (hn : E.length = n) (h9 : n ≤ 9000000000) (hhp : 0 < p.hs.length) (hbp : 0 < p.bk.length) (hh9 : p.hs.length ≤ 9000000000) (hb9 : p.bk.length ≤ 9000000000) : CodeOK Try.prog (Code.seq (regN Try.prog 5 12) (Code.block 0 (((regN Try.prog 5 13)).seq (Code.cond (.tmp 62) ((regN Try.prog 5 14)) (((regN Try.prog 5 15)).seq (Code.cond (.tmp 67) ((regN Try.prog 5 16)) (((regN Try.prog 5 17)).seq (Code.cond (.tmp 84) ((regN Try.prog 5 18)) (((regN Try.prog 5 19)).seq (Code.cond (.tmp 91) ((regN Try.prog 5 20)) (((regN Try.prog 5 21)).seq (Code.cond (.tmp 108) ((regN Try.prog 5 22)) (((regN Try.prog 5 23)).seq (Code.cond (.tmp 117) ((regN Try.prog 5 24)) (((regN Try.prog 5 25)).seq (Code.cond (.tmp 122) ((regN Try.prog 5 26)) (((regN Try.prog 5 27)).seq (Code.cond (.tmp 136) ((regN Try.prog 5 28)) (((regN Try.prog 5 29)).seq (Code.cond (.tmp 146) ((regN Try.prog 5 30)) (((regN Try.prog 5 31)).seq (Code.cond (.tmp 149) ((regN Try.prog 5 32)) (((regN Try.prog 5 33)).seq (Code.cond (.tmp 153) ((regN Try.prog 5 34)) (((regN Try.prog 5 35)).seq (Code.cond (.tmp 156) ((regN Try.prog 5 36)) (((regN Try.prog 5 37)).seq (Code.cond (.tmp 159) ((regN Try.prog 5 38)) ((regN Try.prog 5 39)))))))))))))))))))))))))))))) (mkF [(1, .int .i64 wh), (2, .int .i64 wt), (3, .pointer (some ⟨0, 0, none⟩)), (6, .bool false), (7, .pointer (some ⟨1, 0, none⟩)), (8, .int .i64 (x : Int)), (9, .pointer (some ⟨2, 0 + x * 16, none⟩))] 171 0) [(0, ⟨29, [.string cn, .slice (some ⟨0, 0, some 2⟩) n 0, .int .i64 re, .int .i64 co, .int .i64 rs, .int .i64 dl, .int .i64 rq, .int .i64 cs, .int .i64 br, .int .i64 bs, .int .i64 bm, .int .i64 by_, .int .i64 en, .float .f64 q, .int .i64 li, .int .i64 he, .int .i64 ct, .int .i64 bo], 0⟩), (1, ⟨29, [.string cn, .slice (some ⟨2, 0, none⟩) n n, .int .i64 re, .int .i64 co, .int .i64 rs, .int .i64 dl, .int .i64 rq, .int .i64 cs, .int .i64 br, .int .i64 bs, .int .i64 bm, .int .i64 by_, .int .i64 en, .float .f64 q, .int .i64 li, .int .i64 he, .int .i64 ct, .int .i64 bo], 0⟩), (2, ⟨46, E.flatMap realP, 1⟩), (3, ⟨9, p.hs.map Value.string, 3⟩), (4, ⟨54, p.bk.flatMap bkV, 3⟩)] 2437 ⟨.normal, mkF [(3, .pointer (some ⟨0, 0, none⟩)), (7, .pointer (some ⟨1, 0, none⟩))] 171 0, [(0, ⟨29, [.string cn, .slice (some ⟨0, 0, some 2⟩) n 0, .int .i64 re, .int .i64 co, .int .i64 rs, .int .i64 dl, .int .i64 rq, .int .i64 cs, .int .i64 br, .int .i64 bs, .int .i64 bm, .int .i64 by_, .int .i64 en, .float .f64 q, .int .i64 li, .int .i64 he, .int .i64 ct, .int .i64 bo], 0⟩), (1, ⟨29, [.string cn, .slice (some ⟨2, 0, none⟩) n n, .int .i64 re, .int .i64 co, .int .i64 rs, .int .i64 dl, .int .i64 rq, .int .i64 cs, .int .i64 br, .int .i64 bs, .int .i64 (-1), .int .i64 by_, .int .i64 en, .float .f64 q, .int .i64 li, .int .i64 he, .int .i64 ct, .int .i64 bo], 0⟩), (2, ⟨46, E.flatMap realP, 1⟩), (3, ⟨9, p.hs.map Value.string, 3⟩), (4, ⟨54, p.bk.flatMap bkV, 3⟩)], 4421, []⟩ :=
  codeOK_of callK_spec mixed (ω := [(2501, OV.call (Value.int IntKind.i64 13) [])]) (LF := 10) (n := 100) (keys := [3, 7]) (ids := [0, 1, 2, 3, 4]) (ps := [CallOK Try.prog 10 [Value.int IntKind.i64 wt, Value.int IntKind.i64 14] [] 0 (Value.int IntKind.i64 13) []]) (by kernel_rfl) (ob_cons hk ob_nil)
theorem sp40 {n n1 : Nat} {cn cn1 : ByteArray} {re co rs dl rq cs br bs bm by_ en li he ct bo re1 co1 rs1 dl1 rq1 cs1 br1 bs1 bm1 by_1 en1 li1 he1 ct1 bo1 : Int} {q q1 : Nat} {wd : Int} (hd : CallOK Try.prog 9 [.agg #[.string cn1, .slice (some ⟨0, 0, some 2⟩) n1 0, .int .i64 re1, .int .i64 co1, .int .i64 rs1, .int .i64 dl1, .int .i64 rq1, .int .i64 cs1, .int .i64 br1, .int .i64 bs1, .int .i64 bm1, .int .i64 by_1, .int .i64 en1, .float .f64 q1, .int .i64 li1, .int .i64 he1, .int .i64 ct1, .int .i64 bo1]] [] 0 (.int .i64 wd) []) (hc : CallOK Try.prog 9 [.agg #[.string cn, .slice (some ⟨1, 0, some 2⟩) n 0, .int .i64 re, .int .i64 co, .int .i64 rs, .int .i64 dl, .int .i64 rq, .int .i64 cs, .int .i64 br, .int .i64 bs, .int .i64 bm, .int .i64 by_, .int .i64 en, .float .f64 q, .int .i64 li, .int .i64 he, .int .i64 ct, .int .i64 bo]] [] 0 (.int .i64 0) []) (hw : (wd != 0) = true) : CodeOK Try.prog (regN Try.prog 5 40) (mkF [(3, .pointer (some ⟨0, 0, none⟩)), (7, .pointer (some ⟨1, 0, none⟩))] 171 0) [(0, ⟨29, [.string cn, .slice (some ⟨1, 0, some 2⟩) n 0, .int .i64 re, .int .i64 co, .int .i64 rs, .int .i64 dl, .int .i64 rq, .int .i64 cs, .int .i64 br, .int .i64 bs, .int .i64 bm, .int .i64 by_, .int .i64 en, .float .f64 q, .int .i64 li, .int .i64 he, .int .i64 ct, .int .i64 bo], 0⟩), (1, ⟨29, [.string cn1, .slice (some ⟨0, 0, some 2⟩) n1 0, .int .i64 re1, .int .i64 co1, .int .i64 rs1, .int .i64 dl1, .int .i64 rq1, .int .i64 cs1, .int .i64 br1, .int .i64 bs1, .int .i64 bm1, .int .i64 by_1, .int .i64 en1, .float .f64 q1, .int .i64 li1, .int .i64 he1, .int .i64 ct1, .int .i64 bo1], 0⟩)] 2 ⟨.normal, mkF [(6, .bool true)] 171 0, [], 578, []⟩ :=
  codeOK_of callK_spec mixed (ω := [(66, OV.call (Value.int IntKind.i64 wd) []), (194, OV.soft (Value.bool true)), (322, OV.call (Value.int IntKind.i64 0) [])]) (LF := 10) (n := 100) (keys := [6]) (ids := []) (ps := [CallOK Try.prog 9 [Value.agg #[Value.string cn1, Value.slice (some { block := 0, off := 0, spot := some 2 }) n1 0, Value.int IntKind.i64 re1, Value.int IntKind.i64 co1, Value.int IntKind.i64 rs1, Value.int IntKind.i64 dl1, Value.int IntKind.i64 rq1, Value.int IntKind.i64 cs1, Value.int IntKind.i64 br1, Value.int IntKind.i64 bs1, Value.int IntKind.i64 bm1, Value.int IntKind.i64 by_1, Value.int IntKind.i64 en1, Value.float FloatKind.f64 q1, Value.int IntKind.i64 li1, Value.int IntKind.i64 he1, Value.int IntKind.i64 ct1, Value.int IntKind.i64 bo1]] [] 0 (Value.int IntKind.i64 wd) [], (wd != 0) = true, CallOK Try.prog 9 [Value.agg #[Value.string cn, Value.slice (some { block := 1, off := 0, spot := some 2 }) n 0, Value.int IntKind.i64 re, Value.int IntKind.i64 co, Value.int IntKind.i64 rs, Value.int IntKind.i64 dl, Value.int IntKind.i64 rq, Value.int IntKind.i64 cs, Value.int IntKind.i64 br, Value.int IntKind.i64 bs, Value.int IntKind.i64 bm, Value.int IntKind.i64 by_, Value.int IntKind.i64 en, Value.float FloatKind.f64 q, Value.int IntKind.i64 li, Value.int IntKind.i64 he, Value.int IntKind.i64 ct, Value.int IntKind.i64 bo]] [] 0 (Value.int IntKind.i64 0) []]) (by kernel_rfl) (ob_cons hd (ob_cons hw (ob_cons hc ob_nil)))
end
section
open Go.RowKit
set_option linter.unusedSimpArgs false
set_option linter.unusedVariables false
set_option linter.unusedSectionVars false
set_option maxRecDepth 100000
theorem nd_apart {L : List PX} (h : (L.flatMap blks).Nodup) {i j : Nat} (hi : i < L.length) (hj : j < L.length) (hij : i ≠ j) {b : Nat} (hb : b ∈ blks (L.getD i default)) : b ∉ blks (L.getD j default) := fun hb2 => by
  obtain ⟨_, h2⟩ := List.pairwise_flatMap.1 h
  have e1 : L.getD i default = L[i] := by rw [List.getD_eq_getElem?_getD, List.getElem?_eq_getElem hi]; rfl
  have e2 : L.getD j default = L[j] := by rw [List.getD_eq_getElem?_getD, List.getElem?_eq_getElem hj]; rfl
  rw [e1] at hb
  rw [e2] at hb2
  have h3 := List.pairwise_iff_getElem.1 h2
  rcases Nat.lt_or_gt_of_ne hij with hlt | hlt
  · exact h3 i j hi hj hlt b hb b hb2 rfl
  · exact h3 j i hj hi hlt b hb2 b hb rfl
theorem nd_self {L : List PX} (h : (L.flatMap blks).Nodup) {i : Nat} (hi : i < L.length) : (blks (L.getD i default)).Nodup :=
  (List.pairwise_flatMap.1 h).1 _ (getD_mem' hi)
theorem far_rows {E0 E1 : Ent} {L : List PX} {w : World} (hL : ∀ t ∈ L, okW w t) {i : Nat} {a : Addr} (h2 : 2 ≤ i) (hc : (entQ E0 E1 L i).2.2.2 ≠ []) (ha : (entQ E0 E1 L i).1 = some a) : ∃ j, j < L.length ∧ a.block ∈ blks (L.getD j default) := by
  obtain ⟨j, rfl | rfl⟩ : ∃ j, i = 2 + 2 * j ∨ i = 3 + 2 * j := ⟨(i - 2) / 2, by omega⟩
  · rw [entQh] at hc ha
    have hj : j < L.length := by
      refine Nat.lt_of_not_le fun h => hc ?_
      rw [List.getD_eq_getElem?_getD, List.getElem?_eq_none h]; rfl
    obtain ⟨oa, c, e, ho⟩ := (hL _ (getD_mem' hj)).h
    rw [e] at hc ha
    change ((L.getD j default).1.hs.flatMap hF) ≠ [] at hc
    change oa = some a at ha
    exact ⟨j, hj, List.mem_append.2 (.inl (rowV_blk (hL _ (getD_mem' hj)).h e ha (by
      cases hl : (L.getD j default).1.hs with
      | nil => rw [hl] at hc; exact absurd rfl hc
      | cons _ _ => exact Nat.succ_pos _)))⟩
  · rw [entQb] at hc ha
    have hj : j < L.length := by
      refine Nat.lt_of_not_le fun h => hc ?_
      rw [List.getD_eq_getElem?_getD, List.getElem?_eq_none h]; rfl
    obtain ⟨oa, c, e, ho⟩ := (hL _ (getD_mem' hj)).b
    rw [e] at hc ha
    change ((L.getD j default).1.bk.flatMap bkV) ≠ [] at hc
    change oa = some a at ha
    exact ⟨j, hj, List.mem_append.2 (.inr (rowV_blk (hL _ (getD_mem' hj)).b e ha (by
      cases hl : (L.getD j default).1.bk with
      | nil => rw [hl] at hc; exact absurd rfl hc
      | cons _ _ => exact Nat.succ_pos _)))⟩
theorem own_ge {n0 : Nat} {w : World} {t : PX} (ho : OwnX n0 w t) (hk : okW w t) {b : Nat} (hb : b ∈ blks t) : n0 ≤ b := by
  rcases List.mem_append.1 hb with h | h
  · rcases Nat.eq_zero_or_pos t.1.hs.length with h0 | h0
    · obtain ⟨oa, c, e, _⟩ := hk.h
      rw [e, h0] at h
      cases oa <;> cases h
    · obtain ⟨B, c, e, h1, _⟩ := ho.h h0
      rw [e, hblk_own h0] at h
      rw [List.mem_singleton.1 h]; exact h1
  · rcases Nat.eq_zero_or_pos t.1.bk.length with h0 | h0
    · obtain ⟨oa, c, e, _⟩ := hk.b
      rw [e, h0] at h
      cases oa <;> cases h
    · obtain ⟨B, c, e, h1, _⟩ := ho.b h0
      rw [e, hblk_own h0] at h
      rw [List.mem_singleton.1 h]; exact h1
theorem rowAt_le {T : Type} {w : World} {B el c sz : Nat} {f : T → List Value} {l : List T} (hf : ∀ t, (f t).length = sz) (hs : 0 < sz) (h : RowAt w B el c sz (l.flatMap f)) : l.length ≤ c := by
  obtain ⟨cs, fz, h1, h2, h3, h4, h5⟩ := h.ex
  rw [flatMap_len hf, h3] at h4
  exact Nat.le_of_mul_le_mul_right h4 hs
/-- The state of the law behind its copy. -/
structure SpSt (n1 : Nat) (w0 : World) (K : CfgS) (Lc : List PX) (oa : Option Addr) (cc : Nat) (R : List PX) (B3 B7 Bd cap : Nat) (w : World) : Prop where
  cbox : ∃ fz, w.heap[B3]? = some (.cells (cfgC K (.slice oa Lc.length cc)).toArray 29 fz) ∧ fzOK fz 18
  dbox : ∃ fz, w.heap[B7]? = some (.cells (cfgC K (.slice (some ⟨Bd, 0, none⟩) Lc.length cap)).toArray 29 fz) ∧ fzOK fz 18
  cp : CopyOf n1 Lc R Bd cap w
  okc : ∀ t ∈ Lc, okW w t
  opc : Opn w realP Lc oa cc
  ge : w0.heap.size ≤ B3 ∧ B3 < n1 ∧ n1 ≤ B7
  farc : ∀ t ∈ Lc, ∀ b ∈ blks t, b ≠ B3 ∧ b < n1
  faro : ∀ a, oa = some a → 0 < Lc.length → a.block ≠ B3 ∧ a.block < n1
  far7 : B7 ≠ Bd ∧ ∀ t ∈ R, B7 ∉ blks t
  bel : Below w0.heap.size w0 w
abbrev rhoS (B3 B7 Bd cap Bh ch Bb cb : Nat) : Nat → Pl := fun b => if b = 0 then ⟨B3, 0, none⟩ else if b = 1 then ⟨B7, 0, none⟩ else if b = 2 then ⟨Bd, 0, some cap⟩ else if b = 3 then ⟨Bh, 0, some ch⟩ else ⟨Bb, 0, some cb⟩
abbrev insS (Lc : List PX) (oa : Option Addr) (cc x : Nat) (R : List PX) : Nat → Ent := entQ (oa, Lc.length, cc, (numS Lc R.length).flatMap poolF) entD (R.set x default ++ Lc)
theorem insS_get {Lc : List PX} {x : Nat} {R : List PX} {j : Nat} (hj : j < R.length) (hjx : j ≠ x) : (R.set x default ++ Lc).getD j default = R.getD j default := by
  rw [List.getD_eq_getElem?_getD, List.getElem?_append_left (by simpa using hj), List.getElem?_set_ne (Ne.symm hjx), List.getD_eq_getElem?_getD]
theorem insS_getc {Lc : List PX} {x : Nat} {R : List PX} {j : Nat} : (R.set x default ++ Lc).getD (R.length + j) default = Lc.getD j default := by
  rw [List.getD_eq_getElem?_getD, List.getElem?_append_right (by simp), List.length_set, Nat.add_sub_cancel_left, List.getD_eq_getElem?_getD]
theorem insS_x {Lc : List PX} {x : Nat} {R : List PX} (hx : x < R.length) : (R.set x default ++ Lc).getD x default = default := by
  rw [List.getD_eq_getElem?_getD, List.getElem?_append_left (by simpa using hx), List.getElem?_set_self hx]; rfl
theorem sp_ok {n1 : Nat} {w0 : World} {K : CfgS} {Lc : List PX} {oa : Option Addr} {cc : Nat} {R : List PX} {B3 B7 Bd cap : Nat} {w : World} {x : Nat} (hS : SpSt n1 w0 K Lc oa cc R B3 B7 Bd cap w) : ∀ t ∈ R.set x default ++ Lc, okW w t := fun t ht => by
  rcases List.mem_append.1 ht with h | h
  · rcases List.mem_or_eq_of_mem_set h with h | rfl
    · exact hS.cp.ok t h
    · exact okD
  · exact hS.okc t h
theorem sp_blocks {n1 : Nat} {w0 : World} {K : CfgS} {Lc : List PX} {oa : Option Addr} {cc : Nat} {R : List PX} {B3 B7 Bd cap : Nat} {w : World} {x Bh ch Bb cb : Nat} (hS : SpSt n1 w0 K Lc oa cc R B3 B7 Bd cap w) (hx : x < R.length) (hhp : 0 < (R.getD x default).1.hs.length) (hbp : 0 < (R.getD x default).1.bk.length) (eh : (R.getD x default).2.1 = .slice (some ⟨Bh, 0, none⟩) (R.getD x default).1.hs.length ch) (eb : (R.getD x default).2.2 = .slice (some ⟨Bb, 0, none⟩) (R.getD x default).1.bk.length cb) (rh : RowAt w Bh 9 ch 1 ((R.getD x default).1.hs.flatMap hF)) (rb : RowAt w Bb 54 cb 2 ((R.getD x default).1.bk.flatMap bkV)) : Bh ∈ blks (R.getD x default) ∧ Bb ∈ blks (R.getD x default) ∧ Bh ≠ Bb ∧ n1 ≤ Bh ∧ n1 ≤ Bb ∧ Bh ≠ Bd ∧ Bb ≠ Bd ∧ Bh ≠ B7 ∧ Bb ≠ B7 := by
  have m1 : Bh ∈ blks (R.getD x default) := List.mem_append.2 (.inl (by rw [eh, hblk_own hhp]; exact List.mem_singleton.2 rfl))
  have m2 : Bb ∈ blks (R.getD x default) := List.mem_append.2 (.inr (by rw [eb, hblk_own hbp]; exact List.mem_singleton.2 rfl))
  have hm := getD_mem' hx
  obtain ⟨n1', n2⟩ := List.nodup_cons.1 hS.cp.nd
  have hne : Bh ≠ Bb := by
    have h := nd_self n2 hx
    unfold blks at h
    rw [eh, eb, hblk_own hhp, hblk_own hbp] at h
    intro e
    rw [e] at h
    simp at h
  have g1 := own_ge (hS.cp.own _ hm) (hS.cp.ok _ hm) m1
  have g2 := own_ge (hS.cp.own _ hm) (hS.cp.ok _ hm) m2
  have f := hS.far7.2 _ hm
  exact ⟨m1, m2, hne, g1, g2, fun e => n1' (List.mem_flatMap.2 ⟨_, hm, e ▸ m1⟩), fun e => n1' (List.mem_flatMap.2 ⟨_, hm, e ▸ m2⟩), fun e => f (e ▸ m1), fun e => f (e ▸ m2)⟩
theorem sp_wr {n1 : Nat} {w0 : World} {K : CfgS} {Lc : List PX} {oa : Option Addr} {cc : Nat} {R : List PX} {B3 B7 Bd cap : Nat} {w : World} {x Bh ch Bb cb : Nat} (hS : SpSt n1 w0 K Lc oa cc R B3 B7 Bd cap w) (hx : x < R.length) (hhp : 0 < (R.getD x default).1.hs.length) (hbp : 0 < (R.getD x default).1.bk.length) (eh : (R.getD x default).2.1 = .slice (some ⟨Bh, 0, none⟩) (R.getD x default).1.hs.length ch) (eb : (R.getD x default).2.2 = .slice (some ⟨Bb, 0, none⟩) (R.getD x default).1.bk.length cb) (rh : RowAt w Bh 9 ch 1 ((R.getD x default).1.hs.flatMap hF)) (rb : RowAt w Bb 54 cb 2 ((R.getD x default).1.bk.flatMap bkV)) : @WR ⟨rawOf (insS Lc oa cc x R)⟩ (szP Try.prog) (fun b => b < 5) (rhoS B3 B7 Bd cap Bh ch Bb cb) (hget [(0, ⟨29, cfgC K (.slice (some ⟨0, 0, some 2⟩) R.length 0), 0⟩), (1, ⟨29, cfgC K (.slice (some ⟨2, 0, none⟩) R.length R.length), 0⟩), (2, ⟨46, ((engL R).set x ((R.getD x default).1, .slice (some ⟨3, 0, none⟩) (R.getD x default).1.hs.length (R.getD x default).1.hs.length, .slice (some ⟨4, 0, none⟩) (R.getD x default).1.bk.length (R.getD x default).1.bk.length)).flatMap realP, 1⟩), (3, ⟨9, (R.getD x default).1.hs.map Value.string, 3⟩), (4, ⟨54, (R.getD x default).1.bk.flatMap bkV, 3⟩)]) w := by
  letI : Inhabited RawG := ⟨rawOf (insS Lc oa cc x R)⟩
  obtain ⟨m1, m2, hne, g1, g2, d1, d2, q1, q2⟩ := sp_blocks hS hx hhp hbp eh eb rh rb
  have hge := hS.ge
  have hlen := hS.cp.len
  have hok := sp_ok (x := x) hS
  have hcap : R.length ≤ cap := rowAt_le realP16 (by decide) hS.cp.row
  have hv : VR (fun b => b < 5) (rhoS B3 B7 Bd cap Bh ch Bb cb) (.slice (some ⟨2, 0, none⟩) R.length R.length) (.slice (some ⟨Bd, 0, none⟩) Lc.length cap) := by
    rw [← hlen]
    exact VR.slice (D := fun b => b < 5) (ρ := (rhoS B3 B7 Bd cap Bh ch Bb cb)) 2 0 R.length R.length cap (by decide) hcap (fun h => by cases h) (fun c h _ => by cases h; rfl)
  have hvh : VR (fun b => b < 5) (rhoS B3 B7 Bd cap Bh ch Bb cb) (.slice (some ⟨3, 0, none⟩) (R.getD x default).1.hs.length (R.getD x default).1.hs.length) (R.getD x default).2.1 := by
    rw [eh]
    exact VR.slice (D := fun b => b < 5) (ρ := (rhoS B3 B7 Bd cap Bh ch Bb cb)) 3 0 _ _ ch (by decide) (rowAt_le (f := hF) (sz := 1) (fun _ => rfl) (by decide) rh) (fun h => by cases h) (fun c h _ => by cases h; rfl)
  have hvb : VR (fun b => b < 5) (rhoS B3 B7 Bd cap Bh ch Bb cb) (.slice (some ⟨4, 0, none⟩) (R.getD x default).1.bk.length (R.getD x default).1.bk.length) (R.getD x default).2.2 := by
    rw [eb]
    exact VR.slice (D := fun b => b < 5) (ρ := (rhoS B3 B7 Bd cap Bh ch Bb cb)) 4 0 _ _ cb (by decide) (rowAt_le (f := bkV) (sz := 2) (fun _ => rfl) (by decide) rb) (fun h => by cases h) (fun c h _ => by cases h; rfl)
  have hvc : VR (fun b => b < 5) (rhoS B3 B7 Bd cap Bh ch Bb cb) (.slice (some ⟨0, 0, some 2⟩) R.length 0) (.slice oa Lc.length cc) := by
    rw [hlen]
    exact vr_opq _ entQ0
  refine wr_mk (fun b k hg => ?_) (fun b c k l hb hc hnbc => ?_) (rawL (rawAt_pools (M := Lc) (off := R.length) rfl (fun j _ => insS_getc) hS.opc hok) (rawAt_none _ rfl) hok) (fun i a hc ha b k hg => ?_)
  · rcases hget_cons hg with ⟨rfl, rfl⟩ | hg
    · obtain ⟨fz, h1, h2⟩ := hS.cbox
      exact ⟨by decide, br_box (p := ⟨B3, 0, none⟩) rfl rfl h1 h2 rfl (cfg_rel (fun v h => .scal v h) hvc)⟩
    · rcases hget_cons hg with ⟨rfl, rfl⟩ | hg
      · obtain ⟨fz, h1, h2⟩ := hS.dbox
        exact ⟨by decide, br_box (p := ⟨B7, 0, none⟩) rfl rfl h1 h2 rfl (cfg_rel (fun v h => .scal v h) hv)⟩
      · rcases hget_cons hg with ⟨rfl, rfl⟩ | hg
        · refine ⟨by decide, br_row (p := ⟨Bd, 0, some cap⟩) (sz := 16) rfl rfl hS.cp.row (by kernel_rfl) ?_ (.inl rfl) (rel_rows (fun v h => .scal v h) ?_ fun j hj => ?_)⟩
          · rw [flatMap_len realP16, flatMap_len realP16, List.length_set, engL_len]
          · rw [List.length_set, engL_len]
          · rw [List.length_set, engL_len] at hj
            by_cases hjx : j = x
            · subst hjx
              rw [getD_set_eq' (by rw [engL_len]; exact hj)]
              exact ⟨rfl, hvh, hvb⟩
            · rw [getD_set_ne' hjx, engL_get hj]
              have v1 := vr_h (E0 := (oa, Lc.length, cc, (numS Lc R.length).flatMap poolF)) (E1 := entD) (D := fun b => b < 5) (ρ := (rhoS B3 B7 Bd cap Bh ch Bb cb)) hok j
              have v2 := vr_b (E0 := (oa, Lc.length, cc, (numS Lc R.length).flatMap poolF)) (E1 := entD) (D := fun b => b < 5) (ρ := (rhoS B3 B7 Bd cap Bh ch Bb cb)) hok j
              rw [insS_get hj hjx] at v1 v2
              exact ⟨rfl, v1, v2⟩
        · rcases hget_cons hg with ⟨rfl, rfl⟩ | hg
          · refine ⟨by decide, br_row (p := ⟨Bh, 0, some ch⟩) (sz := 1) (rc := (R.getD x default).1.hs.flatMap hF) rfl rfl rh (by kernel_rfl) (by rw [flatMap_len (f := hF) (sz := 1) (fun _ => rfl), List.length_map, Nat.mul_one]) (.inr ⟨rfl, fun v hv => ?_⟩) (fun i v hv => ⟨v, ?_, .scal v ?_⟩)⟩
            · obtain ⟨t, _, rfl⟩ := List.mem_map.1 hv; rfl
            · rw [flatMap_one]; exact hv
            · obtain ⟨t, _, rfl⟩ := List.mem_map.1 (List.mem_of_getElem? hv); rfl
          · rcases hget_cons hg with ⟨rfl, rfl⟩ | hg
            · have hfl : ∀ v ∈ (R.getD x default).1.bk.flatMap bkV, flat0 v = true := fun v hv => by
                obtain ⟨t, _, ht⟩ := List.mem_flatMap.1 hv
                simp at ht
                rcases ht with rfl | rfl <;> rfl
              exact ⟨by decide, br_row (p := ⟨Bb, 0, some cb⟩) (sz := 2) (rc := (R.getD x default).1.bk.flatMap bkV) rfl rfl rb (by kernel_rfl) rfl (.inr ⟨rfl, fun v hv => clo0_of (hfl v hv)⟩) (fun i v hv => ⟨v, hv, .scal v (hfl v (List.mem_of_getElem? hv))⟩)⟩
            · exact (hget_nil _ _ hg).elim
  · have io : ∀ c l, hget [(0, ⟨29, cfgC K (.slice (some ⟨0, 0, some 2⟩) R.length 0), 0⟩), (1, ⟨29, cfgC K (.slice (some ⟨2, 0, none⟩) R.length R.length), 0⟩), (2, ⟨46, ((engL R).set x ((R.getD x default).1, .slice (some ⟨3, 0, none⟩) (R.getD x default).1.hs.length (R.getD x default).1.hs.length, .slice (some ⟨4, 0, none⟩) (R.getD x default).1.bk.length (R.getD x default).1.bk.length)).flatMap realP, 1⟩), (3, ⟨9, (R.getD x default).1.hs.map Value.string, 3⟩), (4, ⟨54, (R.getD x default).1.bk.flatMap bkV, 3⟩)] c = some l → c < 5 := fun c l hc => by
      rcases hget_cons hc with ⟨rfl, _⟩ | hc
      · decide
      · rcases hget_cons hc with ⟨rfl, _⟩ | hc
        · decide
        · rcases hget_cons hc with ⟨rfl, _⟩ | hc
          · decide
          · rcases hget_cons hc with ⟨rfl, _⟩ | hc
            · decide
            · rcases hget_cons hc with ⟨rfl, _⟩ | hc
              · decide
              · exact (hget_nil _ _ hc).elim
    have hbd := hS.cp.ge
    have h7 := hS.far7.1
    have ib := io b k hb
    have ic := io c l hc
    have e0 : ((rhoS B3 B7 Bd cap Bh ch Bb cb) 0).blk = B3 := rfl
    have e1 : ((rhoS B3 B7 Bd cap Bh ch Bb cb) 1).blk = B7 := rfl
    have e2 : ((rhoS B3 B7 Bd cap Bh ch Bb cb) 2).blk = Bd := rfl
    have e3 : ((rhoS B3 B7 Bd cap Bh ch Bb cb) 3).blk = Bh := rfl
    have e4 : ((rhoS B3 B7 Bd cap Bh ch Bb cb) 4).blk = Bb := rfl
    match b, ib, c, ic with
    | 0, _, 0, _ => exact absurd rfl hnbc
    | 1, _, 1, _ => exact absurd rfl hnbc
    | 2, _, 2, _ => exact absurd rfl hnbc
    | 3, _, 3, _ => exact absurd rfl hnbc
    | 4, _, 4, _ => exact absurd rfl hnbc
    | 0, _, 1, _ | 0, _, 2, _ | 0, _, 3, _ | 0, _, 4, _ | 1, _, 0, _ | 1, _, 2, _ | 1, _, 3, _ | 1, _, 4, _ | 2, _, 0, _ | 2, _, 1, _ | 2, _, 3, _ | 2, _, 4, _ | 3, _, 0, _ | 3, _, 1, _ | 3, _, 2, _ | 3, _, 4, _ | 4, _, 0, _ | 4, _, 1, _ | 4, _, 2, _ | 4, _, 3, _ => simp only [e0, e1, e2, e3, e4]; omega
  · change (insS Lc oa cc x R i).2.2.2 ≠ [] at hc
    change (insS Lc oa cc x R i).1 = some a at ha
    have hfar : a.block ≠ B3 ∧ a.block ≠ B7 ∧ a.block ≠ Bd ∧ a.block ≠ Bh ∧ a.block ≠ Bb := by
      have hbd := hS.cp.ge
      have low : a.block ≠ B3 → a.block < n1 → a.block ≠ B3 ∧ a.block ≠ B7 ∧ a.block ≠ Bd ∧ a.block ≠ Bh ∧ a.block ≠ Bb := fun h1 h2 => ⟨h1, by omega, by omega, by omega, by omega⟩
      by_cases h0 : i = 0
      · subst h0
        obtain ⟨f1, f2⟩ := hS.faro a ha (by omega)
        exact low f1 f2
      · by_cases h1 : i = 1
        · subst h1; exact absurd rfl hc
        · obtain ⟨j, hj, hm⟩ := far_rows hok (by omega) hc ha
          by_cases hjR : j < R.length
          · by_cases hjx : j = x
            · subst hjx
              rw [insS_x hjR] at hm
              cases hm
            · rw [insS_get hjR hjx] at hm
              have hmem := getD_mem' hjR
              have g := own_ge (hS.cp.own _ hmem) (hS.cp.ok _ hmem) hm
              obtain ⟨n1', n2⟩ := List.nodup_cons.1 hS.cp.nd
              refine ⟨by omega, fun e => hS.far7.2 _ hmem (e ▸ hm), fun e => n1' (List.mem_flatMap.2 ⟨_, hmem, e ▸ hm⟩), fun e => nd_apart n2 hx hjR (Ne.symm hjx) m1 (e ▸ hm), fun e => nd_apart n2 hx hjR (Ne.symm hjx) m2 (e ▸ hm)⟩
          · obtain ⟨j', rfl⟩ : ∃ j', j = R.length + j' := ⟨j - R.length, by omega⟩
            rw [insS_getc] at hm
            obtain ⟨f1, f2⟩ := hS.farc _ (getD_mem' (by simp at hj; omega)) _ hm
            exact low f1 f2
    obtain ⟨f1, f2, f3, f4, f5⟩ := hfar
    rcases hget_cons hg with ⟨rfl, _⟩ | hg
    · exact Ne.symm f1
    · rcases hget_cons hg with ⟨rfl, _⟩ | hg
      · exact Ne.symm f2
      · rcases hget_cons hg with ⟨rfl, _⟩ | hg
        · exact Ne.symm f3
        · rcases hget_cons hg with ⟨rfl, _⟩ | hg
          · exact Ne.symm f4
          · rcases hget_cons hg with ⟨rfl, _⟩ | hg
            · exact Ne.symm f5
            · exact (hget_nil _ _ hg).elim
end
section
open Go.RowKit
set_option linter.unusedSimpArgs false
set_option linter.unusedVariables false
set_option linter.unusedSectionVars false
set_option maxRecDepth 100000
/-- The rows of pools that are part of those that came in. -/
theorem rowsP_numS {E1 : Ent} {L M : List PX} {w : World} {oa : Option Addr} {n c off : Nat} (hM : ∀ j, j < M.length → L.getD (off + j) default = M.getD j default) (hL : ∀ t ∈ L, okW w t) : @RowsP ⟨rawOf (entQ (oa, n, c, (numS M off).flatMap poolF) E1 L)⟩ (numS M off) := by
  refine @RowsP.mk ⟨rawOf (entQ (oa, n, c, (numS M off).flatMap poolF) E1 L)⟩ (numS M off) rfl (fun p hp => ?_) (fun p hp => ?_)
  · obtain ⟨j, hj, rfl⟩ := List.mem_map.1 hp
    have h := cells_h (E0 := (oa, n, c, (numS M off).flatMap poolF)) (E1 := E1) hL (off + j)
    rw [hM j (List.mem_range.1 hj)] at h
    exact h
  · obtain ⟨j, hj, rfl⟩ := List.mem_map.1 hp
    have h := cells_b (E0 := (oa, n, c, (numS M off).flatMap poolF)) (E1 := E1) hL (off + j)
    rw [hM j (List.mem_range.1 hj)] at h
    exact h
/-- A cell that says the same under two instances that differ in the first two entries. -/
def clo2 (v : Value) : Prop := flat0 v = true ∨ ∃ j n c, 2 ≤ j ∧ v = .slice (some ⟨j, 0, some 2⟩) n c
theorem entQ_swap {E0 E1 : Ent} {L : List PX} {i : Nat} (h : 2 ≤ i) : entQ E1 E0 L i = entQ E0 E1 L i := by
  unfold entQ
  rw [if_neg (by omega), if_neg (by omega), if_neg (show ¬ i = 0 by omega), if_neg (show ¬ i = 1 by omega)]
theorem vr_swap {E0 E1 : Ent} {L : List PX} {D : Nat → Prop} {ρ : Nat → Pl} {v u : Value} (hv : clo2 v) (h : @VR ⟨rawOf (entQ E0 E1 L)⟩ D ρ v u) : @VR ⟨rawOf (entQ E1 E0 L)⟩ D ρ v u := by
  rcases hv with hf | ⟨j, n, c, hj, rfl⟩
  · rw [@VR.flat0_eq ⟨rawOf (entQ E0 E1 L)⟩ _ _ _ _ h hf]
    exact @VR.scal ⟨rawOf (entQ E1 E0 L)⟩ _ _ _ hf
  · obtain ⟨h1, h2, _⟩ := @VR.opq_inv ⟨rawOf (entQ E0 E1 L)⟩ _ _ _ _ _ _ _ h
    have e := entQ_swap (E0 := E0) (E1 := E1) (L := L) hj
    have h3 := @VR.opq ⟨rawOf (entQ E1 E0 L)⟩ D ρ j n c (by show (entQ E1 E0 L j).2.1 = n; rw [e]; exact h1)
    rw [h2]
    have e1 : (@rg ⟨rawOf (entQ E1 E0 L)⟩).adr j = (@rg ⟨rawOf (entQ E0 E1 L)⟩).adr j := by show (entQ E1 E0 L j).1 = (entQ E0 E1 L j).1; rw [e]
    have e2 : (@rg ⟨rawOf (entQ E1 E0 L)⟩).cap j = (@rg ⟨rawOf (entQ E0 E1 L)⟩).cap j := by show (entQ E1 E0 L j).2.2.1 = (entQ E0 E1 L j).2.2.1; rw [e]
    rw [e1, e2] at h3
    exact h3
theorem clo2_pools {M : List PX} {off : Nat} : ∀ v ∈ (numS M off).flatMap poolF, clo2 v := fun v hv => by
  obtain ⟨p, hp, hv⟩ := List.mem_flatMap.1 hv
  obtain ⟨j, _, rfl⟩ := List.mem_map.1 hp
  simp only [List.mem_cons, List.not_mem_nil, or_false] at hv
  rcases hv with rfl | rfl | rfl | rfl | rfl | rfl | rfl | rfl | rfl | rfl | rfl | rfl | rfl | rfl | rfl | rfl
  · exact .inl rfl
  · exact .inr ⟨_, _, _, by show 2 ≤ 2 + 2 * (off + j); omega, rfl⟩
  · exact .inr ⟨_, _, _, by show 2 ≤ 3 + 2 * (off + j); omega, rfl⟩
  · exact .inl rfl
  · exact .inl rfl
  · exact .inl rfl
  · exact .inl rfl
  · exact .inl rfl
  · exact .inl rfl
  · exact .inl rfl
  · exact .inl rfl
  · exact .inl rfl
  · exact .inl rfl
  · exact .inl rfl
  · exact .inl rfl
  · exact .inl rfl
theorem clo2_rows {E0 E1 : Ent} {L : List PX} {w : World} (hL : ∀ t ∈ L, okW w t) {i : Nat} (h : 2 ≤ i) : ∀ v ∈ (entQ E0 E1 L i).2.2.2, clo2 v := fun v hv => by
  obtain ⟨j, rfl | rfl⟩ : ∃ j, i = 2 + 2 * j ∨ i = 3 + 2 * j := ⟨(i - 2) / 2, by omega⟩
  · have e := cells_h (E0 := E0) (E1 := E1) hL j
    change (entQ E0 E1 L (2 + 2 * j)).2.2.2 = _ at e
    rw [e] at hv
    obtain ⟨t, _, rfl⟩ := List.mem_map.1 hv
    exact .inl rfl
  · have e := cells_b (E0 := E0) (E1 := E1) hL j
    change (entQ E0 E1 L (3 + 2 * j)).2.2.2 = _ at e
    rw [e] at hv
    obtain ⟨t, _, ht⟩ := List.mem_flatMap.1 hv
    simp at ht
    rcases ht with rfl | rfl <;> exact .inl rfl
theorem raw_swap {E0 E1 : Ent} {L : List PX} {w : World} (h0 : ∀ v ∈ E0.2.2.2, clo2 v) (h1 : ∀ v ∈ E1.2.2.2, clo2 v) (hr : ∀ i, 2 ≤ i → ∀ v ∈ (entQ E0 E1 L i).2.2.2, clo2 v) (h : ∀ i, @RawAt ⟨rawOf (entQ E0 E1 L)⟩ w i) (i : Nat) : @RawAt ⟨rawOf (entQ E1 E0 L)⟩ w i := by
  have key : ∀ i k : Nat, entQ E1 E0 L i = entQ E0 E1 L k → (∀ v ∈ (entQ E0 E1 L k).2.2.2, clo2 v) → @RawAt ⟨rawOf (entQ E1 E0 L)⟩ w i := fun i k e hcl => by
    obtain ⟨a1, a2, a3⟩ := h k
    refine ⟨?_, ?_, ?_⟩
    · show (entQ E1 E0 L i).2.1 ≤ (entQ E1 E0 L i).2.2.1
      rw [e]; exact a1
    · show 0 < (entQ E1 E0 L i).2.1 → (entQ E1 E0 L i).2.2.2 ≠ []
      rw [e]; exact a2
    · show (entQ E1 E0 L i).2.2.2 ≠ [] → ∃ a, (entQ E1 E0 L i).1 = some a ∧ a.spot = none ∧ ∃ cs el fz, w.heap[a.block]? = some (.cells cs el fz) ∧ ∀ (j : Nat) (v : Value), (entQ E1 E0 L i).2.2.2[j]? = some v → ∃ u, cs[a.off + j]? = some u ∧ @VR ⟨rawOf (entQ E1 E0 L)⟩ (fun _ => False) (fun _ => default) v u
      rw [e]
      intro hne
      obtain ⟨a, b1, b2, cs, el, fz, b3, b4⟩ := a3 hne
      refine ⟨a, b1, b2, cs, el, fz, b3, fun j v hv => ?_⟩
      obtain ⟨u, hu, hvr⟩ := b4 j v hv
      exact ⟨u, hu, vr_swap (hcl v (List.mem_of_getElem? hv)) hvr⟩
  by_cases i0 : i = 0
  · subst i0; exact key 0 1 rfl h1
  · by_cases i1 : i = 1
    · subst i1; exact key 1 0 rfl h0
    · exact key i i (entQ_swap (by omega)) (hr i (by omega))
/-- A contract on the first row of pools is one on the second. -/
theorem callOK_swap {E0 E1 : Ent} {L : List PX} {g n : Nat} {K : CfgS} {v : Value} (hfl : flat v = true) (h0 : ∀ v ∈ E0.2.2.2, clo2 v) (h1 : ∀ v ∈ E1.2.2.2, clo2 v) (hr : ∀ i, 2 ≤ i → ∀ v ∈ (entQ E0 E1 L i).2.2.2, clo2 v)
    (h : @CallOK ⟨rawOf (entQ E1 E0 L)⟩ Try.prog g [.agg (cfgC K (.slice (some ⟨0, 0, some 2⟩) n 0)).toArray] [] 0 v []) : @CallOK ⟨rawOf (entQ E0 E1 L)⟩ Try.prog g [.agg (cfgC K (.slice (some ⟨1, 0, some 2⟩) n 0)).toArray] [] 0 v [] := by
  intro D ρ w args hlt hsz hav hw
  have hr' : ∀ i, @RawAt ⟨rawOf (entQ E1 E0 L)⟩ w i := raw_swap h0 h1 hr (@RawOK.at' ⟨rawOf (entQ E0 E1 L)⟩ _ _ _ (@WR.raw ⟨rawOf (entQ E0 E1 L)⟩ _ _ _ _ _ hw))
  have hw' : @WR ⟨rawOf (entQ E1 E0 L)⟩ (szP Try.prog) D ρ (hget []) w := @wr_mk ⟨rawOf (entQ E1 E0 L)⟩ D ρ w [] (fun b k hg => (hget_nil _ _ hg).elim) (fun b c k l hb => (hget_nil _ _ hb).elim) hr' (fun i a hc ha b k hg => (hget_nil _ _ hg).elim)
  have hav' : ∀ i, @VR ⟨rawOf (entQ E1 E0 L)⟩ D ρ ([Value.agg (cfgC K (.slice (some ⟨0, 0, some 2⟩) n 0)).toArray].getD i undef) (args.getD i undef) := fun i => by
    match i with
    | 0 =>
      have h2 := hav 0
      change @VR ⟨rawOf (entQ E0 E1 L)⟩ D ρ (.agg (cfgC K (.slice (some ⟨1, 0, some 2⟩) n 0)).toArray) (args.getD 0 undef) at h2
      have h3 := @img_agg ⟨rawOf (entQ E0 E1 L)⟩ _ _ _ _ h2 rfl
      rw [h3]
      have hl : n = (entQ E0 E1 L 1).2.1 := by
        obtain ⟨ys, e, hs, hv⟩ := @VR.agg_inv ⟨rawOf (entQ E0 E1 L)⟩ _ _ _ _ h2
        exact (@VR.opq_inv ⟨rawOf (entQ E0 E1 L)⟩ _ _ _ _ _ _ _ (hv 1)).1.symm
      refine @vr_aggL ⟨rawOf (entQ E1 E0 L)⟩ D ρ _ _ rfl (cfg_rel (R := @VR ⟨rawOf (entQ E1 E0 L)⟩ D ρ) (fun v h => @VR.scal ⟨rawOf (entQ E1 E0 L)⟩ _ _ v h) ?_)
      exact @VR.opq ⟨rawOf (entQ E1 E0 L)⟩ D ρ 0 n 0 hl.symm
    | i + 1 =>
      have h2 := hav (i + 1)
      change @VR ⟨rawOf (entQ E0 E1 L)⟩ D ρ undef (args.getD (i + 1) undef) at h2
      rw [@VR.flat0_eq ⟨rawOf (entQ E0 E1 L)⟩ _ _ _ _ h2 rfl]
      exact @VR.und ⟨rawOf (entQ E1 E0 L)⟩ _ _
  refine (h D ρ w args hlt hsz hav' hw').mono ?_
  rintro e w1 ⟨u, rfl, D1, ρ1, t1, hV, hD⟩
  have eu := @VR.flat_eq ⟨rawOf (entQ E1 E0 L)⟩ _ _ _ _ hV hfl
  have bel : Below w.heap.size w w1 := ⟨@T.os ⟨rawOf (entQ E1 E0 L)⟩ _ _ _ _ _ _ _ _ _ t1, @T.tape ⟨rawOf (entQ E1 E0 L)⟩ _ _ _ _ _ _ _ _ _ t1, @T.output ⟨rawOf (entQ E1 E0 L)⟩ _ _ _ _ _ _ _ _ _ t1, @T.size ⟨rawOf (entQ E1 E0 L)⟩ _ _ _ _ _ _ _ _ _ t1, fun k hk => @T.keep ⟨rawOf (entQ E1 E0 L)⟩ _ _ _ _ _ _ _ _ _ t1 k hk (fun ⟨b, l, hb, _⟩ => (hget_nil _ _ hb).elim)⟩
  letI : Inhabited RawG := ⟨rawOf (entQ E0 E1 L)⟩
  refine ⟨u, rfl, D, ρ, ⟨fun _ h => h, fun _ _ => rfl, ⟨hw.dom, fun b k hk => (hget_nil _ _ hk).elim, hw.sep, hw.raw.keep (fun k hk _ => bel.block k hk) (fun k hk => .inl hk)⟩, bel.os, bel.tape, bel.output, bel.size, fun k hk _ => bel.block k hk, fun k hk => .inl hk, fun _ _ h _ => h⟩, ?_, fun b hb => .inl hb⟩
  rw [eu]
  exact .of_flat hfl
theorem strip_numS {M : List PX} {off : Nat} : (numS M off).map stripP = (numS M 0).map stripP := by
  unfold numS
  rw [List.map_map, List.map_map]
  rfl
theorem poolsV_numS {M : List PX} {off : Nat} : poolsV (numS M off) = poolsV (numS M 0) := by
  rw [← poolsV_strip, strip_numS, poolsV_strip]
/-- The last region: the spoilt configuration is not valid, the first one still is. -/
theorem sp_end {K K1 : CfgS} {Lc R : List PX} {oa : Option Addr} {cc B3 B7 Bd cap : Nat} {a : Act} {w w0 : World} (hsz : a.tmps.size = 171) (hdf : a.defers = []) (t3 : a.tmps.getD 3 undef = .pointer (some ⟨B3, 0, none⟩)) (t7 : a.tmps.getD 7 undef = .pointer (some ⟨B7, 0, none⟩))
    (cbox : ∃ fz, w.heap[B3]? = some (.cells (cfgC K (.slice oa Lc.length cc)).toArray 29 fz) ∧ fzOK fz 18) (dbox : ∃ fz, w.heap[B7]? = some (.cells (cfgC K1 (.slice (some ⟨Bd, 0, none⟩) R.length cap)).toArray 29 fz) ∧ fzOK fz 18)
    (okc : ∀ t ∈ Lc, okW w t) (opc : Opn w realP Lc oa cc) (okr : ∀ t ∈ R, okW w t) (row : RowAt w Bd 46 cap 16 (R.flatMap realP)) (h37 : B3 ≠ B7 ∧ B3 ≠ Bd ∧ B7 ≠ Bd)
    (fc : ∀ t ∈ Lc, ∀ b ∈ blks t, b ≠ B3 ∧ b ≠ B7) (fr : ∀ t ∈ R, ∀ b ∈ blks t, b ≠ B3 ∧ b ≠ B7) (fo : ∀ a, oa = some a → 0 < Lc.length → a.block ≠ B3 ∧ a.block ≠ B7) (bel : Below w0.heap.size w0 w) (g3 : w0.heap.size ≤ B3) (g7 : w0.heap.size ≤ B7)
    (hSc : SmallP (numS Lc R.length)) (hSd : SmallP (numS R 0)) (hzc : K.cn.size ≤ 9000000000000) (hzd : K1.cn.size ≤ 9000000000000) (hc0 : cfgV K (poolsV (numS Lc 0)) = 0) (hd0 : cfgV K1 (poolsV (numS R 0)) ≠ 0) :
    (Code.seq (regN Try.prog 5 40) Code.ret).wp Try.prog (bodyPost Try.prog Try.f5 (fun e w1 => e = .returned (.bool true) ∧ Below w0.heap.size w0 w1)) a w := by
  obtain ⟨E0, hE0⟩ : ∃ E0 : Ent, E0 = (some ⟨Bd, 0, none⟩, R.length, cap, (numS R 0).flatMap poolF) := ⟨_, rfl⟩
  obtain ⟨E1, hE1⟩ : ∃ E1 : Ent, E1 = (oa, Lc.length, cc, (numS Lc R.length).flatMap poolF) := ⟨_, rfl⟩
  have hL : ∀ t ∈ R ++ Lc, okW w t := fun t ht => by
    rcases List.mem_append.1 ht with h | h
    · exact okr t h
    · exact okc t h
  have gR : ∀ j, j < R.length → (R ++ Lc).getD (0 + j) default = R.getD j default := fun j hj => by
    rw [Nat.zero_add, List.getD_eq_getElem?_getD, List.getElem?_append_left hj, List.getD_eq_getElem?_getD]
  have gC : ∀ j, j < Lc.length → (R ++ Lc).getD (R.length + j) default = Lc.getD j default := fun j hj => by
    rw [List.getD_eq_getElem?_getD, List.getElem?_append_right (by omega), Nat.add_sub_cancel_left, List.getD_eq_getElem?_getD]
  have hd : @CallOK ⟨rawOf (entQ E0 E1 (R ++ Lc))⟩ Try.prog 9 [.agg (cfgC K1 (.slice (some ⟨0, 0, some 2⟩) R.length 0)).toArray] [] 0 (.int .i64 (cfgV K1 (poolsV (numS R 0)))) [] := by
    have h := @cfg_fn ⟨rawOf (entQ E0 E1 (R ++ Lc))⟩ K1 (numS R 0) (by rw [hE0]; exact rowsP_numS gR hL) hSd hzd
    rw [numS_len] at h
    exact h
  have hc : @CallOK ⟨rawOf (entQ E0 E1 (R ++ Lc))⟩ Try.prog 9 [.agg (cfgC K (.slice (some ⟨1, 0, some 2⟩) Lc.length 0)).toArray] [] 0 (.int .i64 0) [] := by
    refine callOK_swap rfl (by rw [hE0]; exact clo2_pools) (by rw [hE1]; exact clo2_pools) (fun i hi => clo2_rows hL hi) ?_
    have h := @cfg_fn ⟨rawOf (entQ E1 E0 (R ++ Lc))⟩ K (numS Lc R.length) (by rw [hE1]; exact rowsP_numS gC hL) hSc hzc
    rw [numS_len, poolsV_numS, hc0] at h
    exact h
  have hoR : Opn w realP R (some ⟨Bd, 0, none⟩) cap := by
    obtain ⟨oa', c', e, h⟩ := rowV_of (f := realP) realP16 (by decide) row
    cases e
    exact h
  letI : Inhabited RawG := ⟨rawOf (entQ E0 E1 (R ++ Lc))⟩
  have hraw : ∀ i, RawAt w i := rawL (rawAt_pools (M := R) (off := 0) (by rw [hE0]; rfl) gR hoR hL) (rawAt_pools (M := Lc) (off := R.length) (by rw [hE1]; rfl) gC opc hL) hL
  have hv0 : VR (fun b => b < 2) (rhoC B3 B7 0 0) (.slice (some ⟨0, 0, some 2⟩) R.length 0) (.slice (some ⟨Bd, 0, none⟩) R.length cap) := vr_opq _ (by rw [entQ0]; exact hE0)
  have hv1 : VR (fun b => b < 2) (rhoC B3 B7 0 0) (.slice (some ⟨1, 0, some 2⟩) Lc.length 0) (.slice oa Lc.length cc) := vr_opq _ (by rw [entQ1]; exact hE1)
  have hfr : FR [] (fun b => b < 2) (rhoC B3 B7 0 0) (mkF [(3, .pointer (some ⟨0, 0, none⟩)), (7, .pointer (some ⟨1, 0, none⟩))] 171 0) a := by
    refine fr_mk hsz hdf fun t v h => ?_
    simp only [List.mem_cons, Prod.mk.injEq, List.not_mem_nil, or_false] at h
    rcases h with ⟨rfl, rfl⟩ | ⟨rfl, rfl⟩
    · rw [t3]; exact VR.ptr (ρ := rhoC B3 B7 0 0) 0 0 (by decide)
    · rw [t7]; exact VR.ptr (ρ := rhoC B3 B7 0 0) 1 0 (by decide)
  obtain ⟨H, hH⟩ : ∃ H : Heap, H = [(0, ⟨29, cfgC K (.slice (some ⟨1, 0, some 2⟩) Lc.length 0), 0⟩), (1, ⟨29, cfgC K1 (.slice (some ⟨0, 0, some 2⟩) R.length 0), 0⟩)] := ⟨_, rfl⟩
  have inH : ∀ c l, hget H c = some l → c = 0 ∨ c = 1 := fun c l hc => by
    rw [hH] at hc
    rcases hget_cons hc with ⟨rfl, _⟩ | hc
    · exact .inl rfl
    · rcases hget_cons hc with ⟨rfl, _⟩ | hc
      · exact .inr rfl
      · exact (hget_nil _ _ hc).elim
  have hw : WR (szP Try.prog) (fun b => b < 2) (rhoC B3 B7 0 0) (hget H) w := by
    refine wr_mk (fun b k hg => ?_) (fun b c k l hb hc hne => ?_) hraw (fun i a hc ha b k hg => ?_)
    · rw [hH] at hg
      rcases hget_cons hg with ⟨rfl, rfl⟩ | hg
      · obtain ⟨fz, h1, h2⟩ := cbox
        exact ⟨by decide, br_box (p := ⟨B3, 0, none⟩) rfl rfl h1 h2 rfl (cfg_rel (fun v h => .scal v h) hv1)⟩
      · rcases hget_cons hg with ⟨rfl, rfl⟩ | hg
        · obtain ⟨fz, h1, h2⟩ := dbox
          exact ⟨by decide, br_box (p := ⟨B7, 0, none⟩) rfl rfl h1 h2 rfl (cfg_rel (fun v h => .scal v h) hv0)⟩
        · exact (hget_nil _ _ hg).elim
    · rcases inH b k hb with rfl | rfl <;> rcases inH c l hc with rfl | rfl
      · exact absurd rfl hne
      · exact h37.1
      · exact Ne.symm h37.1
      · exact absurd rfl hne
    · change (entQ E0 E1 (R ++ Lc) i).2.2.2 ≠ [] at hc
      change (entQ E0 E1 (R ++ Lc) i).1 = some a at ha
      have hfar : a.block ≠ B3 ∧ a.block ≠ B7 := by
        by_cases h0 : i = 0
        · subst h0
          rw [entQ0, hE0] at ha
          cases ha
          exact ⟨Ne.symm h37.2.1, Ne.symm h37.2.2⟩
        · by_cases h1 : i = 1
          · subst h1
            rw [entQ1, hE1] at ha hc
            refine fo a ha ?_
            rcases Nat.eq_zero_or_pos Lc.length with h | h
            · obtain rfl := List.eq_nil_of_length_eq_zero h
              exact absurd rfl hc
            · exact h
          · obtain ⟨j, hj, hm⟩ := far_rows hL (by omega) hc ha
            rcases List.mem_append.1 (getD_mem' hj) with h | h
            · exact fr _ h _ hm
            · exact fc _ h _ hm
      rcases inH b k hg with rfl | rfl
      · exact Ne.symm hfar.1
      · exact Ne.symm hfar.2
  have hC := sp40 (n := Lc.length) (n1 := R.length) (cn := K.cn) (re := K.re) (co := K.co) (rs := K.rs) (dl := K.dl) (rq := K.rq) (cs := K.cs) (br := K.br) (bs := K.bs) (bm := K.bm) (by_ := K.by_) (en := K.en) (li := K.li) (he := K.he) (ct := K.ct) (bo := K.bo) (q := K.q) (cn1 := K1.cn) (re1 := K1.re) (co1 := K1.co) (rs1 := K1.rs) (dl1 := K1.dl) (rq1 := K1.rq) (cs1 := K1.cs) (br1 := K1.br) (bs1 := K1.bs) (bm1 := K1.bm) (by_1 := K1.by_) (en1 := K1.en) (li1 := K1.li) (he1 := K1.he) (ct1 := K1.ct) (bo1 := K1.bo) (q1 := K1.q) hd hc (bne_iff_ne.2 hd0)
  rw [hH] at hw inH
  refine wp_seq (wp_mono (hC _ _ _ _ (fun b h => h) hfr hw) ?_)
  rintro e a5 w5 ⟨rfl, l5, D5, ρ5, t5, fr5, b5, c5⟩
  refine wp_ret ⟨fr5.defers, ?_⟩
  obtain ⟨u, hu, hrun⟩ := ret_one (fn := Try.f5) (v := .bool true) fr5 t5.wr (by kernel_rfl)
  have eu := hu.bool_inv
  refine ⟨u, hrun, by rw [eu], bel.trans ⟨t5.os, t5.tape, t5.output, t5.size, fun k hk => ?_⟩⟩
  refine t_keep t5 (by have := bel.size; omega) fun c l hc => ?_
  rcases inH c l hc with rfl | rfl
  · show B3 ≠ k; omega
  · show B7 ≠ k; omega
end
section
open Go.RowKit
set_option linter.unusedSimpArgs false
set_option linter.unusedVariables false
set_option linter.unusedSectionVars false
set_option maxRecDepth 100000
theorem numS_congr {A B : List PX} {off : Nat} (hl : A.length = B.length) (h : ∀ j, j < A.length → (A.getD j default).1 = (B.getD j default).1) : numS A off = numS B off := by
  unfold numS
  rw [← hl]
  refine List.map_congr_left fun j hj => ?_
  unfold numX
  rw [h j (List.mem_range.1 hj)]
theorem small_strip {M : List PX} {off : Nat} (h : SmallP (numS M 0)) : SmallP (numS M off) := by
  have key : ∀ p ∈ numS M off, ∃ p' ∈ numS M 0, p.nm = p'.nm ∧ p.hs = p'.hs ∧ p.bk = p'.bk := fun p hp => by
    obtain ⟨j, hj, rfl⟩ := List.mem_map.1 hp
    exact ⟨numX (M.getD j default) (0 + j), List.mem_map.2 ⟨j, hj, rfl⟩, rfl, rfl, rfl⟩
  refine ⟨fun p hp => ?_, fun p hp => ?_, fun p hp => ?_, fun p hp => ?_⟩
  · obtain ⟨p', hp', e1, e2, e3⟩ := key p hp; rw [e1]; exact h.n p' hp'
  · obtain ⟨p', hp', e1, e2, e3⟩ := key p hp; rw [e2]; exact h.h p' hp'
  · obtain ⟨p', hp', e1, e2, e3⟩ := key p hp; rw [e3]; exact h.b p' hp'
  · obtain ⟨p', hp', e1, e2, e3⟩ := key p hp; rw [e2]; exact h.l p' hp'
theorem sp_mid {n1 : Nat} {w0 : World} {K : CfgS} {Lc : List PX} {oa : Option Addr} {cc : Nat} {R : List PX} {B3 B7 Bd cap : Nat} {w : World} {x Bh ch Bb cb : Nat} {a : Act} {wh wt : Int} (hS : SpSt n1 w0 K Lc oa cc R B3 B7 Bd cap w) (hx : x < R.length) (hhp : 0 < (R.getD x default).1.hs.length) (hbp : 0 < (R.getD x default).1.bk.length) (eh : (R.getD x default).2.1 = .slice (some ⟨Bh, 0, none⟩) (R.getD x default).1.hs.length ch) (eb : (R.getD x default).2.2 = .slice (some ⟨Bb, 0, none⟩) (R.getD x default).1.bk.length cb) (rh : RowAt w Bh 9 ch 1 ((R.getD x default).1.hs.flatMap hF)) (rb : RowAt w Bb 54 cb 2 ((R.getD x default).1.bk.flatMap bkV)) (hsz : a.tmps.size = 171) (hdf : a.defers = []) (t1 : a.tmps.getD 1 undef = .int .i64 wh) (t2 : a.tmps.getD 2 undef = .int .i64 wt) (t3 : a.tmps.getD 3 undef = .pointer (some ⟨B3, 0, none⟩)) (t6 : a.tmps.getD 6 undef = .bool false) (t7 : a.tmps.getD 7 undef = .pointer (some ⟨B7, 0, none⟩))
    (h10 : @CallOK ⟨rawOf (insS Lc oa cc x R)⟩ Try.prog 10 [.int .i64 wh, .int .i64 (R.length : Int)] [] 0 (.int .i64 (x : Int)) [])
    {K1 : CfgS} {E : List PX} {rid hid bid nx n2 : Nat} {hs1 : List ByteArray} {bk1 : List (ByteArray × Nat)} {HE : Heap}
    (hk : @CodeOK ⟨rawOf (insS Lc oa cc x R)⟩ Try.prog (Code.seq (regN Try.prog 5 12) (Code.block 0 (((regN Try.prog 5 13)).seq (Code.cond (.tmp 62) ((regN Try.prog 5 14)) (((regN Try.prog 5 15)).seq (Code.cond (.tmp 67) ((regN Try.prog 5 16)) (((regN Try.prog 5 17)).seq (Code.cond (.tmp 84) ((regN Try.prog 5 18)) (((regN Try.prog 5 19)).seq (Code.cond (.tmp 91) ((regN Try.prog 5 20)) (((regN Try.prog 5 21)).seq (Code.cond (.tmp 108) ((regN Try.prog 5 22)) (((regN Try.prog 5 23)).seq (Code.cond (.tmp 117) ((regN Try.prog 5 24)) (((regN Try.prog 5 25)).seq (Code.cond (.tmp 122) ((regN Try.prog 5 26)) (((regN Try.prog 5 27)).seq (Code.cond (.tmp 136) ((regN Try.prog 5 28)) (((regN Try.prog 5 29)).seq (Code.cond (.tmp 146) ((regN Try.prog 5 30)) (((regN Try.prog 5 31)).seq (Code.cond (.tmp 149) ((regN Try.prog 5 32)) (((regN Try.prog 5 33)).seq (Code.cond (.tmp 153) ((regN Try.prog 5 34)) (((regN Try.prog 5 35)).seq (Code.cond (.tmp 156) ((regN Try.prog 5 36)) (((regN Try.prog 5 37)).seq (Code.cond (.tmp 159) ((regN Try.prog 5 38)) ((regN Try.prog 5 39)))))))))))))))))))))))))))))) (mkF [(1, .int .i64 wh), (2, .int .i64 wt), (3, .pointer (some ⟨0, 0, none⟩)), (6, .bool false), (7, .pointer (some ⟨1, 0, none⟩)), (8, .int .i64 (x : Int)), (9, .pointer (some ⟨2, 0 + x * 16, none⟩))] 171 0) [(0, ⟨29, cfgC K (.slice (some ⟨0, 0, some 2⟩) R.length 0), 0⟩), (1, ⟨29, cfgC K (.slice (some ⟨2, 0, none⟩) R.length R.length), 0⟩), (2, ⟨46, ((engL R).set x ((R.getD x default).1, .slice (some ⟨3, 0, none⟩) (R.getD x default).1.hs.length (R.getD x default).1.hs.length, .slice (some ⟨4, 0, none⟩) (R.getD x default).1.bk.length (R.getD x default).1.bk.length)).flatMap realP, 1⟩), (3, ⟨9, (R.getD x default).1.hs.map Value.string, 3⟩), (4, ⟨54, (R.getD x default).1.bk.flatMap bkV, 3⟩)] 2437 ⟨.normal, mkF [(3, .pointer (some ⟨0, 0, none⟩)), (7, .pointer (some ⟨1, 0, none⟩))] 171 0, HE, nx, []⟩)
    (g0 : hget HE 0 = some ⟨29, cfgC K (.slice (some ⟨0, 0, some 2⟩) R.length 0), 0⟩) (hn2 : E.length = n2) (g1 : hget HE 1 = some ⟨29, cfgC K1 (.slice (some ⟨rid, 0, none⟩) n2 n2), 0⟩) (gr : hget HE rid = some ⟨46, E.flatMap realP, 1⟩) (gh : hget HE hid = some ⟨9, hs1.map Value.string, 3⟩) (gb : hget HE bid = some ⟨54, bk1.flatMap bkV, 3⟩)
    (nr : rid ≠ 0 ∧ rid ≠ 1 ∧ hid ≠ 0 ∧ hid ≠ 1 ∧ bid ≠ 0 ∧ bid ≠ 1)
    (hsh : ∀ j, j < E.length → (∃ i, i < R.length ∧ i ≠ x ∧ E.getD j default = engX (R.getD i default) i) ∨ (∃ q : PoolT, E.getD j default = (q, .slice (some ⟨hid, 0, none⟩) hs1.length hs1.length, .slice (some ⟨bid, 0, none⟩) bk1.length bk1.length) ∧ q.hs = hs1 ∧ q.bk = bk1))
    (hSc : SmallP (numS Lc 0)) (hSd : SmallP (numS E 0)) (hzc : K.cn.size ≤ 9000000000000) (hzd : K1.cn.size ≤ 9000000000000) (hc0 : cfgV K (poolsV (numS Lc 0)) = 0) (hd0 : cfgV K1 (poolsV (numS E 0)) ≠ 0) :
    (Code.seq (Code.seq (regN Try.prog 5 6) (Code.cond (.tmp 34) (Code.seq (regN Try.prog 5 7) Code.ret) Code.skip)) (Code.seq (regN Try.prog 5 8) (Code.seq (regN Try.prog 5 9) (Code.seq (Code.seq (regN Try.prog 5 10) (Code.cond (.tmp 57) (Code.seq (regN Try.prog 5 11) Code.ret) Code.skip)) (Code.seq (Code.seq (regN Try.prog 5 12) (Code.block 0 (((regN Try.prog 5 13)).seq (Code.cond (.tmp 62) ((regN Try.prog 5 14)) (((regN Try.prog 5 15)).seq (Code.cond (.tmp 67) ((regN Try.prog 5 16)) (((regN Try.prog 5 17)).seq (Code.cond (.tmp 84) ((regN Try.prog 5 18)) (((regN Try.prog 5 19)).seq (Code.cond (.tmp 91) ((regN Try.prog 5 20)) (((regN Try.prog 5 21)).seq (Code.cond (.tmp 108) ((regN Try.prog 5 22)) (((regN Try.prog 5 23)).seq (Code.cond (.tmp 117) ((regN Try.prog 5 24)) (((regN Try.prog 5 25)).seq (Code.cond (.tmp 122) ((regN Try.prog 5 26)) (((regN Try.prog 5 27)).seq (Code.cond (.tmp 136) ((regN Try.prog 5 28)) (((regN Try.prog 5 29)).seq (Code.cond (.tmp 146) ((regN Try.prog 5 30)) (((regN Try.prog 5 31)).seq (Code.cond (.tmp 149) ((regN Try.prog 5 32)) (((regN Try.prog 5 33)).seq (Code.cond (.tmp 153) ((regN Try.prog 5 34)) (((regN Try.prog 5 35)).seq (Code.cond (.tmp 156) ((regN Try.prog 5 36)) (((regN Try.prog 5 37)).seq (Code.cond (.tmp 159) ((regN Try.prog 5 38)) ((regN Try.prog 5 39)))))))))))))))))))))))))))))) (Code.seq (regN Try.prog 5 40) Code.ret)))))).wp Try.prog (bodyPost Try.prog Try.f5 (fun e w1 => e = .returned (.bool true) ∧ Below w0.heap.size w0 w1)) a w := by
  subst hn2
  letI : Inhabited RawG := ⟨rawOf (insS Lc oa cc x R)⟩
  obtain ⟨m1, m2, hne, q1, q2, d1, d2, q3, q4⟩ := sp_blocks hS hx hhp hbp eh eb rh rb
  have hw := sp_wr hS hx hhp hbp eh eb rh rb
  have hge := hS.ge
  have hlen := hS.cp.len
  have hok := sp_ok (x := x) hS
  have hf : FR [] (fun b => b < 5) (rhoS B3 B7 Bd cap Bh ch Bb cb) (mkF [(1, .int .i64 wh), (2, .int .i64 wt), (3, .pointer (some ⟨0, 0, none⟩)), (6, .bool false), (7, .pointer (some ⟨1, 0, none⟩))] 171 0) a := by
    refine fr_mk hsz hdf fun t v h => ?_
    simp only [List.mem_cons, Prod.mk.injEq, List.not_mem_nil, or_false] at h
    rcases h with ⟨rfl, rfl⟩ | ⟨rfl, rfl⟩ | ⟨rfl, rfl⟩ | ⟨rfl, rfl⟩ | ⟨rfl, rfl⟩
    · rw [t1]; exact .scal _ rfl
    · rw [t2]; exact .scal _ rfl
    · rw [t3]; exact VR.ptr (ρ := (rhoS B3 B7 Bd cap Bh ch Bb cb)) 0 0 (by decide)
    · rw [t6]; exact .scal _ rfl
    · rw [t7]; exact VR.ptr (ρ := (rhoS B3 B7 Bd cap Bh ch Bb cb)) 1 0 (by decide)
  refine wp_seq (wp_mono (sp6 (E := ((engL R).set x ((R.getD x default).1, .slice (some ⟨3, 0, none⟩) (R.getD x default).1.hs.length (R.getD x default).1.hs.length, .slice (some ⟨4, 0, none⟩) (R.getD x default).1.bk.length (R.getD x default).1.bk.length))) (p := (R.getD x default).1) (n := R.length) (x := x) (k := 0) (cn := K.cn) (re := K.re) (co := K.co) (rs := K.rs) (dl := K.dl) (rq := K.rq) (cs := K.cs) (br := K.br) (bs := K.bs) (bm := K.bm) (by_ := K.by_) (en := K.en) (li := K.li) (he := K.he) (ct := K.ct) (bo := K.bo) (q := K.q) (wh := wh) (wt := wt) (by omega) _ _ _ _ (fun b h => h) hf hw) ?_)
  rintro e a1 w1 ⟨rfl, l1, D1, ρ1, T1, f1, b1, c1⟩
  refine wp_seq (wp_mono (sp8 (E := ((engL R).set x ((R.getD x default).1, .slice (some ⟨3, 0, none⟩) (R.getD x default).1.hs.length (R.getD x default).1.hs.length, .slice (some ⟨4, 0, none⟩) (R.getD x default).1.bk.length (R.getD x default).1.bk.length))) (p := (R.getD x default).1) (n := R.length) (x := x) (k := 0) (cn := K.cn) (re := K.re) (co := K.co) (rs := K.rs) (dl := K.dl) (rq := K.rq) (cs := K.cs) (br := K.br) (bs := K.bs) (bm := K.bm) (by_ := K.by_) (en := K.en) (li := K.li) (he := K.he) (ct := K.ct) (bo := K.bo) (q := K.q) (wh := wh) (wt := wt) h10 _ _ _ _ b1 f1 T1.wr) ?_)
  rintro e a2 w2 ⟨rfl, l2, D2, ρ2, T2, f2, b2, c2⟩
  refine wp_seq (wp_mono (sp9 (E := ((engL R).set x ((R.getD x default).1, .slice (some ⟨3, 0, none⟩) (R.getD x default).1.hs.length (R.getD x default).1.hs.length, .slice (some ⟨4, 0, none⟩) (R.getD x default).1.bk.length (R.getD x default).1.bk.length))) (p := (R.getD x default).1) (n := R.length) (x := x) (k := 0) (cn := K.cn) (re := K.re) (co := K.co) (rs := K.rs) (dl := K.dl) (rq := K.rq) (cs := K.cs) (br := K.br) (bs := K.bs) (bm := K.bm) (by_ := K.by_) (en := K.en) (li := K.li) (he := K.he) (ct := K.ct) (bo := K.bo) (q := K.q) (wh := wh) (wt := wt) hx _ _ _ _ b2 f2 T2.wr) ?_)
  rintro e a3 w3 ⟨rfl, l3, D3, ρ3, T3, f3, b3, c3⟩
  refine wp_seq (wp_mono (sp10 (E := ((engL R).set x ((R.getD x default).1, .slice (some ⟨3, 0, none⟩) (R.getD x default).1.hs.length (R.getD x default).1.hs.length, .slice (some ⟨4, 0, none⟩) (R.getD x default).1.bk.length (R.getD x default).1.bk.length))) (p := (R.getD x default).1) (n := R.length) (x := x) (k := 0) (cn := K.cn) (re := K.re) (co := K.co) (rs := K.rs) (dl := K.dl) (rq := K.rq) (cs := K.cs) (br := K.br) (bs := K.bs) (bm := K.bm) (by_ := K.by_) (en := K.en) (li := K.li) (he := K.he) (ct := K.ct) (bo := K.bo) (q := K.q) (wh := wh) (wt := wt) (by rw [List.length_set, engL_len]; exact hx) (getD_set_eq' (by rw [engL_len]; exact hx)) hhp hbp _ _ _ _ b3 f3 T3.wr) ?_)
  rintro e a4 w4 ⟨rfl, l4, D4, ρ4, T4, f4, b4, c4⟩
  refine wp_seq (wp_mono (hk _ _ _ _ b4 f4 T4.wr) ?_)
  rintro e a6 w6 ⟨rfl, l6, D6, ρ6, T5, f6, b6, c6⟩
  have hT := (((T1.trans T2).trans T3).trans T4).trans T5
  have hw6 := hT.wr
  have e0 : ρ6 0 = ⟨B3, 0, none⟩ := hT.same 0 (show (0 : Nat) < 5 by decide)
  have e1 : ρ6 1 = ⟨B7, 0, none⟩ := hT.same 1 (show (1 : Nat) < 5 by decide)
  have io : ∀ c l, hget [(0, ⟨29, cfgC K (.slice (some ⟨0, 0, some 2⟩) R.length 0), 0⟩), (1, ⟨29, cfgC K (.slice (some ⟨2, 0, none⟩) R.length R.length), 0⟩), (2, ⟨46, ((engL R).set x ((R.getD x default).1, .slice (some ⟨3, 0, none⟩) (R.getD x default).1.hs.length (R.getD x default).1.hs.length, .slice (some ⟨4, 0, none⟩) (R.getD x default).1.bk.length (R.getD x default).1.bk.length)).flatMap realP, 1⟩), (3, ⟨9, (R.getD x default).1.hs.map Value.string, 3⟩), (4, ⟨54, (R.getD x default).1.bk.flatMap bkV, 3⟩)] c = some l → c = 0 ∨ c = 1 ∨ c = 2 ∨ c = 3 ∨ c = 4 := fun c l hc => by
    rcases hget_cons hc with ⟨rfl, _⟩ | hc
    · exact .inl rfl
    · rcases hget_cons hc with ⟨rfl, _⟩ | hc
      · exact .inr (.inl rfl)
      · rcases hget_cons hc with ⟨rfl, _⟩ | hc
        · exact .inr (.inr (.inl rfl))
        · rcases hget_cons hc with ⟨rfl, _⟩ | hc
          · exact .inr (.inr (.inr (.inl rfl)))
          · rcases hget_cons hc with ⟨rfl, _⟩ | hc
            · exact .inr (.inr (.inr (.inr rfl)))
            · exact (hget_nil _ _ hc).elim
  have keep : ∀ b, b < w.heap.size → b ≠ B3 → b ≠ B7 → b ≠ Bd → b ≠ Bh → b ≠ Bb → w6.heap[b]? = w.heap[b]? := fun b h1 h2 h3 h4 h5 h6 =>
    t_keep hT h1 fun c k hc => by
      rcases io c k hc with rfl | rfl | rfl | rfl | rfl
      · exact Ne.symm h2
      · exact Ne.symm h3
      · exact Ne.symm h4
      · exact Ne.symm h5
      · exact Ne.symm h6
  have hbd := hS.cp.ge
  have nd2 := List.nodup_cons.1 hS.cp.nd
  have keepC : ∀ t ∈ Lc, ∀ b ∈ blks t, w6.heap[b]? = w.heap[b]? := fun t ht b hb => by
    obtain ⟨h1, h2⟩ := hS.farc t ht b hb
    exact keep b (okW_lt (hS.okc t ht) hb) h1 (by omega) (by omega) (by omega) (by omega)
  have keepR : ∀ i, i < R.length → i ≠ x → ∀ b ∈ blks (R.getD i default), w6.heap[b]? = w.heap[b]? := fun i hi hix b hb => by
    have hm := getD_mem' hi
    have g := own_ge (hS.cp.own _ hm) (hS.cp.ok _ hm) hb
    exact keep b (okW_lt (hS.cp.ok _ hm) hb) (by omega) (fun e => hS.far7.2 _ hm (e ▸ hb)) (fun e => nd2.1 (List.mem_flatMap.2 ⟨_, hm, e ▸ hb⟩)) (fun e => nd_apart nd2.2 hx hi (Ne.symm hix) m1 (e ▸ hb)) (fun e => nd_apart nd2.2 hx hi (Ne.symm hix) m2 (e ▸ hb))
  obtain ⟨oB, cB, fzB, hB, gB⟩ := box_cells (hw6.here 0 _ g0) rfl rfl
  obtain ⟨oD, cD, fzD, hD, gD⟩ := box_cells (hw6.here 1 _ g1) rfl rfl
  have hgood : ∀ v ∈ E.flatMap realP, goodV v = true := fun v hv => by
    obtain ⟨t, ht, hv⟩ := List.mem_flatMap.1 hv
    obtain ⟨j, hj, rfl⟩ := List.mem_iff_getElem.1 ht
    have ej : E[j] = E.getD j default := by rw [List.getD_eq_getElem?_getD, List.getElem?_eq_getElem hj]; rfl
    rw [ej] at hv
    rcases hsh j hj with ⟨i, _, _, e⟩ | ⟨q, e, _⟩ <;> rw [e] at hv <;> exact realP_good rfl rfl v hv
  have hfh : ∀ v ∈ hs1.map Value.string, flat0 v = true := fun v hv => by obtain ⟨t, _, rfl⟩ := List.mem_map.1 hv; rfl
  have hfb : ∀ v ∈ bk1.flatMap bkV, flat0 v = true := fun v hv => by
    obtain ⟨t, _, ht⟩ := List.mem_flatMap.1 hv
    simp at ht
    rcases ht with rfl | rfl <;> rfl
  have gdf : ∀ v : Value, flat0 v = true → goodV v = true := fun v h => by
    unfold goodV
    split <;> first | rfl | exact h
  obtain ⟨oR, capR, cR, hRow⟩ := row_cells (hw6.here rid _ gr) (el := 46) (sz := 16) (show 1 % 2 = 1 by decide) rfl (by kernel_rfl) hgood
  obtain ⟨oH, capH, cH, hRowH⟩ := row_cells (hw6.here hid _ gh) (el := 9) (sz := 1) (show 3 % 2 = 1 by decide) rfl (by kernel_rfl) (fun v hv => gdf v (hfh v hv))
  obtain ⟨oBk, capB, cBk, hRowB⟩ := row_cells (hw6.here bid _ gb) (el := 54) (sz := 2) (show 3 % 2 = 1 by decide) rfl (by kernel_rfl) (fun v hv => gdf v (hfb v hv))
  have mH : (ABlk.cells ⟨9, hs1.map Value.string, 3⟩).map (imgV ρ6) = hs1.flatMap hF := by
    show (hs1.map Value.string).map (imgV ρ6) = _
    rw [← flatMap_one (f := Value.string)]
    exact (List.map_congr_left fun v hv => imgV_flat (hfh v (by rw [← flatMap_one (f := Value.string)]; exact hv))).trans (List.map_id _)
  have mB : (ABlk.cells ⟨54, bk1.flatMap bkV, 3⟩).map (imgV ρ6) = bk1.flatMap bkV := (List.map_congr_left fun v hv => imgV_flat (hfb v hv)).trans (List.map_id _)
  rw [mH] at hRowH
  rw [mB] at hRowB
  have mR : (ABlk.cells ⟨46, E.flatMap realP, 1⟩).map (imgV ρ6) = (E.map fun t => ((t.1, imgV ρ6 t.2.1, imgV ρ6 t.2.2) : PX)).flatMap realP := imgX_cells E
  rw [mR] at hRow
  obtain ⟨R', hR'⟩ : ∃ R' : List PX, R' = E.map fun t => ((t.1, imgV ρ6 t.2.1, imgV ρ6 t.2.2) : PX) := ⟨_, rfl⟩
  rw [← hR'] at hRow
  have lenR : R'.length = E.length := by rw [hR']; simp
  have getR : ∀ j, j < E.length → R'.getD j default = ((E.getD j default).1, imgV ρ6 (E.getD j default).2.1, imgV ρ6 (E.getD j default).2.2) := fun j hj => by
    rw [hR', List.getD_eq_getElem?_getD, List.getElem?_map, List.getD_eq_getElem?_getD, List.getElem?_eq_getElem hj]; rfl
  have sepx : ∀ id k, hget HE id = some k → k.mode ≠ 2 → id ≠ 0 → id ≠ 1 → (ρ6 id).blk ≠ B3 ∧ (ρ6 id).blk ≠ B7 := fun id k hk hm n0 n1' => by
    have s0 := hw6.sep id 0 k _ hk g0 n0 (.inl hm)
    have s1 := hw6.sep id 1 k _ hk g1 n1' (.inl hm)
    rw [e0] at s0
    rw [e1] at s1
    exact ⟨s0, s1⟩
  obtain ⟨sr3, sr7⟩ := sepx rid _ gr (show (1 : Nat) ≠ 2 by decide) nr.1 nr.2.1
  obtain ⟨sh3, sh7⟩ := sepx hid _ gh (show (3 : Nat) ≠ 2 by decide) nr.2.2.1 nr.2.2.2.1
  obtain ⟨sb3, sb7⟩ := sepx bid _ gb (show (3 : Nat) ≠ 2 by decide) nr.2.2.2.2.1 nr.2.2.2.2.2
  have ih : imgV ρ6 (.slice (some ⟨hid, 0, none⟩) hs1.length hs1.length) = .slice (some ⟨(ρ6 hid).blk, 0, none⟩) hs1.length capH := by
    show Value.slice (some ⟨(ρ6 hid).blk, (ρ6 hid).off, none⟩) hs1.length ((ρ6 hid).cap.getD hs1.length) = _
    rw [oH, cH]; rfl
  have ib : imgV ρ6 (.slice (some ⟨bid, 0, none⟩) bk1.length bk1.length) = .slice (some ⟨(ρ6 bid).blk, 0, none⟩) bk1.length capB := by
    show Value.slice (some ⟨(ρ6 bid).blk, (ρ6 bid).off, none⟩) bk1.length ((ρ6 bid).cap.getD bk1.length) = _
    rw [oBk, cBk]; rfl
  have old : ∀ i, i < R.length → i ≠ x → ((engX (R.getD i default) i).1, imgV ρ6 (engX (R.getD i default) i).2.1, imgV ρ6 (engX (R.getD i default) i).2.2) = R.getD i default := fun i hi hix => by
    have v1 := vr_h (E0 := (oa, Lc.length, cc, (numS Lc R.length).flatMap poolF)) (E1 := entD) (D := D6) (ρ := ρ6) hok i
    have v2 := vr_b (E0 := (oa, Lc.length, cc, (numS Lc R.length).flatMap poolF)) (E1 := entD) (D := D6) (ρ := ρ6) hok i
    rw [insS_get hi hix] at v1 v2
    have i1 := v1.img rfl
    have i2 := v2.img rfl
    show ((R.getD i default).1, imgV ρ6 (.slice (some ⟨2 + 2 * i, 0, some 2⟩) (R.getD i default).1.hs.length 0), imgV ρ6 (.slice (some ⟨3 + 2 * i, 0, some 2⟩) (R.getD i default).1.bk.length 0)) = _
    rw [← i1, ← i2]
  have newb : ∀ {u : Value} {B n c : Nat} {b : Nat}, u = .slice (some ⟨B, 0, none⟩) n c → b ∈ hblk u → b = B := fun {u B n c b} e hb => by
    subst e
    cases n with
    | zero => cases hb
    | succ n => exact List.mem_singleton.1 hb
  have okR : ∀ t ∈ R', okW w6 t ∧ ∀ b ∈ blks t, b ≠ B3 ∧ b ≠ B7 := fun t ht => by
    obtain ⟨j, hj, rfl⟩ := List.mem_iff_getElem.1 ht
    have hjE : j < E.length := by rw [← lenR]; exact hj
    have ej : R'[j] = R'.getD j default := by rw [List.getD_eq_getElem?_getD, List.getElem?_eq_getElem hj]; rfl
    rw [ej, getR j hjE]
    rcases hsh j hjE with ⟨i, hi, hix, e⟩ | ⟨q, e, eq1, eq2⟩
    · rw [e, old i hi hix]
      have hm := getD_mem' hi
      refine ⟨okW_keep (hS.cp.ok _ hm) (keepR i hi hix), fun b hb => ⟨?_, fun e => hS.far7.2 _ hm (e ▸ hb)⟩⟩
      have g := own_ge (hS.cp.own _ hm) (hS.cp.ok _ hm) hb
      omega
    · rw [e]
      show okW w6 (q, imgV ρ6 (.slice (some ⟨hid, 0, none⟩) hs1.length hs1.length), imgV ρ6 (.slice (some ⟨bid, 0, none⟩) bk1.length bk1.length)) ∧ ∀ b ∈ blks (q, imgV ρ6 (.slice (some ⟨hid, 0, none⟩) hs1.length hs1.length), imgV ρ6 (.slice (some ⟨bid, 0, none⟩) bk1.length bk1.length)), b ≠ B3 ∧ b ≠ B7
      rw [ih, ib]
      refine ⟨⟨?_, ?_⟩, fun b hb => ?_⟩
      · show RowV w6 hF q.hs _
        rw [eq1]
        exact rowV_of (f := hF) (sz := 1) (fun _ => rfl) (by decide) hRowH
      · show RowV w6 bkV q.bk _
        rw [eq2]
        exact rowV_of (f := bkV) (sz := 2) (fun _ => rfl) (by decide) hRowB
      · rcases List.mem_append.1 hb with hb | hb
        · rw [newb rfl hb]; exact ⟨sh3, sh7⟩
        · rw [newb rfl hb]; exact ⟨sb3, sb7⟩
  have nE : numS R' 0 = numS E 0 := numS_congr lenR fun j hj => by rw [getR j (by rw [← lenR]; exact hj)]
  have belw : Below w0.heap.size w0 w6 := hS.bel.trans ⟨hT.os, hT.tape, hT.output, hT.size, fun k hk => by
    have := hS.bel.size
    exact keep k (by omega) (by omega) (by omega) (by omega) (by omega) (by omega)⟩
  have hbox0 : (ABlk.cells ⟨29, cfgC K (.slice (some ⟨0, 0, some 2⟩) R.length 0), 0⟩).map (imgV ρ6) = cfgC K (.slice oa Lc.length cc) := by
    show cfgC K (.slice oa R.length cc) = _
    rw [hlen]
  have hbox1 : (ABlk.cells ⟨29, cfgC K1 (.slice (some ⟨rid, 0, none⟩) E.length E.length), 0⟩).map (imgV ρ6) = cfgC K1 (.slice (some ⟨(ρ6 rid).blk, 0, none⟩) R'.length capR) := by
    have : imgV ρ6 (.slice (some ⟨rid, 0, none⟩) E.length E.length) = .slice (some ⟨(ρ6 rid).blk, 0, none⟩) R'.length capR := by
      show Value.slice (some ⟨(ρ6 rid).blk, (ρ6 rid).off, none⟩) E.length ((ρ6 rid).cap.getD E.length) = _
      rw [oR, cR, lenR]; rfl
    show cfgC K1 (imgV ρ6 (.slice (some ⟨rid, 0, none⟩) E.length E.length)) = _
    rw [this]
  rw [e0] at hB
  rw [e1] at hD
  refine sp_end (K := K) (K1 := K1) (Lc := Lc) (R := R') (oa := oa) (cc := cc) (B3 := B3) (B7 := B7) (Bd := (ρ6 rid).blk) (cap := capR) (by rw [f6.size, mkF_len]) f6.defers ?_ ?_ ⟨fzB, by rw [← hbox0]; exact hB, gB⟩ ⟨fzD, by rw [← hbox1]; exact hD, gD⟩
    (fun t ht => okW_keep (hS.okc t ht) (keepC t ht)) (opn_keep hS.opc fun k ⟨cs, el, fz, hh⟩ ⟨a, ea, eb, hp⟩ => ?_) (fun t ht => (okR t ht).1) hRow ⟨by omega, Ne.symm sr3, Ne.symm sr7⟩ (fun t ht b hb => ?_) (fun t ht => (okR t ht).2) (fun a ea hp => ?_) belw hge.1 (by omega) ?_ (by rw [nE]; exact hSd) hzc hzd hc0 (by rw [nE]; exact hd0)
  · have h1 := (fr_get f6 (t := 3) (v := .pointer (some ⟨0, 0, none⟩)) rfl rfl).img rfl
    rw [h1]
    show Value.pointer (some ⟨(ρ6 0).blk, (ρ6 0).off + 0, none⟩) = _
    rw [e0]
  · have h1 := (fr_get f6 (t := 7) (v := .pointer (some ⟨1, 0, none⟩)) rfl rfl).img rfl
    rw [h1]
    show Value.pointer (some ⟨(ρ6 1).blk, (ρ6 1).off + 0, none⟩) = _
    rw [e1]
  · obtain ⟨f1', f2'⟩ := hS.faro a ea hp
    rw [eb] at f1' f2'
    exact keep k (Array.getElem?_eq_some_iff.1 hh).1 f1' (by omega) (by omega) (by omega) (by omega)
  · obtain ⟨h1, h2⟩ := hS.farc t ht b hb
    exact ⟨h1, by omega⟩
  · obtain ⟨h1, h2⟩ := hS.faro a ea hp
    exact ⟨h1, by omega⟩
  · exact small_strip hSc
end
section
open Go.RowKit
set_option linter.unusedSimpArgs false
set_option linter.unusedVariables false
set_option linter.unusedSectionVars false
set_option maxRecDepth 100000
theorem bif_p {b : Bool} {x y : Int} (h : (bif b then x else y) = 0) (hx : x ≠ 0) : b = false ∧ y = 0 := bif_f h hx
/-- What holds of a pool that may be. -/
structure GoodC (p : PoolT) : Prop where
  nm : nameE p.nm = 0
  hs : hostsE p.hs = 0
  lo : 1 ≤ p.bk.length
  hi : p.bk.length ≤ 64
  bk : bksE p.bk = 0
  po : 1 ≤ p.po ∧ p.po ≤ 3
  hc : hchE p.b1 p.b2 p.b3 p.b4 p.e1 p.e2 p.e3 p.e4 p.p1 p.p2 p.p3 p.p4 = 0
theorem chkP_good {p : PoolT} (h : chkP p = 0) : GoodC p := by
  unfold chkP checkV at h
  obtain ⟨h1, h⟩ := bif_v h
  obtain ⟨h2, h⟩ := bif_v h
  obtain ⟨h3, h⟩ := bif_f h (by decide)
  obtain ⟨h4, h⟩ := bif_f h (by decide)
  obtain ⟨h5, h⟩ := bif_v h
  obtain ⟨h6, h⟩ := bif_f h (by decide)
  obtain ⟨h7, h⟩ := bif_f h (by decide)
  simp only [decide_eq_false_iff_not] at h3 h4 h6 h7
  exact ⟨h1, h2, by omega, by omega, h5, by omega, h⟩
theorem hosts_pos {hs : List ByteArray} (h : hostsE hs = 0) : 1 ≤ hs.length ∧ hs.length ≤ 64 ∧ ∀ x, x < hs.length → okH hs x := by
  unfold hostsE at h
  by_cases u1 : (hs.length : Int) < 1
  · rw [if_pos u1] at h; exact absurd h (by decide)
  · rw [if_neg u1] at h
    by_cases u2 : (hs.length : Int) > 64
    · rw [if_pos u2] at h; exact absurd h (by decide)
    · rw [if_neg u2] at h
      by_cases u3 : ∀ x, x < hs.length → okH hs x
      · exact ⟨by omega, by omega, u3⟩
      · rw [if_neg u3] at h; exact absurd h (by decide)
theorem getD_snoc {T : Type} {l : List T} {a d : T} : (l ++ [a]).getD l.length d = a := by
  rw [List.getD_eq_getElem?_getD, List.getElem?_append_right (Nat.le_refl _), Nat.sub_self]; rfl
theorem take_snoc {T : Type} {l : List T} {a : T} : (l ++ [a]).take l.length = l := by simp
theorem getD0_mem {T : Type} {l : List T} {d : T} (h : 0 < l.length) : l.getD 0 d ∈ l := by
  cases l with
  | nil => cases h
  | cons a t => exact List.mem_cons_self
/-- Not valid: what one changes in a pool. -/
theorem no_name {p : PoolT} : chkP { p with nm := ⟨#[]⟩ } ≠ 0 := fun h => absurd (chkP_good h).nm (by
  show nameE ⟨#[]⟩ ≠ 0
  decide)
theorem no_host2 {p : PoolT} {l : List ByteArray} (hp : 0 < l.length) : chkP { p with hs := l ++ [l.getD 0 default] } ≠ 0 := fun h => by
  obtain ⟨_, _, h3⟩ := hosts_pos (chkP_good h).hs
  change ∀ x, x < (l ++ [l.getD 0 default]).length → okH (l ++ [l.getD 0 default]) x at h3
  have h4 := (h3 l.length (by simp)).2
  rw [getD_snoc, take_snoc] at h4
  exact h4 (getD0_mem hp)
theorem no_hostA {p : PoolT} {l : List ByteArray} (hp : 0 < l.length) : chkP { p with hs := l.set 0 ⟨#[65]⟩ } ≠ 0 := fun h => by
  obtain ⟨_, _, h3⟩ := hosts_pos (chkP_good h).hs
  change ∀ x, x < (l.set 0 ⟨#[65]⟩).length → okH (l.set 0 ⟨#[65]⟩) x at h3
  have h4 := (h3 0 (by rw [List.length_set]; exact hp)).1
  have e : (l.set 0 (⟨#[65]⟩ : ByteArray)).getD 0 default = ⟨#[65]⟩ := by
    cases l with
    | nil => cases hp
    | cons a t => rfl
  rw [e] at h4
  have h5 : hostE ⟨#[65]⟩ = 250 := by kernel_rfl
  rw [h5] at h4
  exact absurd h4 (by decide)
theorem no_back2 {p : PoolT} {l : List (ByteArray × Nat)} (hp : 0 < l.length) : chkP { p with bk := l ++ [l.getD 0 default] } ≠ 0 := fun h => by
  have h3 := bksE_iff.1 (chkP_good h).bk
  change ∀ x, x < (l ++ [l.getD 0 default]).length → okB (l ++ [l.getD 0 default]) x at h3
  have h4 := (h3 l.length (by simp)).2.1
  rw [getD_snoc, take_snoc] at h4
  exact h4 (List.mem_map.2 ⟨_, getD0_mem hp, rfl⟩)
theorem no_weight {p : PoolT} {l : List (ByteArray × Nat)} {n : ByteArray} (hp : 0 < l.length) : chkP { p with bk := l.set 0 (n, 9223372036854775808) } ≠ 0 := fun h => by
  have h3 := bksE_iff.1 (chkP_good h).bk
  change ∀ x, x < (l.set 0 (n, 9223372036854775808)).length → okB (l.set 0 (n, 9223372036854775808)) x at h3
  have h4 := (h3 0 (by rw [List.length_set]; exact hp)).2.2
  have e : (l.set 0 (n, 9223372036854775808)).getD 0 default = (n, 9223372036854775808) := by
    cases l with
    | nil => cases hp
    | cons a t => rfl
  rw [e] at h4
  have h5 : scoreE 9223372036854775808 = 230 := by kernel_rfl
  rw [h5] at h4
  exact absurd h4 (by decide)
theorem no_policy {p : PoolT} : chkP { p with po := 0 } ≠ 0 := fun h => by
  have := (chkP_good h).po.1
  exact absurd this (by show ¬ 1 ≤ (0 : Int); decide)
theorem trials {p : PoolT} (h : hchE p.b1 p.b2 p.b3 p.b4 p.e1 p.e2 p.e3 p.e4 p.p1 p.p2 p.p3 p.p4 = 0) : 1 ≤ p.b3 ∧ p.b3 ≤ 9000000000 := by
  unfold hchE at h
  obtain ⟨h1, h⟩ := bif_v h
  unfold bchE at h1
  obtain ⟨h2, h1⟩ := bif_f h1 (by decide)
  obtain ⟨h3, h1⟩ := bif_f h1 (by decide)
  unfold bwiB at h3
  simp at h3
  omega
theorem no_good {p : PoolT} : chkP { p with b4 := p.b3 + 1 } ≠ 0 := fun h => by
  have h := (chkP_good h).hc
  change hchE p.b1 p.b2 p.b3 (p.b3 + 1) p.e1 p.e2 p.e3 p.e4 p.p1 p.p2 p.p3 p.p4 = 0 at h
  unfold hchE at h
  obtain ⟨h1, h⟩ := bif_v h
  unfold bchE at h1
  obtain ⟨h2, h1⟩ := bif_f h1 (by decide)
  obtain ⟨h3, h1⟩ := bif_f h1 (by decide)
  obtain ⟨h4, h1⟩ := bif_f h1 (by decide)
  obtain ⟨h5, h1⟩ := bif_f h1 (by decide)
  simp only [decide_eq_false_iff_not] at h5
  omega
/-- Not valid: what one changes in the numbers. -/
theorem no_cn {K : CfgS} (h : GoodK { K with cn := ⟨#[97, 32, 98]⟩ }) : False := by
  have h1 := h.tok
  change tokE ⟨#[97, 32, 98]⟩ = true at h1
  have h2 : tokE ⟨#[97, 32, 98]⟩ = false := by kernel_rfl
  rw [h2] at h1
  cases h1
theorem no_part {K : CfgS} (h : GoodK { K with q := 9223372036854775808 }) : False := by
  have h1 := h.part
  change partE 9223372036854775808 = true at h1
  have h2 : partE 9223372036854775808 = false := by kernel_rfl
  rw [h2] at h1
  cases h1
theorem no_re {K : CfgS} (h : GoodK { K with re := -1 }) : False := by
  have h1 := h.re.1
  change 0 ≤ (-1 : Int) at h1
  omega
theorem no_dl {K : CfgS} (h : GoodK { K with dl := 0 }) : False := by
  have h1 := h.i1
  change idx3E K.co K.rs 0 253402300799 < 0 at h1
  unfold idx3E at h1
  have e : witB 0 253402300799 = true := rfl
  rw [e] at h1
  cases h2 : witB K.co 253402300799 <;> cases h3 : witB K.rs 253402300799 <;> rw [h2, h3] at h1 <;> simp at h1
theorem no_li {K : CfgS} (h : GoodK { K with li := 0 }) : False := by
  have h1 := h.lim
  change idx4E 0 K.he K.ct K.bo 16777216 < 0 at h1
  unfold idx4E at h1
  have e : witB 0 16777216 = true := rfl
  rw [e] at h1
  simp at h1
theorem no_bm {K : CfgS} (h : GoodK { K with bm := -1 }) : False := by
  have h1 := h.paid
  change paidE K.br K.bs (-1) = 0 at h1
  unfold paidE at h1
  obtain ⟨_, h1⟩ := bif_f h1 (by decide)
  obtain ⟨_, h1⟩ := bif_f h1 (by decide)
  obtain ⟨_, h1⟩ := bif_f h1 (by decide)
  obtain ⟨_, h1⟩ := bif_f h1 (by decide)
  obtain ⟨h2, h1⟩ := bif_f h1 (by decide)
  exact absurd h2 (by decide)
/-- A row of pools with one that may not be. -/
theorem no_pools {E : List PX} {j : Nat} (hj : j < E.length) (h : chkP (E.getD j default).1 ≠ 0) : poolsV (numS E 0) ≠ 0 := fun h0 => by
  obtain ⟨_, _, h3⟩ := poolsV_iff.1 h0
  have h4 := (h3 j (by rw [numS_len]; exact hj)).1
  unfold cvP at h4
  rw [numS_get hj] at h4
  exact h h4
theorem no_cfg {K : CfgS} {v : Int} (h : v ≠ 0) : cfgV K v ≠ 0 := fun h0 => h (cfgV_good h0).1
theorem no_cfgK {K : CfgS} {v : Int} (h : GoodK K → False) : cfgV K v ≠ 0 := fun h0 => h (cfgV_good h0).2
/-- A row of pools one of which is there twice. -/
theorem no_twice {E : List PX} {x : Nat} {t : PX} (hx : x < E.length) (he : (E.getD x default).1.nm = t.1.nm) : poolsV (numS (E ++ [t]) 0) ≠ 0 := fun h0 => by
  obtain ⟨_, _, h3⟩ := poolsV_iff.1 h0
  have hl : (numS (E ++ [t]) 0).length = E.length + 1 := by rw [numS_len]; simp
  have h4 := (h3 E.length (by omega)).2.1
  rw [numS_get (by simp), getD_snoc] at h4
  refine h4 (List.mem_map.2 ⟨(numS (E ++ [t]) 0).getD x default, ?_, ?_⟩)
  · rw [List.getD_eq_getElem?_getD, List.getElem?_eq_getElem (by omega)]
    refine List.mem_take_iff_getElem.2 ⟨x, by omega, rfl⟩
  · rw [numS_get (by simp; omega)]
    show ((E ++ [t]).getD x default).1.nm = t.1.nm
    rw [← he, List.getD_eq_getElem?_getD, List.getElem?_append_left hx, List.getD_eq_getElem?_getD]
end
end Go.Proofs.Ytkdalfdfepipiaa
