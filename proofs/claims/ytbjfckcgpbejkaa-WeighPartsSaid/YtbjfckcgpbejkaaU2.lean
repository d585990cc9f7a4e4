/- Weigh: contracts of add and Hash; printed by a program of mine. -/
import Derived.Test.YtbjfckcgpbejkaaU1
import Derived.KernelRfl
namespace Go.Proofs.Ytbjfckcgpbejkaa
set_option linter.unusedSectionVars false
open Go.RowKit
set_option linter.unusedSimpArgs false
set_option linter.unusedVariables false
set_option maxRecDepth 100000
variable [Inhabited RawG]
theorem ad_go {h c hx h2 : Int} {s : ByteArray} {x : Nat} (hs : s.size ≤ 9223372036854775807) (hx0 : x < s.size) (h1 : (byteCells s)[0 + x * 1]? = some (Value.int .u8 c)) (h2x : xorE h c = hx) (h3 : IntKind.u64.wrap (hx * 1099511628211) = h2) : RoundTo Try.prog callW 10 100 (loopN Try.prog 39 0) 320 321 [0, 8, 9, 10] .normal (mkF [(0, .int .u64 h), (8, .slice (some ⟨128, 0, none⟩) s.size s.size), (9, .int .i64 (s.size : Int)), (10, .int .i64 (x : Int))] 21 0) [(128, ⟨5, byteCells s, 3⟩)] (mkF [(0, Value.int IntKind.u64 h2), (8, Value.slice (some { block := 128, off := 0 }) s.size s.size), (9, Value.int IntKind.i64 (↑s.size : Int)), (10, Value.int IntKind.i64 (↑(x + 1) : Int))] 21 0) [(128, ⟨5, byteCells s, 3⟩)] 321 := by
  have k0 : (decide ((↑x : Int) < (↑s.size : Int))) = true := (decide_eq_true (by omega))
  exact roundTo_of [(321, OV.soft (Value.bool true)), (385, OV.idx x), (449, OV.ld (Value.int IntKind.u8 c)), (769, OV.soft (Value.int IntKind.u64 hx)), (833, OV.soft (Value.int IntKind.u64 h2)), (961, OV.soft (Value.int IntKind.i64 (↑(x + 1) : Int)))] [] (ps := [decide ((↑x : Int) < (↑s.size : Int)) = true, 0 ≤ (↑x : Int) ∧ (↑x : Int) < (↑s.size : Int) ∧ (↑x : Int).toNat = x, (byteCells s)[0 + x * 1]? = some (Value.int IntKind.u8 c), IntKind.u64.wrap (↑(BitVec.ofInt 64 h ^^^ BitVec.ofInt 64 (IntKind.u64.wrap c)).toNat : Int) = hx, IntKind.u64.wrap (hx * 1099511628211) = h2, IntKind.i64.wrap ((↑x : Int) + 1) = (↑(x + 1) : Int)]) (by kernel_rfl) (ob_cons k0 (ob_cons (by omega) (ob_cons h1 (ob_cons h2x (ob_cons h3 (ob_cons (up1 (by omega)) ob_nil)))))) (by decide)

theorem ad_end {h c hx h2 : Int} {s : ByteArray} {x : Nat} (hx0 : x = s.size) : RoundTo Try.prog callW 10 100 (loopN Try.prog 39 0) 320 321 [0] (.exit 0) (mkF [(0, .int .u64 h), (8, .slice (some ⟨128, 0, none⟩) s.size s.size), (9, .int .i64 (s.size : Int)), (10, .int .i64 (x : Int))] 21 0) [(128, ⟨5, byteCells s, 3⟩)] (mkF [(0, Value.int IntKind.u64 h)] 21 0) [] 384 := by
  have k0 : (decide ((↑x : Int) < (↑s.size : Int))) = false := (decide_eq_false (by omega))
  exact roundTo_of [(321, OV.soft (Value.bool false))] [] (ps := [decide ((↑x : Int) < (↑s.size : Int)) = false]) (by kernel_rfl) (ob_cons k0 ob_nil) (by decide)

theorem ad_loop {h : Int} {s : ByteArray} (hs : s.size ≤ 9223372036854775807) : LoopOK Try.prog (loopN Try.prog 39 0) (mkF [(0, .int .u64 h), (8, .slice (some ⟨128, 0, none⟩) s.size s.size), (9, .int .i64 (s.size : Int)), (10, .int .i64 (((0 : Nat) : Int) : Int))] 21 0) [(128, ⟨5, byteCells s, 3⟩)] 320 ⟨.exit 0, mkF [(0, .int .u64 (addE h s))] 21 0, [], 384, []⟩ := by
  refine loop_ind callW_spec mixed (LF := 10) (F := 100) (nxb := 321) (keys := [0, 8, 9, 10]) (keysE := [0]) s.size (fun x => mkF [(0, .int .u64 (addS s h x)), (8, .slice (some ⟨128, 0, none⟩) s.size s.size), (9, .int .i64 (s.size : Int)), (10, .int .i64 (x : Int))] 21 0) (fun _ => [(128, ⟨5, byteCells s, 3⟩)]) (by decide) (by simp) rfl ?_ ?_ (fun h => by cases h)
  · intro y hy
    exact ad_go hs hy (byte_at hy) rfl rfl
  · exact ad_end (c := 0) (hx := 0) (h2 := 0) rfl
theorem add_ok {h : Int} {s : ByteArray} (hs : s.size ≤ 9223372036854775807) : CallOK Try.prog 39 [.int .u64 h, .string s] [] 0 (.int .u64 (addE h s)) [] := by
  exact (callOK_keep (call := callW) [] callW_spec mixed (P := Try.prog) (g := 39) (av := [.int .u64 h, .string s]) (Hs := []) (lo := 0) (ω := [(321, OV.loop [0, 8, 9, 10] (AX.exit 0) (mkF [(0, Value.int IntKind.u64 (addE h s))] 21 0) [] 384)]) (LF := 10) (F := 100) (v := Value.int IntKind.u64 (addE h s)) (H1 := []) (ps := [LoopOK Try.prog (loopN Try.prog 39 0) (mkF [(0, .int .u64 h), (8, .slice (some ⟨128, 0, none⟩) s.size s.size), (9, .int .i64 (s.size : Int)), (10, .int .i64 (((0 : Nat) : Int) : Int))] 21 0) [(128, ⟨5, byteCells s, 3⟩)] 320 ⟨.exit 0, mkF [(0, .int .u64 (addE h s))] 21 0, [], 384, []⟩]) (by kernel_rfl) (ob_cons (ad_loop hs) ob_nil))

theorem hash_a {s t : ByteArray} {a1 a2 a3 m1 m2 m3 m4 m5 : Int} (c0 : CallOK Try.prog 39 [Value.int IntKind.u64 14695981039346656037, Value.string s] [] 0 (Value.int IntKind.u64 a1) []) (c1 : CallOK Try.prog 39 [Value.int IntKind.u64 a1, Value.string { data := #[0] }] [] 0 (Value.int IntKind.u64 a2) []) (c2 : CallOK Try.prog 39 [Value.int IntKind.u64 a2, Value.string t] [] 0 (Value.int IntKind.u64 a3) []) (e0 : a3.fdiv (2 ^ 29) = m1) (e1 : IntKind.u64.wrap (↑(BitVec.ofInt 64 a3 ^^^ BitVec.ofInt 64 m1).toNat : Int) = m2) (e2 : IntKind.u64.wrap (m2 * 13787848793156543929) = m3) (e3 : m3.fdiv (2 ^ 32) = m4) (e4 : IntKind.u64.wrap (↑(BitVec.ofInt 64 m3 ^^^ BitVec.ofInt 64 m4).toNat : Int) = m5) : CallOK Try.prog 23 [.string s, .string t] [] 0 (.int .u64 m5) [] := by
  exact (callOK_keep (call := callW) [] callW_spec mixed (P := Try.prog) (g := 23) (av := [.string s, .string t]) (Hs := []) (lo := 0) (ω := [(128, OV.call (Value.int IntKind.u64 a1) []), (192, OV.call (Value.int IntKind.u64 a2) []), (320, OV.call (Value.int IntKind.u64 a3) []), (576, OV.soft (Value.int IntKind.u64 m1)), (640, OV.soft (Value.int IntKind.u64 m2)), (832, OV.soft (Value.int IntKind.u64 m3)), (1088, OV.soft (Value.int IntKind.u64 m4)), (1152, OV.soft (Value.int IntKind.u64 m5))]) (LF := 10) (F := 100) (v := Value.int IntKind.u64 m5) (H1 := []) (ps := [CallOK Try.prog 39 [Value.int IntKind.u64 14695981039346656037, Value.string s] [] 0 (Value.int IntKind.u64 a1) [], CallOK Try.prog 39 [Value.int IntKind.u64 a1, Value.string { data := #[0] }] [] 0 (Value.int IntKind.u64 a2) [], CallOK Try.prog 39 [Value.int IntKind.u64 a2, Value.string t] [] 0 (Value.int IntKind.u64 a3) [], a3.fdiv (2 ^ 29) = m1, IntKind.u64.wrap (↑(BitVec.ofInt 64 a3 ^^^ BitVec.ofInt 64 m1).toNat : Int) = m2, IntKind.u64.wrap (m2 * 13787848793156543929) = m3, m3.fdiv (2 ^ 32) = m4, IntKind.u64.wrap (↑(BitVec.ofInt 64 m3 ^^^ BitVec.ofInt 64 m4).toNat : Int) = m5]) (by kernel_rfl) (ob_cons c0 (ob_cons c1 (ob_cons c2 (ob_cons e0 (ob_cons e1 (ob_cons e2 (ob_cons e3 (ob_cons e4 ob_nil)))))))))

theorem hash_ex (s t : ByteArray) (hs : s.size ≤ 9223372036854775807) (ht : t.size ≤ 9223372036854775807) : ∃ v : Int, CallOK Try.prog 23 [.string s, .string t] [] 0 (.int .u64 v) [] :=
  ⟨_, hash_a (add_ok hs) (add_ok (by decide)) (add_ok ht) rfl rfl rfl rfl rfl⟩
open Classical in
/-- The hash of a name and a key. -/
noncomputable def hashV (s t : ByteArray) : Int := if h : ∃ v : Int, CallOK Try.prog 23 [.string s, .string t] [] 0 (.int .u64 v) [] then Classical.choose h else 0
theorem hash_ok {s t : ByteArray} (hs : s.size ≤ 9223372036854775807) (ht : t.size ≤ 9223372036854775807) : CallOK Try.prog 23 [.string s, .string t] [] 0 (.int .u64 (hashV s t)) [] := by
  unfold hashV
  rw [dif_pos (hash_ex s t hs ht)]
  exact Classical.choose_spec (hash_ex s t hs ht)
end Go.Proofs.Ytbjfckcgpbejkaa
