/- Pool: where a byte lies. -/
import Derived.Test.YtkdalfdfepipiaaT0
import Derived.KernelRfl
namespace Go.Proofs.Ytkdalfdfepipiaa
open Go.RowKit
set_option linter.unusedSimpArgs false
set_option linter.unusedVariables false
set_option linter.unusedSectionVars false
set_option maxRecDepth 100000
/-- Where a byte lies among those. -/
def idxB (x : Int) : Int := (bif (33 == x) then 0 else (bif (35 == x) then 1 else (bif (36 == x) then 2 else (bif (37 == x) then 3 else (bif (38 == x) then 4 else (bif (39 == x) then 5 else (bif (42 == x) then 6 else (bif (43 == x) then 7 else (bif (45 == x) then 8 else (bif (46 == x) then 9 else (bif (94 == x) then 10 else (bif (95 == x) then 11 else (bif (96 == x) then 12 else (bif (124 == x) then 13 else (bif (126 == x) then 14 else (-1))))))))))))))))
abbrev tsB : Value := .string ⟨#[33, 35, 36, 37, 38, 39, 42, 43, 45, 46, 94, 95, 96, 124, 126]⟩
theorem disp75 (x : Int) : peval Try.prog (execOp (evF [Value.string { data := #[33, 35, 36, 37, 38, 39, 42, 43, 45, 46, 94, 95, 96, 124, 126] }, Value.int IntKind.u8 x, Value.tuple #[], Value.tuple #[], Value.int IntKind.i64 0, Value.string { data := #[33, 35, 36, 37, 38, 39, 42, 43, 45, 46, 94, 95, 96, 124, 126] }, Value.int IntKind.u8 x, Value.tuple #[]]) { dst := some 7, op := Op.call { callee := Callee.value (Operand.func 75), args := #[Operand.tmp 5, Operand.tmp 6], argTypes := #[9, 5] }, type := 3, pos := "strings.go:25", after := #[{ on := 0, ground := Ground.data }, { on := 1, ground := Ground.data }], guard := none }) = peval Try.prog ((Go.Extern.BytealgIndexByte.indexByte #[tsB, .int .u8 x]).bind fun v => .pure (Next.value v)) := by kernel_rfl
theorem vals75 : (List.range 256).map (fun n : Nat => peval Try.prog ((Go.Extern.BytealgIndexByte.indexByte #[tsB, .int .u8 (n : Int)]).bind fun v => .pure (Next.value v))) = (List.range 256).map (fun n : Nat => some (Next.value (.int .i64 (idxB (n : Int))))) := by kernel_rfl
theorem hard75 {x : Int} (h0 : 0 ≤ x) (h1 : x < 256) : peval Try.prog (execOp (evF [Value.string { data := #[33, 35, 36, 37, 38, 39, 42, 43, 45, 46, 94, 95, 96, 124, 126] }, Value.int IntKind.u8 x, Value.tuple #[], Value.tuple #[], Value.int IntKind.i64 0, Value.string { data := #[33, 35, 36, 37, 38, 39, 42, 43, 45, 46, 94, 95, 96, 124, 126] }, Value.int IntKind.u8 x, Value.tuple #[]]) { dst := some 7, op := Op.call { callee := Callee.value (Operand.func 75), args := #[Operand.tmp 5, Operand.tmp 6], argTypes := #[9, 5] }, type := 3, pos := "strings.go:25", after := #[{ on := 0, ground := Ground.data }, { on := 1, ground := Ground.data }], guard := none }) = some (Next.value (Value.int IntKind.i64 (idxB x))) := by
  rw [disp75]
  obtain ⟨n, rfl⟩ : ∃ n : Nat, x = (n : Int) := ⟨x.toNat, by omega⟩
  exact List.map_inj_left.1 vals75 n (List.mem_range.2 (by omega))
theorem idx71 {x : Int} (h0 : 0 ≤ x) (h1 : x < 256) (w : World) : Calls Try.prog 71 #[tsB, .int .u8 x] w (fun e w1 => e = .returned (Value.int IntKind.i64 (idxB x)) ∧ Below w.heap.size w w1) :=
  calls_orc (call := callP) (ω := [(192, .hard (.int .i64 (idxB x)))]) (LF := 100) (F := 400) (av := [tsB, .int .u8 x]) (v := .int .i64 (idxB x)) (ps := [peval Try.prog (execOp (evF [Value.string { data := #[33, 35, 36, 37, 38, 39, 42, 43, 45, 46, 94, 95, 96, 124, 126] }, Value.int IntKind.u8 x, Value.tuple #[], Value.tuple #[], Value.int IntKind.i64 0, Value.string { data := #[33, 35, 36, 37, 38, 39, 42, 43, 45, 46, 94, 95, 96, 124, 126] }, Value.int IntKind.u8 x, Value.tuple #[]]) { dst := some 7, op := Op.call { callee := Callee.value (Operand.func 75), args := #[Operand.tmp 5, Operand.tmp 6], argTypes := #[9, 5] }, type := 3, pos := "strings.go:25", after := #[{ on := 0, ground := Ground.data }, { on := 1, ground := Ground.data }], guard := none }) = some (Next.value (Value.int IntKind.i64 (idxB x)))]) callP_spec mixed (by kernel_rfl) (ob_cons (hard75 h0 h1) ob_nil) (by kernel_rfl) (by kernel_rfl) w
variable [Inhabited RawG]
def ψidx : CallF := fun f args H _ =>
  if f = 71 then match args with
    | [.string b, .int .u8 x] => if b = ⟨#[33, 35, 36, 37, 38, 39, 42, 43, 45, 46, 94, 95, 96, 124, 126]⟩ ∧ 0 ≤ x ∧ x < 256 then some (Value.int .i64 (idxB x), H) else none
    | _ => none
  else none
theorem ψidx_spec : CallSpec Try.prog ψidx := by
  intro g av Hs lo v H1 h D ρ w args hlt hsz hav hw
  unfold ψidx at h
  split at h
  · rename_i hg
    subst hg
    split at h
    · rename_i b x
      split at h
      · rename_i hb
        obtain ⟨hb, h0, h1⟩ := hb
        subst hb
        cases h; exact spec_of_pure (fun w => idx71 h0 h1 w) (by kernel_rfl) (by kernel_rfl) hsz hav hw
      · cases h
    · cases h
  · cases h
noncomputable def callT : CallF := aCall Try.prog ψidx 300 400 9
theorem callT_spec : CallSpec Try.prog callT := call_spec ψidx_spec mixed 9
end Go.Proofs.Ytkdalfdfepipiaa
