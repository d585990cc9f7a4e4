/- Pool: numbers within others; printed by a program of mine. -/
import Derived.Test.YtkdalfdfepipiaaP9
import Derived.KernelRfl
namespace Go.Proofs.Ytkdalfdfepipiaa
open Go.RowKit
set_option linter.unusedSimpArgs false
set_option linter.unusedVariables false
set_option linter.unusedSectionVars false
set_option maxRecDepth 100000
def witB (n m : Int) : Bool := (bif (decide (n < 1)) then (true) else ((decide (n > m))))
theorem witB_ok [Inhabited RawG] (n m : Int)  : CallOK Try.prog 51 [.int .i64 n, .pointer (some ⟨0, 0, none⟩)] [(0, ⟨2, [.int .i64 m], 0⟩)] 1 (.bool (witB n m)) [(0, ⟨2, [.int .i64 m], 0⟩)] := by
  rcases Bool.eq_false_or_eq_true (decide (n < 1)) with h0 | h0
  · have hv : (.bool (witB n m) : Value) = Value.bool true := by simp only [witB, h0, cond_true, cond_false]
    rw [hv]
    exact callOK_keep (call := (aCall Try.prog ΨhchE 10 100 6)) [0] (call_spec ΨhchE_spec mixed 6) mixed (ω := [(193, OV.soft (Value.bool true))]) (LF := 10) (F := 100) (ps := [decide (n < 1) = true]) (by kernel_rfl) (ob_cons h0 ob_nil)
  · have hv : (.bool (witB n m) : Value) = Value.bool (decide (n > m)) := by simp only [witB, h0, cond_true, cond_false]
    rw [hv]
    exact callOK_keep (call := (aCall Try.prog ΨhchE 10 100 6)) [0] (call_spec ΨhchE_spec mixed 6) mixed (ω := [(193, OV.soft (Value.bool false))]) (LF := 10) (F := 100) (ps := [decide (n < 1) = false]) (by kernel_rfl) (ob_cons h0 ob_nil)

def ψwitB : CallF := fun f args H lo =>
  if f = 51 ∧ lo = 1 then match args, H with
    | [.int .i64 n, .pointer (some ⟨0, 0, none⟩)], [(0, ⟨2, [.int .i64 m], 0⟩)] => some (.bool (witB n m), H)
    | _, _ => none
  else none
theorem ψwitB_spec [Inhabited RawG] : CallSpec Try.prog ψwitB := by
  intro g av Hs lo v H1 h
  unfold ψwitB at h
  split at h
  · rename_i hg
    obtain ⟨hg, hl⟩ := hg
    subst hg
    subst hl
    split at h
    · cases h; exact witB_ok _ _
    · cases h
  · cases h
def ΨwitB : CallF := orΨ ψwitB ΨhchE
theorem ΨwitB_spec [Inhabited RawG] : CallSpec Try.prog ΨwitB := orΨ_spec ψwitB_spec ΨhchE_spec
def idx3E (a b c m : Int) : Int := (bif (witB a m) then (0) else (bif (witB b m) then (1) else (bif (witB c m) then (2) else ((-1)))))
theorem idx3E_ok [Inhabited RawG] (a b c m : Int)  : CallOK Try.prog 63 [.slice (some ⟨0, 0, none⟩) 3 3, .func (.func 51) #[] #[.pointer (some ⟨1, 0, none⟩)]] [(0, ⟨2, [.int .i64 a, .int .i64 b, .int .i64 c], 0⟩), (1, ⟨2, [.int .i64 m], 0⟩)] 2 (.int .i64 (idx3E a b c m)) [(0, ⟨2, [.int .i64 a, .int .i64 b, .int .i64 c], 0⟩), (1, ⟨2, [.int .i64 m], 0⟩)] := by
  rcases Bool.eq_false_or_eq_true (witB a m) with h0 | h0
  · have hv : (.int .i64 (idx3E a b c m) : Value) = Value.int IntKind.i64 0 := by simp only [idx3E, h0, cond_true, cond_false]
    rw [hv]
    exact callOK_keep (call := (aCall Try.prog ΨwitB 10 100 6)) [0, 1] (call_spec ΨwitB_spec mixed 6) mixed (ω := [(770, OV.soft (Value.bool true))]) (LF := 10) (F := 100) (ps := [witB a m = true]) (by kernel_rfl) (ob_cons h0 ob_nil)
  · rcases Bool.eq_false_or_eq_true (witB b m) with h1 | h1
    · have hv : (.int .i64 (idx3E a b c m) : Value) = Value.int IntKind.i64 1 := by simp only [idx3E, h0, h1, cond_true, cond_false]
      rw [hv]
      exact callOK_keep (call := (aCall Try.prog ΨwitB 10 100 6)) [0, 1] (call_spec ΨwitB_spec mixed 6) mixed (ω := [(770, OV.soft (Value.bool false)), (1474, OV.soft (Value.bool true))]) (LF := 10) (F := 100) (ps := [witB a m = false, witB b m = true]) (by kernel_rfl) (ob_cons h0 (ob_cons h1 ob_nil))
    · rcases Bool.eq_false_or_eq_true (witB c m) with h2 | h2
      · have hv : (.int .i64 (idx3E a b c m) : Value) = Value.int IntKind.i64 2 := by simp only [idx3E, h0, h1, h2, cond_true, cond_false]
        rw [hv]
        exact callOK_keep (call := (aCall Try.prog ΨwitB 10 100 6)) [0, 1] (call_spec ΨwitB_spec mixed 6) mixed (ω := [(770, OV.soft (Value.bool false)), (1474, OV.soft (Value.bool false)), (2178, OV.soft (Value.bool true))]) (LF := 10) (F := 100) (ps := [witB a m = false, witB b m = false, witB c m = true]) (by kernel_rfl) (ob_cons h0 (ob_cons h1 (ob_cons h2 ob_nil)))
      · have hv : (.int .i64 (idx3E a b c m) : Value) = Value.int IntKind.i64 (-1) := by simp only [idx3E, h0, h1, h2, cond_true, cond_false]
        rw [hv]
        exact callOK_keep (call := (aCall Try.prog ΨwitB 10 100 6)) [0, 1] (call_spec ΨwitB_spec mixed 6) mixed (ω := [(770, OV.soft (Value.bool false)), (1474, OV.soft (Value.bool false)), (2178, OV.soft (Value.bool false))]) (LF := 10) (F := 100) (ps := [witB a m = false, witB b m = false, witB c m = false]) (by kernel_rfl) (ob_cons h0 (ob_cons h1 (ob_cons h2 ob_nil)))

def ψidx3E : CallF := fun f args H lo =>
  if f = 63 ∧ lo = 2 then match args, H with
    | [.slice (some ⟨0, 0, none⟩) 3 3, .func (.func 51) ⟨[]⟩ ⟨[.pointer (some ⟨1, 0, none⟩)]⟩], [(0, ⟨2, [.int .i64 a, .int .i64 b, .int .i64 c], 0⟩), (1, ⟨2, [.int .i64 m], 0⟩)] => some (.int .i64 (idx3E a b c m), H)
    | _, _ => none
  else none
theorem ψidx3E_spec [Inhabited RawG] : CallSpec Try.prog ψidx3E := by
  intro g av Hs lo v H1 h
  unfold ψidx3E at h
  split at h
  · rename_i hg
    obtain ⟨hg, hl⟩ := hg
    subst hg
    subst hl
    split at h
    · cases h; exact idx3E_ok _ _ _ _
    · cases h
  · cases h
def Ψidx3E : CallF := orΨ ψidx3E ΨwitB
theorem Ψidx3E_spec [Inhabited RawG] : CallSpec Try.prog Ψidx3E := orΨ_spec ψidx3E_spec ΨwitB_spec
def idx4E (a b c d m : Int) : Int := (bif (witB a m) then (0) else (bif (witB b m) then (1) else (bif (witB c m) then (2) else (bif (witB d m) then (3) else ((-1))))))
theorem idx4E_ok [Inhabited RawG] (a b c d m : Int)  : CallOK Try.prog 63 [.slice (some ⟨0, 0, none⟩) 4 4, .func (.func 51) #[] #[.pointer (some ⟨1, 0, none⟩)]] [(0, ⟨2, [.int .i64 a, .int .i64 b, .int .i64 c, .int .i64 d], 0⟩), (1, ⟨2, [.int .i64 m], 0⟩)] 2 (.int .i64 (idx4E a b c d m)) [(0, ⟨2, [.int .i64 a, .int .i64 b, .int .i64 c, .int .i64 d], 0⟩), (1, ⟨2, [.int .i64 m], 0⟩)] := by
  rcases Bool.eq_false_or_eq_true (witB a m) with h0 | h0
  · have hv : (.int .i64 (idx4E a b c d m) : Value) = Value.int IntKind.i64 0 := by simp only [idx4E, h0, cond_true, cond_false]
    rw [hv]
    exact callOK_keep (call := (aCall Try.prog Ψidx3E 10 100 6)) [0, 1] (call_spec Ψidx3E_spec mixed 6) mixed (ω := [(770, OV.soft (Value.bool true))]) (LF := 10) (F := 100) (ps := [witB a m = true]) (by kernel_rfl) (ob_cons h0 ob_nil)
  · rcases Bool.eq_false_or_eq_true (witB b m) with h1 | h1
    · have hv : (.int .i64 (idx4E a b c d m) : Value) = Value.int IntKind.i64 1 := by simp only [idx4E, h0, h1, cond_true, cond_false]
      rw [hv]
      exact callOK_keep (call := (aCall Try.prog Ψidx3E 10 100 6)) [0, 1] (call_spec Ψidx3E_spec mixed 6) mixed (ω := [(770, OV.soft (Value.bool false)), (1474, OV.soft (Value.bool true))]) (LF := 10) (F := 100) (ps := [witB a m = false, witB b m = true]) (by kernel_rfl) (ob_cons h0 (ob_cons h1 ob_nil))
    · rcases Bool.eq_false_or_eq_true (witB c m) with h2 | h2
      · have hv : (.int .i64 (idx4E a b c d m) : Value) = Value.int IntKind.i64 2 := by simp only [idx4E, h0, h1, h2, cond_true, cond_false]
        rw [hv]
        exact callOK_keep (call := (aCall Try.prog Ψidx3E 10 100 6)) [0, 1] (call_spec Ψidx3E_spec mixed 6) mixed (ω := [(770, OV.soft (Value.bool false)), (1474, OV.soft (Value.bool false)), (2178, OV.soft (Value.bool true))]) (LF := 10) (F := 100) (ps := [witB a m = false, witB b m = false, witB c m = true]) (by kernel_rfl) (ob_cons h0 (ob_cons h1 (ob_cons h2 ob_nil)))
      · rcases Bool.eq_false_or_eq_true (witB d m) with h3 | h3
        · have hv : (.int .i64 (idx4E a b c d m) : Value) = Value.int IntKind.i64 3 := by simp only [idx4E, h0, h1, h2, h3, cond_true, cond_false]
          rw [hv]
          exact callOK_keep (call := (aCall Try.prog Ψidx3E 10 100 6)) [0, 1] (call_spec Ψidx3E_spec mixed 6) mixed (ω := [(770, OV.soft (Value.bool false)), (1474, OV.soft (Value.bool false)), (2178, OV.soft (Value.bool false)), (2882, OV.soft (Value.bool true))]) (LF := 10) (F := 100) (ps := [witB a m = false, witB b m = false, witB c m = false, witB d m = true]) (by kernel_rfl) (ob_cons h0 (ob_cons h1 (ob_cons h2 (ob_cons h3 ob_nil))))
        · have hv : (.int .i64 (idx4E a b c d m) : Value) = Value.int IntKind.i64 (-1) := by simp only [idx4E, h0, h1, h2, h3, cond_true, cond_false]
          rw [hv]
          exact callOK_keep (call := (aCall Try.prog Ψidx3E 10 100 6)) [0, 1] (call_spec Ψidx3E_spec mixed 6) mixed (ω := [(770, OV.soft (Value.bool false)), (1474, OV.soft (Value.bool false)), (2178, OV.soft (Value.bool false)), (2882, OV.soft (Value.bool false))]) (LF := 10) (F := 100) (ps := [witB a m = false, witB b m = false, witB c m = false, witB d m = false]) (by kernel_rfl) (ob_cons h0 (ob_cons h1 (ob_cons h2 (ob_cons h3 ob_nil))))

def ψidx4E : CallF := fun f args H lo =>
  if f = 63 ∧ lo = 2 then match args, H with
    | [.slice (some ⟨0, 0, none⟩) 4 4, .func (.func 51) ⟨[]⟩ ⟨[.pointer (some ⟨1, 0, none⟩)]⟩], [(0, ⟨2, [.int .i64 a, .int .i64 b, .int .i64 c, .int .i64 d], 0⟩), (1, ⟨2, [.int .i64 m], 0⟩)] => some (.int .i64 (idx4E a b c d m), H)
    | _, _ => none
  else none
theorem ψidx4E_spec [Inhabited RawG] : CallSpec Try.prog ψidx4E := by
  intro g av Hs lo v H1 h
  unfold ψidx4E at h
  split at h
  · rename_i hg
    obtain ⟨hg, hl⟩ := hg
    subst hg
    subst hl
    split at h
    · cases h; exact idx4E_ok _ _ _ _ _
    · cases h
  · cases h
def Ψidx4E : CallF := orΨ ψidx4E Ψidx3E
theorem Ψidx4E_spec [Inhabited RawG] : CallSpec Try.prog Ψidx4E := orΨ_spec ψidx4E_spec Ψidx3E_spec
def paidE (a b c : Int) : Int := (bif (decide (a < 0)) then (260) else (bif (decide (a > 1048576)) then (260) else (bif (decide (b < 0)) then (260) else (bif (decide (b > 1048576)) then (260) else (bif (decide (c < 0)) then (260) else (bif (decide (c > 1048576)) then (260) else (0)))))))
theorem paidE_any (a b c : Int) (w : World)  : Calls Try.prog 26 #[.agg #[.int .i64 a, .int .i64 b, .int .i64 c]] w (fun e w1 => e = .returned (.int .i64 (paidE a b c)) ∧ Below w.heap.size w w1) := by
  rcases Bool.eq_false_or_eq_true (decide (a < 0)) with h0 | h0
  · refine (calls_orc (call := aCall Try.prog Ψidx4E 10 100 6) (ω := [(960, OV.soft (Value.bool true))]) (LF := 10) (F := 100) (av := [.agg #[.int .i64 a, .int .i64 b, .int .i64 c]]) (v := Value.int IntKind.i64 260) (ps := [decide (a < 0) = true]) (call_spec Ψidx4E_spec mixed 6) mixed (by kernel_rfl) (ob_cons h0 ob_nil) (by kernel_rfl) (by kernel_rfl) w).mono ?_
    rintro e w1 ⟨rfl, hb⟩; exact ⟨by simp only [paidE, h0, cond_true, cond_false], hb⟩
  · rcases Bool.eq_false_or_eq_true (decide (a > 1048576)) with h1 | h1
    · refine (calls_orc (call := aCall Try.prog Ψidx4E 10 100 6) (ω := [(960, OV.soft (Value.bool false)), (1152, OV.soft (Value.bool true))]) (LF := 10) (F := 100) (av := [.agg #[.int .i64 a, .int .i64 b, .int .i64 c]]) (v := Value.int IntKind.i64 260) (ps := [decide (a < 0) = false, decide (a > 1048576) = true]) (call_spec Ψidx4E_spec mixed 6) mixed (by kernel_rfl) (ob_cons h0 (ob_cons h1 ob_nil)) (by kernel_rfl) (by kernel_rfl) w).mono ?_
      rintro e w1 ⟨rfl, hb⟩; exact ⟨by simp only [paidE, h0, h1, cond_true, cond_false], hb⟩
    · rcases Bool.eq_false_or_eq_true (decide (b < 0)) with h2 | h2
      · refine (calls_orc (call := aCall Try.prog Ψidx4E 10 100 6) (ω := [(960, OV.soft (Value.bool false)), (1152, OV.soft (Value.bool false)), (1664, OV.soft (Value.bool true))]) (LF := 10) (F := 100) (av := [.agg #[.int .i64 a, .int .i64 b, .int .i64 c]]) (v := Value.int IntKind.i64 260) (ps := [decide (a < 0) = false, decide (a > 1048576) = false, decide (b < 0) = true]) (call_spec Ψidx4E_spec mixed 6) mixed (by kernel_rfl) (ob_cons h0 (ob_cons h1 (ob_cons h2 ob_nil))) (by kernel_rfl) (by kernel_rfl) w).mono ?_
        rintro e w1 ⟨rfl, hb⟩; exact ⟨by simp only [paidE, h0, h1, h2, cond_true, cond_false], hb⟩
      · rcases Bool.eq_false_or_eq_true (decide (b > 1048576)) with h3 | h3
        · refine (calls_orc (call := aCall Try.prog Ψidx4E 10 100 6) (ω := [(960, OV.soft (Value.bool false)), (1152, OV.soft (Value.bool false)), (1664, OV.soft (Value.bool false)), (1856, OV.soft (Value.bool true))]) (LF := 10) (F := 100) (av := [.agg #[.int .i64 a, .int .i64 b, .int .i64 c]]) (v := Value.int IntKind.i64 260) (ps := [decide (a < 0) = false, decide (a > 1048576) = false, decide (b < 0) = false, decide (b > 1048576) = true]) (call_spec Ψidx4E_spec mixed 6) mixed (by kernel_rfl) (ob_cons h0 (ob_cons h1 (ob_cons h2 (ob_cons h3 ob_nil)))) (by kernel_rfl) (by kernel_rfl) w).mono ?_
          rintro e w1 ⟨rfl, hb⟩; exact ⟨by simp only [paidE, h0, h1, h2, h3, cond_true, cond_false], hb⟩
        · rcases Bool.eq_false_or_eq_true (decide (c < 0)) with h4 | h4
          · refine (calls_orc (call := aCall Try.prog Ψidx4E 10 100 6) (ω := [(960, OV.soft (Value.bool false)), (1152, OV.soft (Value.bool false)), (1664, OV.soft (Value.bool false)), (1856, OV.soft (Value.bool false)), (2368, OV.soft (Value.bool true))]) (LF := 10) (F := 100) (av := [.agg #[.int .i64 a, .int .i64 b, .int .i64 c]]) (v := Value.int IntKind.i64 260) (ps := [decide (a < 0) = false, decide (a > 1048576) = false, decide (b < 0) = false, decide (b > 1048576) = false, decide (c < 0) = true]) (call_spec Ψidx4E_spec mixed 6) mixed (by kernel_rfl) (ob_cons h0 (ob_cons h1 (ob_cons h2 (ob_cons h3 (ob_cons h4 ob_nil))))) (by kernel_rfl) (by kernel_rfl) w).mono ?_
            rintro e w1 ⟨rfl, hb⟩; exact ⟨by simp only [paidE, h0, h1, h2, h3, h4, cond_true, cond_false], hb⟩
          · rcases Bool.eq_false_or_eq_true (decide (c > 1048576)) with h5 | h5
            · refine (calls_orc (call := aCall Try.prog Ψidx4E 10 100 6) (ω := [(960, OV.soft (Value.bool false)), (1152, OV.soft (Value.bool false)), (1664, OV.soft (Value.bool false)), (1856, OV.soft (Value.bool false)), (2368, OV.soft (Value.bool false)), (2560, OV.soft (Value.bool true))]) (LF := 10) (F := 100) (av := [.agg #[.int .i64 a, .int .i64 b, .int .i64 c]]) (v := Value.int IntKind.i64 260) (ps := [decide (a < 0) = false, decide (a > 1048576) = false, decide (b < 0) = false, decide (b > 1048576) = false, decide (c < 0) = false, decide (c > 1048576) = true]) (call_spec Ψidx4E_spec mixed 6) mixed (by kernel_rfl) (ob_cons h0 (ob_cons h1 (ob_cons h2 (ob_cons h3 (ob_cons h4 (ob_cons h5 ob_nil)))))) (by kernel_rfl) (by kernel_rfl) w).mono ?_
              rintro e w1 ⟨rfl, hb⟩; exact ⟨by simp only [paidE, h0, h1, h2, h3, h4, h5, cond_true, cond_false], hb⟩
            · refine (calls_orc (call := aCall Try.prog Ψidx4E 10 100 6) (ω := [(960, OV.soft (Value.bool false)), (1152, OV.soft (Value.bool false)), (1664, OV.soft (Value.bool false)), (1856, OV.soft (Value.bool false)), (2368, OV.soft (Value.bool false)), (2560, OV.soft (Value.bool false))]) (LF := 10) (F := 100) (av := [.agg #[.int .i64 a, .int .i64 b, .int .i64 c]]) (v := Value.int IntKind.i64 0) (ps := [decide (a < 0) = false, decide (a > 1048576) = false, decide (b < 0) = false, decide (b > 1048576) = false, decide (c < 0) = false, decide (c > 1048576) = false]) (call_spec Ψidx4E_spec mixed 6) mixed (by kernel_rfl) (ob_cons h0 (ob_cons h1 (ob_cons h2 (ob_cons h3 (ob_cons h4 (ob_cons h5 ob_nil)))))) (by kernel_rfl) (by kernel_rfl) w).mono ?_
              rintro e w1 ⟨rfl, hb⟩; exact ⟨by simp only [paidE, h0, h1, h2, h3, h4, h5, cond_true, cond_false], hb⟩

def ψpaidE : CallF := fun f args H _ =>
  if f = 26 then match args with
    | [.agg ⟨[.int .i64 a, .int .i64 b, .int .i64 c]⟩] => some (.int .i64 (paidE a b c), H)
    | _ => none
  else none
theorem ψpaidE_spec [Inhabited RawG] : CallSpec Try.prog ψpaidE := by
  intro g av Hs lo v H1 h D ρ w args hlt hsz hav hw
  unfold ψpaidE at h
  split at h
  · rename_i hg
    subst hg
    split at h
    · cases h; exact spec_of_pure (fun w => paidE_any _ _ _ w) (by kernel_rfl) (by kernel_rfl) hsz hav hw
    · cases h
  · cases h
def ΨpaidE : CallF := orΨ ψpaidE Ψidx4E
theorem ΨpaidE_spec [Inhabited RawG] : CallSpec Try.prog ΨpaidE := orΨ_spec ψpaidE_spec Ψidx4E_spec
def rnkE (q : Nat) : Int := ((IntKind.u64.wrap (↑(BitVec.ofInt IntKind.u64.bits (↑q : Int) ^^^ BitVec.ofInt IntKind.u64.bits (IntKind.u64.wrap (↑(BitVec.ofInt IntKind.u64.bits (IntKind.u64.wrap ((IntKind.i64.wrap (↑q : Int)).fdiv 9223372036854775808)) ||| BitVec.ofInt IntKind.u64.bits 9223372036854775808).toNat : Int))).toNat : Int)))
theorem rnkE_any (q : Nat) (w : World)  : Calls Try.prog 65 #[.float .f64 q] w (fun e w1 => e = .returned (.int .u64 (rnkE q)) ∧ Below w.heap.size w w1) := by
  refine (calls_orc (call := aCall Try.prog ΨpaidE 10 100 6) (ω := []) (LF := 10) (F := 100) (av := [.float .f64 q]) (v := Value.int IntKind.u64 (IntKind.u64.wrap (↑(BitVec.ofInt IntKind.u64.bits (↑q : Int) ^^^ BitVec.ofInt IntKind.u64.bits (IntKind.u64.wrap (↑(BitVec.ofInt IntKind.u64.bits (IntKind.u64.wrap ((IntKind.i64.wrap (↑q : Int)).fdiv 9223372036854775808)) ||| BitVec.ofInt IntKind.u64.bits 9223372036854775808).toNat : Int))).toNat : Int))) (ps := []) (call_spec ΨpaidE_spec mixed 6) mixed (by kernel_rfl) ob_nil (by kernel_rfl) (by kernel_rfl) w).mono ?_
  rintro e w1 ⟨rfl, hb⟩; exact ⟨by simp only [rnkE, cond_true, cond_false], hb⟩

def ψrnkE : CallF := fun f args H _ =>
  if f = 65 then match args with
    | [.float .f64 q] => some (.int .u64 (rnkE q), H)
    | _ => none
  else none
theorem ψrnkE_spec [Inhabited RawG] : CallSpec Try.prog ψrnkE := by
  intro g av Hs lo v H1 h D ρ w args hlt hsz hav hw
  unfold ψrnkE at h
  split at h
  · rename_i hg
    subst hg
    split at h
    · cases h; exact spec_of_pure (fun w => rnkE_any _ w) (by kernel_rfl) (by kernel_rfl) hsz hav hw
    · cases h
  · cases h
def ΨrnkE : CallF := orΨ ψrnkE ΨpaidE
theorem ΨrnkE_spec [Inhabited RawG] : CallSpec Try.prog ΨrnkE := orΨ_spec ψrnkE_spec ΨpaidE_spec
def cmpE (a b : Int) : Int := (bif (a != a) then (bif (b != b) then (0) else ((-1))) else (bif (b != b) then (1) else (bif (decide (a < b)) then ((-1)) else (bif (decide (a > b)) then (1) else (0)))))
theorem cmpE_any (a b : Int) (w : World)  : Calls Try.prog 64 #[.int .u64 a, .int .u64 b] w (fun e w1 => e = .returned (.int .i64 (cmpE a b)) ∧ Below w.heap.size w w1) := by
  rcases Bool.eq_false_or_eq_true (a != a) with h0 | h0
  · rcases Bool.eq_false_or_eq_true (b != b) with h1 | h1
    · refine (calls_orc (call := aCall Try.prog ΨrnkE 10 100 6) (ω := [(448, OV.soft (Value.bool true)), (512, OV.soft (Value.bool true))]) (LF := 10) (F := 100) (av := [.int .u64 a, .int .u64 b]) (v := Value.int IntKind.i64 0) (ps := [(a != a) = true, (b != b) = true]) (call_spec ΨrnkE_spec mixed 6) mixed (by kernel_rfl) (ob_cons h0 (ob_cons h1 ob_nil)) (by kernel_rfl) (by kernel_rfl) w).mono ?_
      rintro e w1 ⟨rfl, hb⟩; exact ⟨by simp only [cmpE, h0, h1, cond_true, cond_false], hb⟩
    · refine (calls_orc (call := aCall Try.prog ΨrnkE 10 100 6) (ω := [(448, OV.soft (Value.bool true)), (512, OV.soft (Value.bool false))]) (LF := 10) (F := 100) (av := [.int .u64 a, .int .u64 b]) (v := Value.int IntKind.i64 (-1)) (ps := [(a != a) = true, (b != b) = false]) (call_spec ΨrnkE_spec mixed 6) mixed (by kernel_rfl) (ob_cons h0 (ob_cons h1 ob_nil)) (by kernel_rfl) (by kernel_rfl) w).mono ?_
      rintro e w1 ⟨rfl, hb⟩; exact ⟨by simp only [cmpE, h0, h1, cond_true, cond_false], hb⟩
  · rcases Bool.eq_false_or_eq_true (b != b) with h1 | h1
    · refine (calls_orc (call := aCall Try.prog ΨrnkE 10 100 6) (ω := [(448, OV.soft (Value.bool false)), (512, OV.soft (Value.bool true))]) (LF := 10) (F := 100) (av := [.int .u64 a, .int .u64 b]) (v := Value.int IntKind.i64 1) (ps := [(a != a) = false, (b != b) = true]) (call_spec ΨrnkE_spec mixed 6) mixed (by kernel_rfl) (ob_cons h0 (ob_cons h1 ob_nil)) (by kernel_rfl) (by kernel_rfl) w).mono ?_
      rintro e w1 ⟨rfl, hb⟩; exact ⟨by simp only [cmpE, h0, h1, cond_true, cond_false], hb⟩
    · rcases Bool.eq_false_or_eq_true (decide (a < b)) with h2 | h2
      · refine (calls_orc (call := aCall Try.prog ΨrnkE 10 100 6) (ω := [(448, OV.soft (Value.bool false)), (512, OV.soft (Value.bool false)), (704, OV.soft (Value.bool true))]) (LF := 10) (F := 100) (av := [.int .u64 a, .int .u64 b]) (v := Value.int IntKind.i64 (-1)) (ps := [(a != a) = false, (b != b) = false, decide (a < b) = true]) (call_spec ΨrnkE_spec mixed 6) mixed (by kernel_rfl) (ob_cons h0 (ob_cons h1 (ob_cons h2 ob_nil))) (by kernel_rfl) (by kernel_rfl) w).mono ?_
        rintro e w1 ⟨rfl, hb⟩; exact ⟨by simp only [cmpE, h0, h1, h2, cond_true, cond_false], hb⟩
      · rcases Bool.eq_false_or_eq_true (decide (a > b)) with h3 | h3
        · refine (calls_orc (call := aCall Try.prog ΨrnkE 10 100 6) (ω := [(448, OV.soft (Value.bool false)), (512, OV.soft (Value.bool false)), (704, OV.soft (Value.bool false)), (896, OV.soft (Value.bool true))]) (LF := 10) (F := 100) (av := [.int .u64 a, .int .u64 b]) (v := Value.int IntKind.i64 1) (ps := [(a != a) = false, (b != b) = false, decide (a < b) = false, decide (a > b) = true]) (call_spec ΨrnkE_spec mixed 6) mixed (by kernel_rfl) (ob_cons h0 (ob_cons h1 (ob_cons h2 (ob_cons h3 ob_nil)))) (by kernel_rfl) (by kernel_rfl) w).mono ?_
          rintro e w1 ⟨rfl, hb⟩; exact ⟨by simp only [cmpE, h0, h1, h2, h3, cond_true, cond_false], hb⟩
        · refine (calls_orc (call := aCall Try.prog ΨrnkE 10 100 6) (ω := [(448, OV.soft (Value.bool false)), (512, OV.soft (Value.bool false)), (704, OV.soft (Value.bool false)), (896, OV.soft (Value.bool false))]) (LF := 10) (F := 100) (av := [.int .u64 a, .int .u64 b]) (v := Value.int IntKind.i64 0) (ps := [(a != a) = false, (b != b) = false, decide (a < b) = false, decide (a > b) = false]) (call_spec ΨrnkE_spec mixed 6) mixed (by kernel_rfl) (ob_cons h0 (ob_cons h1 (ob_cons h2 (ob_cons h3 ob_nil)))) (by kernel_rfl) (by kernel_rfl) w).mono ?_
          rintro e w1 ⟨rfl, hb⟩; exact ⟨by simp only [cmpE, h0, h1, h2, h3, cond_true, cond_false], hb⟩

def ψcmpE : CallF := fun f args H _ =>
  if f = 64 then match args with
    | [.int .u64 a, .int .u64 b] => some (.int .i64 (cmpE a b), H)
    | _ => none
  else none
theorem ψcmpE_spec [Inhabited RawG] : CallSpec Try.prog ψcmpE := by
  intro g av Hs lo v H1 h D ρ w args hlt hsz hav hw
  unfold ψcmpE at h
  split at h
  · rename_i hg
    subst hg
    split at h
    · cases h; exact spec_of_pure (fun w => cmpE_any _ _ w) (by kernel_rfl) (by kernel_rfl) hsz hav hw
    · cases h
  · cases h
def ΨcmpE : CallF := orΨ ψcmpE ΨrnkE
theorem ΨcmpE_spec [Inhabited RawG] : CallSpec Try.prog ΨcmpE := orΨ_spec ψcmpE_spec ΨrnkE_spec
def partE (q : Nat) : Bool := (bif (decide (cmpE (rnkE q) 9223372036854775808 ≥ 0)) then ((FloatKind.f64.format.order q 4607182418800017408 == some Ordering.lt || FloatKind.f64.format.order q 4607182418800017408 == some Ordering.eq)) else (false))
theorem partE_any (q : Nat) (w : World)  : Calls Try.prog 25 #[.float .f64 q] w (fun e w1 => e = .returned (.bool (partE q)) ∧ Below w.heap.size w w1) := by
  rcases Bool.eq_false_or_eq_true (decide (cmpE (rnkE q) 9223372036854775808 ≥ 0)) with h0 | h0
  · refine (calls_orc (call := aCall Try.prog ΨcmpE 10 100 6) (ω := [(256, OV.soft (Value.bool true))]) (LF := 10) (F := 100) (av := [.float .f64 q]) (v := Value.bool (FloatKind.f64.format.order q 4607182418800017408 == some Ordering.lt || FloatKind.f64.format.order q 4607182418800017408 == some Ordering.eq)) (ps := [decide (cmpE (rnkE q) 9223372036854775808 ≥ 0) = true]) (call_spec ΨcmpE_spec mixed 6) mixed (by kernel_rfl) (ob_cons h0 ob_nil) (by kernel_rfl) (by kernel_rfl) w).mono ?_
    rintro e w1 ⟨rfl, hb⟩; exact ⟨by simp only [partE, h0, cond_true, cond_false], hb⟩
  · refine (calls_orc (call := aCall Try.prog ΨcmpE 10 100 6) (ω := [(256, OV.soft (Value.bool false))]) (LF := 10) (F := 100) (av := [.float .f64 q]) (v := Value.bool false) (ps := [decide (cmpE (rnkE q) 9223372036854775808 ≥ 0) = false]) (call_spec ΨcmpE_spec mixed 6) mixed (by kernel_rfl) (ob_cons h0 ob_nil) (by kernel_rfl) (by kernel_rfl) w).mono ?_
    rintro e w1 ⟨rfl, hb⟩; exact ⟨by simp only [partE, h0, cond_true, cond_false], hb⟩

def ψpartE : CallF := fun f args H _ =>
  if f = 25 then match args with
    | [.float .f64 q] => some (.bool (partE q), H)
    | _ => none
  else none
theorem ψpartE_spec [Inhabited RawG] : CallSpec Try.prog ψpartE := by
  intro g av Hs lo v H1 h D ρ w args hlt hsz hav hw
  unfold ψpartE at h
  split at h
  · rename_i hg
    subst hg
    split at h
    · cases h; exact spec_of_pure (fun w => partE_any _ w) (by kernel_rfl) (by kernel_rfl) hsz hav hw
    · cases h
  · cases h
def ΨpartE : CallF := orΨ ψpartE ΨcmpE
theorem ΨpartE_spec [Inhabited RawG] : CallSpec Try.prog ΨpartE := orΨ_spec ψpartE_spec ΨcmpE_spec
end Go.Proofs.Ytkdalfdfepipiaa
