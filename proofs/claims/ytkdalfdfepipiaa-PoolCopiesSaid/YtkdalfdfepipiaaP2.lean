/- Pool: bytes of names and hosts; printed by a program of mine. -/
import Derived.Test.YtkdalfdfepipiaaP1
import Derived.Test.YtkdalfdfepipiaaX17
import Derived.KernelRfl
namespace Go.Proofs.Ytkdalfdfepipiaa
open Go.RowKit
set_option linter.unusedSimpArgs false
set_option linter.unusedVariables false
set_option linter.unusedSectionVars false
set_option maxRecDepth 100000
def smallB (c : Int) : Bool := (bif (decide (c ≥ 97)) then ((decide (c ≤ 122))) else (false))
theorem smallB_any (c : Int) (w : World)  : Calls Try.prog 41 #[.int .u8 c] w (fun e w1 => e = .returned (.bool (smallB c)) ∧ Below w.heap.size w w1) := by
  rcases Bool.eq_false_or_eq_true (decide (c ≥ 97)) with h0 | h0
  · refine (calls_orc (call := aCall Try.prog (fun _ _ _ _ => none) 10 100 6) (ω := [(192, OV.soft (Value.bool true))]) (LF := 10) (F := 100) (av := [.int .u8 c]) (v := Value.bool (decide (c ≤ 122))) (ps := [decide (c ≥ 97) = true]) (call_spec none_spec mixed 6) mixed (by kernel_rfl) (ob_cons h0 ob_nil) (by kernel_rfl) (by kernel_rfl) w).mono ?_
    rintro e w1 ⟨rfl, hb⟩; exact ⟨by simp only [smallB, h0, cond_true, cond_false], hb⟩
  · refine (calls_orc (call := aCall Try.prog (fun _ _ _ _ => none) 10 100 6) (ω := [(192, OV.soft (Value.bool false))]) (LF := 10) (F := 100) (av := [.int .u8 c]) (v := Value.bool false) (ps := [decide (c ≥ 97) = false]) (call_spec none_spec mixed 6) mixed (by kernel_rfl) (ob_cons h0 ob_nil) (by kernel_rfl) (by kernel_rfl) w).mono ?_
    rintro e w1 ⟨rfl, hb⟩; exact ⟨by simp only [smallB, h0, cond_true, cond_false], hb⟩

def ψsmallB : CallF := fun f args H _ =>
  if f = 41 then match args with
    | [.int .u8 c] => some (.bool (smallB c), H)
    | _ => none
  else none
theorem ψsmallB_spec [Inhabited RawG] : CallSpec Try.prog ψsmallB := by
  intro g av Hs lo v H1 h D ρ w args hlt hsz hav hw
  unfold ψsmallB at h
  split at h
  · rename_i hg
    subst hg
    split at h
    · cases h; exact spec_of_pure (fun w => smallB_any _ w) (by kernel_rfl) (by kernel_rfl) hsz hav hw
    · cases h
  · cases h
def ΨsmallB : CallF := orΨ ψsmallB (fun _ _ _ _ => none)
theorem ΨsmallB_spec [Inhabited RawG] : CallSpec Try.prog ΨsmallB := orΨ_spec ψsmallB_spec none_spec
def digitB (c : Int) : Bool := (bif (decide (c ≥ 48)) then ((decide (c ≤ 57))) else (false))
theorem digitB_any (c : Int) (w : World)  : Calls Try.prog 42 #[.int .u8 c] w (fun e w1 => e = .returned (.bool (digitB c)) ∧ Below w.heap.size w w1) := by
  rcases Bool.eq_false_or_eq_true (decide (c ≥ 48)) with h0 | h0
  · refine (calls_orc (call := aCall Try.prog ΨsmallB 10 100 6) (ω := [(192, OV.soft (Value.bool true))]) (LF := 10) (F := 100) (av := [.int .u8 c]) (v := Value.bool (decide (c ≤ 57))) (ps := [decide (c ≥ 48) = true]) (call_spec ΨsmallB_spec mixed 6) mixed (by kernel_rfl) (ob_cons h0 ob_nil) (by kernel_rfl) (by kernel_rfl) w).mono ?_
    rintro e w1 ⟨rfl, hb⟩; exact ⟨by simp only [digitB, h0, cond_true, cond_false], hb⟩
  · refine (calls_orc (call := aCall Try.prog ΨsmallB 10 100 6) (ω := [(192, OV.soft (Value.bool false))]) (LF := 10) (F := 100) (av := [.int .u8 c]) (v := Value.bool false) (ps := [decide (c ≥ 48) = false]) (call_spec ΨsmallB_spec mixed 6) mixed (by kernel_rfl) (ob_cons h0 ob_nil) (by kernel_rfl) (by kernel_rfl) w).mono ?_
    rintro e w1 ⟨rfl, hb⟩; exact ⟨by simp only [digitB, h0, cond_true, cond_false], hb⟩

def ψdigitB : CallF := fun f args H _ =>
  if f = 42 then match args with
    | [.int .u8 c] => some (.bool (digitB c), H)
    | _ => none
  else none
theorem ψdigitB_spec [Inhabited RawG] : CallSpec Try.prog ψdigitB := by
  intro g av Hs lo v H1 h D ρ w args hlt hsz hav hw
  unfold ψdigitB at h
  split at h
  · rename_i hg
    subst hg
    split at h
    · cases h; exact spec_of_pure (fun w => digitB_any _ w) (by kernel_rfl) (by kernel_rfl) hsz hav hw
    · cases h
  · cases h
def ΨdigitB : CallF := orΨ ψdigitB ΨsmallB
theorem ΨdigitB_spec [Inhabited RawG] : CallSpec Try.prog ΨdigitB := orΨ_spec ψdigitB_spec ΨsmallB_spec
def hostB (c : Int) : Bool := (bif (smallB c) then (true) else (bif (digitB c) then (true) else (bif (c == 45) then (true) else ((c == 46)))))
theorem hostB_any (c : Int) (w : World)  : Calls Try.prog 40 #[.int .u8 c] w (fun e w1 => e = .returned (.bool (hostB c)) ∧ Below w.heap.size w w1) := by
  rcases Bool.eq_false_or_eq_true (smallB c) with h0 | h0
  · refine (calls_orc (call := aCall Try.prog ΨdigitB 10 100 6) (ω := [(192, OV.soft (Value.bool true))]) (LF := 10) (F := 100) (av := [.int .u8 c]) (v := Value.bool true) (ps := [smallB c = true]) (call_spec ΨdigitB_spec mixed 6) mixed (by kernel_rfl) (ob_cons h0 ob_nil) (by kernel_rfl) (by kernel_rfl) w).mono ?_
    rintro e w1 ⟨rfl, hb⟩; exact ⟨by simp only [hostB, h0, cond_true, cond_false], hb⟩
  · rcases Bool.eq_false_or_eq_true (digitB c) with h1 | h1
    · refine (calls_orc (call := aCall Try.prog ΨdigitB 10 100 6) (ω := [(192, OV.soft (Value.bool false)), (448, OV.soft (Value.bool true))]) (LF := 10) (F := 100) (av := [.int .u8 c]) (v := Value.bool true) (ps := [smallB c = false, digitB c = true]) (call_spec ΨdigitB_spec mixed 6) mixed (by kernel_rfl) (ob_cons h0 (ob_cons h1 ob_nil)) (by kernel_rfl) (by kernel_rfl) w).mono ?_
      rintro e w1 ⟨rfl, hb⟩; exact ⟨by simp only [hostB, h0, h1, cond_true, cond_false], hb⟩
    · rcases Bool.eq_false_or_eq_true (c == 45) with h2 | h2
      · refine (calls_orc (call := aCall Try.prog ΨdigitB 10 100 6) (ω := [(192, OV.soft (Value.bool false)), (448, OV.soft (Value.bool false)), (704, OV.soft (Value.bool true))]) (LF := 10) (F := 100) (av := [.int .u8 c]) (v := Value.bool true) (ps := [smallB c = false, digitB c = false, (c == 45) = true]) (call_spec ΨdigitB_spec mixed 6) mixed (by kernel_rfl) (ob_cons h0 (ob_cons h1 (ob_cons h2 ob_nil))) (by kernel_rfl) (by kernel_rfl) w).mono ?_
        rintro e w1 ⟨rfl, hb⟩; exact ⟨by simp only [hostB, h0, h1, h2, cond_true, cond_false], hb⟩
      · refine (calls_orc (call := aCall Try.prog ΨdigitB 10 100 6) (ω := [(192, OV.soft (Value.bool false)), (448, OV.soft (Value.bool false)), (704, OV.soft (Value.bool false))]) (LF := 10) (F := 100) (av := [.int .u8 c]) (v := Value.bool (c == 46)) (ps := [smallB c = false, digitB c = false, (c == 45) = false]) (call_spec ΨdigitB_spec mixed 6) mixed (by kernel_rfl) (ob_cons h0 (ob_cons h1 (ob_cons h2 ob_nil))) (by kernel_rfl) (by kernel_rfl) w).mono ?_
        rintro e w1 ⟨rfl, hb⟩; exact ⟨by simp only [hostB, h0, h1, h2, cond_true, cond_false], hb⟩

def ψhostB : CallF := fun f args H _ =>
  if f = 40 then match args with
    | [.int .u8 c] => some (.bool (hostB c), H)
    | _ => none
  else none
theorem ψhostB_spec [Inhabited RawG] : CallSpec Try.prog ψhostB := by
  intro g av Hs lo v H1 h D ρ w args hlt hsz hav hw
  unfold ψhostB at h
  split at h
  · rename_i hg
    subst hg
    split at h
    · cases h; exact spec_of_pure (fun w => hostB_any _ w) (by kernel_rfl) (by kernel_rfl) hsz hav hw
    · cases h
  · cases h
def ΨhostB : CallF := orΨ ψhostB ΨdigitB
theorem ΨhostB_spec [Inhabited RawG] : CallSpec Try.prog ΨhostB := orΨ_spec ψhostB_spec ΨdigitB_spec
def nameB (c : Int) : Bool := (bif (smallB c) then (true) else (bif (smallB (IntKind.u8.wrap (↑(BitVec.ofInt IntKind.u8.bits c ||| BitVec.ofInt IntKind.u8.bits 32).toNat : Int))) then (bif (decide (c ≥ 65)) then (true) else (bif (digitB c) then (true) else (bif (c == 45) then (true) else ((c == 95))))) else (bif (digitB c) then (true) else (bif (c == 45) then (true) else ((c == 95))))))
theorem nameB_any (c : Int) (w : World)  : Calls Try.prog 43 #[.int .u8 c] w (fun e w1 => e = .returned (.bool (nameB c)) ∧ Below w.heap.size w w1) := by
  rcases Bool.eq_false_or_eq_true (smallB c) with h0 | h0
  · refine (calls_orc (call := aCall Try.prog ΨhostB 10 100 6) (ω := [(192, OV.soft (Value.bool true))]) (LF := 10) (F := 100) (av := [.int .u8 c]) (v := Value.bool true) (ps := [smallB c = true]) (call_spec ΨhostB_spec mixed 6) mixed (by kernel_rfl) (ob_cons h0 ob_nil) (by kernel_rfl) (by kernel_rfl) w).mono ?_
    rintro e w1 ⟨rfl, hb⟩; exact ⟨by simp only [nameB, h0, cond_true, cond_false], hb⟩
  · rcases Bool.eq_false_or_eq_true (smallB (IntKind.u8.wrap (↑(BitVec.ofInt IntKind.u8.bits c ||| BitVec.ofInt IntKind.u8.bits 32).toNat : Int))) with h1 | h1
    · rcases Bool.eq_false_or_eq_true (decide (c ≥ 65)) with h2 | h2
      · refine (calls_orc (call := aCall Try.prog ΨhostB 10 100 6) (ω := [(192, OV.soft (Value.bool false)), (448, OV.soft (Value.bool true)), (768, OV.soft (Value.bool true))]) (LF := 10) (F := 100) (av := [.int .u8 c]) (v := Value.bool true) (ps := [smallB c = false, smallB (IntKind.u8.wrap (↑(BitVec.ofInt IntKind.u8.bits c ||| BitVec.ofInt IntKind.u8.bits 32).toNat : Int)) = true, decide (c ≥ 65) = true]) (call_spec ΨhostB_spec mixed 6) mixed (by kernel_rfl) (ob_cons h0 (ob_cons h1 (ob_cons h2 ob_nil))) (by kernel_rfl) (by kernel_rfl) w).mono ?_
        rintro e w1 ⟨rfl, hb⟩; exact ⟨by simp only [nameB, h0, h1, h2, cond_true, cond_false], hb⟩
      · rcases Bool.eq_false_or_eq_true (digitB c) with h3 | h3
        · refine (calls_orc (call := aCall Try.prog ΨhostB 10 100 6) (ω := [(192, OV.soft (Value.bool false)), (448, OV.soft (Value.bool true)), (768, OV.soft (Value.bool false)), (1024, OV.soft (Value.bool true))]) (LF := 10) (F := 100) (av := [.int .u8 c]) (v := Value.bool true) (ps := [smallB c = false, smallB (IntKind.u8.wrap (↑(BitVec.ofInt IntKind.u8.bits c ||| BitVec.ofInt IntKind.u8.bits 32).toNat : Int)) = true, decide (c ≥ 65) = false, digitB c = true]) (call_spec ΨhostB_spec mixed 6) mixed (by kernel_rfl) (ob_cons h0 (ob_cons h1 (ob_cons h2 (ob_cons h3 ob_nil)))) (by kernel_rfl) (by kernel_rfl) w).mono ?_
          rintro e w1 ⟨rfl, hb⟩; exact ⟨by simp only [nameB, h0, h1, h2, h3, cond_true, cond_false], hb⟩
        · rcases Bool.eq_false_or_eq_true (c == 45) with h4 | h4
          · refine (calls_orc (call := aCall Try.prog ΨhostB 10 100 6) (ω := [(192, OV.soft (Value.bool false)), (448, OV.soft (Value.bool true)), (768, OV.soft (Value.bool false)), (1024, OV.soft (Value.bool false)), (1280, OV.soft (Value.bool true))]) (LF := 10) (F := 100) (av := [.int .u8 c]) (v := Value.bool true) (ps := [smallB c = false, smallB (IntKind.u8.wrap (↑(BitVec.ofInt IntKind.u8.bits c ||| BitVec.ofInt IntKind.u8.bits 32).toNat : Int)) = true, decide (c ≥ 65) = false, digitB c = false, (c == 45) = true]) (call_spec ΨhostB_spec mixed 6) mixed (by kernel_rfl) (ob_cons h0 (ob_cons h1 (ob_cons h2 (ob_cons h3 (ob_cons h4 ob_nil))))) (by kernel_rfl) (by kernel_rfl) w).mono ?_
            rintro e w1 ⟨rfl, hb⟩; exact ⟨by simp only [nameB, h0, h1, h2, h3, h4, cond_true, cond_false], hb⟩
          · refine (calls_orc (call := aCall Try.prog ΨhostB 10 100 6) (ω := [(192, OV.soft (Value.bool false)), (448, OV.soft (Value.bool true)), (768, OV.soft (Value.bool false)), (1024, OV.soft (Value.bool false)), (1280, OV.soft (Value.bool false))]) (LF := 10) (F := 100) (av := [.int .u8 c]) (v := Value.bool (c == 95)) (ps := [smallB c = false, smallB (IntKind.u8.wrap (↑(BitVec.ofInt IntKind.u8.bits c ||| BitVec.ofInt IntKind.u8.bits 32).toNat : Int)) = true, decide (c ≥ 65) = false, digitB c = false, (c == 45) = false]) (call_spec ΨhostB_spec mixed 6) mixed (by kernel_rfl) (ob_cons h0 (ob_cons h1 (ob_cons h2 (ob_cons h3 (ob_cons h4 ob_nil))))) (by kernel_rfl) (by kernel_rfl) w).mono ?_
            rintro e w1 ⟨rfl, hb⟩; exact ⟨by simp only [nameB, h0, h1, h2, h3, h4, cond_true, cond_false], hb⟩
    · rcases Bool.eq_false_or_eq_true (digitB c) with h2 | h2
      · refine (calls_orc (call := aCall Try.prog ΨhostB 10 100 6) (ω := [(192, OV.soft (Value.bool false)), (448, OV.soft (Value.bool false)), (1024, OV.soft (Value.bool true))]) (LF := 10) (F := 100) (av := [.int .u8 c]) (v := Value.bool true) (ps := [smallB c = false, smallB (IntKind.u8.wrap (↑(BitVec.ofInt IntKind.u8.bits c ||| BitVec.ofInt IntKind.u8.bits 32).toNat : Int)) = false, digitB c = true]) (call_spec ΨhostB_spec mixed 6) mixed (by kernel_rfl) (ob_cons h0 (ob_cons h1 (ob_cons h2 ob_nil))) (by kernel_rfl) (by kernel_rfl) w).mono ?_
        rintro e w1 ⟨rfl, hb⟩; exact ⟨by simp only [nameB, h0, h1, h2, cond_true, cond_false], hb⟩
      · rcases Bool.eq_false_or_eq_true (c == 45) with h3 | h3
        · refine (calls_orc (call := aCall Try.prog ΨhostB 10 100 6) (ω := [(192, OV.soft (Value.bool false)), (448, OV.soft (Value.bool false)), (1024, OV.soft (Value.bool false)), (1280, OV.soft (Value.bool true))]) (LF := 10) (F := 100) (av := [.int .u8 c]) (v := Value.bool true) (ps := [smallB c = false, smallB (IntKind.u8.wrap (↑(BitVec.ofInt IntKind.u8.bits c ||| BitVec.ofInt IntKind.u8.bits 32).toNat : Int)) = false, digitB c = false, (c == 45) = true]) (call_spec ΨhostB_spec mixed 6) mixed (by kernel_rfl) (ob_cons h0 (ob_cons h1 (ob_cons h2 (ob_cons h3 ob_nil)))) (by kernel_rfl) (by kernel_rfl) w).mono ?_
          rintro e w1 ⟨rfl, hb⟩; exact ⟨by simp only [nameB, h0, h1, h2, h3, cond_true, cond_false], hb⟩
        · refine (calls_orc (call := aCall Try.prog ΨhostB 10 100 6) (ω := [(192, OV.soft (Value.bool false)), (448, OV.soft (Value.bool false)), (1024, OV.soft (Value.bool false)), (1280, OV.soft (Value.bool false))]) (LF := 10) (F := 100) (av := [.int .u8 c]) (v := Value.bool (c == 95)) (ps := [smallB c = false, smallB (IntKind.u8.wrap (↑(BitVec.ofInt IntKind.u8.bits c ||| BitVec.ofInt IntKind.u8.bits 32).toNat : Int)) = false, digitB c = false, (c == 45) = false]) (call_spec ΨhostB_spec mixed 6) mixed (by kernel_rfl) (ob_cons h0 (ob_cons h1 (ob_cons h2 (ob_cons h3 ob_nil)))) (by kernel_rfl) (by kernel_rfl) w).mono ?_
          rintro e w1 ⟨rfl, hb⟩; exact ⟨by simp only [nameB, h0, h1, h2, h3, cond_true, cond_false], hb⟩

def ψnameB : CallF := fun f args H _ =>
  if f = 43 then match args with
    | [.int .u8 c] => some (.bool (nameB c), H)
    | _ => none
  else none
theorem ψnameB_spec [Inhabited RawG] : CallSpec Try.prog ψnameB := by
  intro g av Hs lo v H1 h D ρ w args hlt hsz hav hw
  unfold ψnameB at h
  split at h
  · rename_i hg
    subst hg
    split at h
    · cases h; exact spec_of_pure (fun w => nameB_any _ w) (by kernel_rfl) (by kernel_rfl) hsz hav hw
    · cases h
  · cases h
def ΨnameB : CallF := orΨ ψnameB ΨhostB
theorem ΨnameB_spec [Inhabited RawG] : CallSpec Try.prog ΨnameB := orΨ_spec ψnameB_spec ΨhostB_spec
end Go.Proofs.Ytkdalfdfepipiaa
