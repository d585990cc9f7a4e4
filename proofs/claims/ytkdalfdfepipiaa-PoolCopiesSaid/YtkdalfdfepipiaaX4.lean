/-
  The engine, fourth part: places, slices of slices, parts of values, lengths, nil.
-/
import Derived.Test.YtkdalfdfepipiaaX3
namespace Go.Proofs.Ytkdalfdfepipiaa
set_option linter.unusedSectionVars false
open Go.RowKit
set_option linter.unusedVariables false
variable [Inhabited RawG]

section
variable {P : Program} {D : Nat → Prop} {ρ : Nat → Pl} {h : HF} {w : World} {o : Oper} {ev : Operand → Value} {H : Heap} {d : Did}

def aFieldAddr (P : Program) (ev : Operand → Value) (s : TypeId) (x : Operand) (f : Nat) : Option Did :=
  match ev x, P.underlying s with
  | .pointer (some ⟨b, o, none⟩), some (.struct fs) => match fs[f]? with
    | some fd => match peval P (sizeOf fd.type) with
      | some n => if 0 < n then some ⟨.pointer (some ⟨b, o + fd.offset, none⟩), [], [], []⟩ else none
      | none => none
    | none => none
  | .pointer (some ⟨b, o, some 2⟩), some (.struct fs) => match fs[f]? with
    | some fd => match peval P (sizeOf fd.type) with
      | some n => if 0 < n then some ⟨.pointer (some ⟨b, o + fd.offset, some 2⟩), [], [], []⟩ else none
      | none => none
    | none => none
  | _, _ => none
theorem aFieldAddr_ok {s : TypeId} {x : Operand} {f : Nat} (ho : o.op = .fieldAddr s x f) (hd : aFieldAddr P ev s x f = some d) : OpOK P o ev h d := by
  unfold aFieldAddr at hd
  split at hd
  · rename_i b off fs hx hu
    split at hd
    · rename_i fd hf
      split at hd
      · rename_i n hn
        split at hd
        · rename_i hpos
          cases hd
          refine opOK_still fun D ρ w a hv hw => ?_
          have h1 := hv x (by simp [ho, Op.operands])
          rw [hx] at h1
          obtain ⟨hD, h2⟩ := h1.ptr_inv
          refine ⟨.pointer (some ⟨(ρ b).blk, (ρ b).off + (off + fd.offset), none⟩), ?_, .ptr b _ hD⟩
          simp [execOp, ho, h2, Instr.fieldAt, Instr.sureAddr, Sem.run_bind, run_underlying hu w, hf, fieldPlace, run_of_peval hn w, show n ≠ 0 by omega, addr_add, Nat.add_assoc]
        · cases hd
      · cases hd
    · cases hd
  · rename_i b off fs hx hu
    split at hd
    · rename_i fd hf
      split at hd
      · rename_i n hn
        split at hd
        · rename_i hpos
          cases hd
          refine opOK_still fun D ρ w a hv hw => ?_
          have h1 := hv x (by simp [ho, Op.operands])
          rw [hx] at h1
          obtain ⟨q, hq, h2⟩ := h1.opp_inv
          refine ⟨.pointer (some ⟨q.block, q.off + (off + fd.offset), none⟩), ?_, .opp b _ q hq⟩
          simp [execOp, ho, h2, Instr.fieldAt, Instr.sureAddr, Sem.run_bind, run_underlying hu w, hf, fieldPlace, run_of_peval hn w, show n ≠ 0 by omega, addr_add, Nat.add_assoc]
        · cases hd
      · cases hd
    · cases hd
  · cases hd

def aIndexAddr (P : Program) (ev : Operand → Value) (t : TypeId) (x ix : Operand) : Option Did :=
  match ev ix with
  | .int _ i =>
    match P.underlying t, ev x with
    | some (.slice e), .slice (some ⟨b, o, none⟩) len _ => match peval P (sizeOf e) with
      | some n => if 0 ≤ i ∧ i < len then some ⟨.pointer (some ⟨b, o + i.toNat * n, none⟩), [], [], []⟩ else none
      | none => none
    | some (.slice e), .slice (some ⟨b, o, some 2⟩) len _ => match peval P (sizeOf e) with
      | some n => if 0 ≤ i ∧ i < len then some ⟨.pointer (some ⟨b, o + i.toNat * n, some 2⟩), [], [], []⟩ else none
      | none => none
    | some (.array len e), .pointer (some ⟨b, o, none⟩) => match peval P (sizeOf e) with
      | some n => if 0 ≤ i ∧ i < len then some ⟨.pointer (some ⟨b, o + i.toNat * n, none⟩), [], [], []⟩ else none
      | none => none
    | _, _ => none
  | _ => none
theorem addr_add' (a : Addr) (hs : a.spot = none) (j : Nat) : a.add j = ⟨a.block, a.off + j, none⟩ := by
  obtain ⟨b, o, s⟩ := a
  simp only at hs
  subst hs
  exact addr_add b o j
theorem aIndexAddr_ok {t : TypeId} {x ix : Operand} (ho : o.op = .indexAddr t x ix) (hd : aIndexAddr P ev t x ix = some d) : OpOK P o ev h d := by
  unfold aIndexAddr at hd
  split at hd
  · rename_i k i hix
    split at hd
    · rename_i e b off len cap hu hx
      split at hd
      · rename_i n hn
        split at hd
        · rename_i hi
          cases hd
          refine opOK_still fun D ρ w a hv hw => ?_
          have h1 := hv x (by simp [ho, Op.operands])
          have h3 := hv ix (by simp [ho, Op.operands])
          rw [hx] at h1
          rw [hix] at h3
          have h4 := h3.int_inv
          obtain ⟨hD, cap', h2, _⟩ := h1.slice_inv
          refine ⟨.pointer (some ⟨(ρ b).blk, (ρ b).off + (off + i.toNat * n), none⟩), ?_, .ptr b _ hD⟩
          simp [execOp, ho, h2, h4, Instr.indexAt, asIntOf, Sem.run_bind, run_underlying hu w, hi, run_of_peval hn w, addr_add, Nat.add_assoc]
        · cases hd
      · cases hd
    · rename_i e b off len cap hu hx
      split at hd
      · rename_i n hn
        split at hd
        · rename_i hi
          cases hd
          refine opOK_still fun D ρ w a hv hw => ?_
          have h1 := hv x (by simp [ho, Op.operands])
          have h3 := hv ix (by simp [ho, Op.operands])
          rw [hx] at h1
          rw [hix] at h3
          have h4 := h3.int_inv
          obtain ⟨hl, h2, rfl⟩ := h1.opq_inv
          obtain ⟨q, hq, hs⟩ := hw.raw.addr (i := b) (by omega)
          rw [hq] at h2
          refine ⟨.pointer (some ⟨q.block, q.off + (0 + i.toNat * n), none⟩), ?_, .opp b _ q hq⟩
          simp [execOp, ho, h2, h4, Instr.indexAt, asIntOf, Sem.run_bind, run_underlying hu w, hi, run_of_peval hn w, addr_add' q hs, Nat.add_assoc]
        · cases hd
      · cases hd
    · rename_i len e b off hu hx
      split at hd
      · rename_i n hn
        split at hd
        · rename_i hi
          cases hd
          refine opOK_still fun D ρ w a hv hw => ?_
          have h1 := hv x (by simp [ho, Op.operands])
          have h3 := hv ix (by simp [ho, Op.operands])
          rw [hx] at h1
          rw [hix] at h3
          have h4 := h3.int_inv
          obtain ⟨hD, h2⟩ := h1.ptr_inv
          refine ⟨.pointer (some ⟨(ρ b).blk, (ρ b).off + (off + i.toNat * n), none⟩), ?_, .ptr b _ hD⟩
          simp [execOp, ho, h2, h4, Instr.indexAt, Instr.sureAddr, asIntOf, Sem.run_bind, run_underlying hu w, hi, run_of_peval hn w, addr_add, Nat.add_assoc]
        · cases hd
      · cases hd
    · cases hd
  · cases hd

/-! parts of values -/
def aExtract (ev : Operand → Value) (x : Operand) (i : Nat) : Option Did :=
  match ev x with
  | .tuple vs => match vs[i]? with
    | some v => some ⟨v, [], [], []⟩
    | none => none
  | _ => none
theorem aExtract_ok {x : Operand} {i : Nat} (ho : o.op = .extract x i) (hd : aExtract ev x i = some d) : OpOK P o ev h d := by
  unfold aExtract at hd
  split at hd
  · rename_i vs hx
    split at hd
    · rename_i v hi
      cases hd
      refine opOK_still fun D ρ w a hv hw => ?_
      have h1 := hv x (by simp [ho, Op.operands])
      rw [hx] at h1
      obtain ⟨ys, h2, hs, hg⟩ := h1.tuple_inv
      obtain ⟨u, hu, hr⟩ := VR.get? hs hg hi
      refine ⟨u, ?_, hr⟩
      simp [execOp, ho, h2, Instr.extract, hu, Sem.run_bind]
    · cases hd
  · cases hd
theorem extract_getD {xs : Array Value} {a b i : Nat} (hb : b ≤ xs.size) : (xs.extract a b).getD i undef = if a + i < b then xs.getD (a + i) undef else undef := by
  by_cases hi : a + i < b
  · have h1 : i < (xs.extract a b).size := by simp; omega
    rw [if_pos hi]
    simp only [Array.getD, h1, dite_true, show a + i < xs.size by omega, Array.getInternal_eq_getElem]
    simp
  · have h1 : ¬ i < (xs.extract a b).size := by simp; omega
    rw [if_neg hi]
    simp only [Array.getD, h1, dite_false]
def aField (P : Program) (ev : Operand → Value) (t : TypeId) (x : Operand) (f : Nat) : Option Did :=
  match ev x, P.underlying t with
  | .agg cs, some (.struct fs) => match fs[f]? with
    | some fd => match peval P (isAgg fd.type), peval P (sizeOf fd.type) with
      | some true, some n => if fd.offset + n ≤ cs.size then some ⟨.agg (cs.extract fd.offset (fd.offset + n)), [], [], []⟩ else none
      | some false, _ => match cs[fd.offset]? with
        | some v => some ⟨v, [], [], []⟩
        | none => none
      | _, _ => none
    | none => none
  | _, _ => none
theorem aField_ok {t : TypeId} {x : Operand} {f : Nat} (ho : o.op = .field t x f) (hd : aField P ev t x f = some d) : OpOK P o ev h d := by
  unfold aField at hd
  split at hd
  · rename_i cs fs hx hu
    split at hd
    · rename_i fd hf
      split at hd
      · rename_i n ha hn
        split at hd
        · rename_i hl
          cases hd
          refine opOK_still fun D ρ w a hv hw => ?_
          have h1 := hv x (by simp [ho, Op.operands])
          rw [hx] at h1
          obtain ⟨ys, h2, hs, hg⟩ := h1.agg_inv
          refine ⟨.agg (ys.extract fd.offset (fd.offset + n)), ?_, .agg _ _ (by simp [hs]) fun i => ?_⟩
          · simp [execOp, ho, h2, Instr.field, asAgg, part, Sem.run_bind, run_underlying hu w, hf, run_of_peval ha w, run_of_peval hn w]
          · rw [extract_getD hl, extract_getD (hs ▸ hl)]
            split
            · exact hg _
            · exact .und
        · cases hd
      · rename_i ha
        split at hd
        · rename_i v hv0
          cases hd
          refine opOK_still fun D ρ w a hv hw => ?_
          have h1 := hv x (by simp [ho, Op.operands])
          rw [hx] at h1
          obtain ⟨ys, h2, hs, hg⟩ := h1.agg_inv
          obtain ⟨u, hu', hr⟩ := VR.get? hs hg hv0
          refine ⟨u, ?_, hr⟩
          simp [execOp, ho, h2, Instr.field, asAgg, part, Sem.run_bind, run_underlying hu w, hf, run_of_peval ha w, hu']
        · cases hd
      · cases hd
    · cases hd
  · cases hd

/-! functions -/
theorem map_getD (xs : Array Operand) (f : Operand → Value) (i : Nat) : (xs.map f).getD i undef = if hi : i < xs.size then f xs[i] else undef := by
  by_cases hi : i < xs.size
  · simp [Array.getD, hi]
  · simp [Array.getD, hi]
theorem map_vr {xs : Array Operand} {f g : Operand → Value} (hv : ∀ x ∈ xs, VR D ρ (f x) (g x)) (i : Nat) : VR D ρ ((xs.map f).getD i undef) ((xs.map g).getD i undef) := by
  rw [map_getD, map_getD]
  split
  · exact hv _ (Array.getElem_mem _)
  · exact .und
theorem aMakeFunc_ok {fn : Fn} {first cap : Array Operand} (ho : o.op = .makeFunc fn first cap) : OpOK P o ev h ⟨.func fn (first.map ev) (cap.map ev), [], [], []⟩ := by
  refine opOK_still fun D ρ w a hv hw => ⟨.func fn (first.map a.eval) (cap.map a.eval), ?_, .func _ _ _ _ _ (by simp) (by simp) (map_vr fun x hx => hv x (by simp [ho, Op.operands, hx])) (map_vr fun x hx => hv x (by simp [ho, Op.operands, hx]))⟩
  simp [execOp, ho, Instr.makeFunc, Sem.run_bind]

/-! lengths -/
def aLen (P : Program) (ev : Operand → Value) (t : TypeId) (x : Operand) : Option Did :=
  match P.underlying t, ev x with
  | some (.slice _), .slice (some _) n _ => some ⟨.int .i64 n, [], [], []⟩
  | _, _ => none
theorem aLen_ok {t : TypeId} {x : Operand} (ho : o.op = .call { callee := .builtin .len, args := #[x], argTypes := #[t] }) (hd : aLen P ev t x = some d) : OpOK P o ev h d := by
  unfold aLen at hd
  split at hd
  · rename_i e a0 n c hu hx
    cases hd
    refine opOK_still fun D ρ w a hv hw => ?_
    have h1 := hv x (by simp [ho, Op.operands, Call.operands])
    rw [hx] at h1
    obtain ⟨a', cap', h2⟩ := h1.len_inv
    refine ⟨.int .i64 n, ?_, .scal _ rfl⟩
    simp [execOp, ho, resolve, invoke, builtin, Builtin.len_, h2, Sem.run_bind, run_underlying hu w, goInt]
  · cases hd

/-! nil -/
def notOpq : Addr → Bool
  | ⟨_, _, some 2⟩ => false
  | _ => true
def someNil (P : Program) (t : TypeId) (x y : Value) : Bool :=
  match P.underlying t, x, y with
  | some (.pointer _), .pointer (some _), .pointer none => true
  | some (.pointer _), .pointer none, .pointer (some _) => true
  | some (.slice _), .slice (some a) _ _, .slice none _ _ => notOpq a
  | some (.slice _), .slice none _ _, .slice (some a) _ _ => notOpq a
  | some (.func _ _ _), .func _ _ _, .nilFunc => true
  | some (.func _ _ _), .nilFunc, .func _ _ _ => true
  | _, _, _ => false
def aNil (P : Program) (ev : Operand → Value) (op : BinOp) (t : TypeId) (x y : Operand) : Option Did :=
  if someNil P t (ev x) (ev y) then
    match op with
    | .eql => some ⟨.bool false, [], [], []⟩
    | .neq => some ⟨.bool true, [], [], []⟩
    | _ => none
  else none
theorem run_equal_nil {t : TypeId} {x y u v : Value} (hs : someNil P t x y = true) (hx : VR D ρ x u) (hy : VR D ρ y v) (w : World) : (∀ n, (Op.equalIn (n + 1) t u v).run P w = .ok false w) ∧
    (∀ op xo yo, (eqGuard op t xo yo u v).run P w = .ok () w) ∧ (binOp .eql t u v = (do pure (.bool (← Op.equal t u v)))) ∧ (binOp .neq t u v = (do pure (.bool (!(← Op.equal t u v))))) := by
  unfold someNil at hs
  split at hs
  all_goals first
    | (rename_i hu; cases hy.flat0_eq rfl; cases hx <;> first | (rename_i hh; simp [flat0] at hh; done) | (cases hs; done) | skip
       all_goals
         refine ⟨fun n => ?_, fun op xo yo => ?_, rfl, rfl⟩
         · simp [Op.equalIn, Sem.run_bind, run_underlying hu w]
         · unfold eqGuard; cases op <;> simp [Sem.run_bind])
    | (rename_i hu; cases hx.flat0_eq rfl; cases hy <;> first | (rename_i hh; simp [flat0] at hh; done) | (cases hs; done) | skip
       all_goals
         refine ⟨fun n => ?_, fun op xo yo => ?_, rfl, rfl⟩
         · simp [Op.equalIn, Sem.run_bind, run_underlying hu w]
         · unfold eqGuard; cases op <;> simp [Sem.run_bind])
    | cases hs
theorem aNil_ok {op : BinOp} {t yt : TypeId} {x y : Operand} (ho : o.op = .binOp op t x y yt) (hd : aNil P ev op t x y = some d) : OpOK P o ev h d := by
  unfold aNil at hd
  split at hd
  · rename_i hs
    split at hd
    · cases hd
      refine opOK_still fun D ρ w a hv hw => ⟨.bool false, ?_, .scal _ rfl⟩
      obtain ⟨h1, h2, h3, h4⟩ := run_equal_nil hs (hv x (by simp [ho, Op.operands])) (hv y (by simp [ho, Op.operands])) w
      have h5 : (Op.equal t (a.eval x) (a.eval y)).run P w = .ok false w := h1 9999
      simp [execOp, ho, Sem.run_bind, h2, h3, h5]
    · cases hd
      refine opOK_still fun D ρ w a hv hw => ⟨.bool true, ?_, .scal _ rfl⟩
      obtain ⟨h1, h2, h3, h4⟩ := run_equal_nil hs (hv x (by simp [ho, Op.operands])) (hv y (by simp [ho, Op.operands])) w
      have h5 : (Op.equal t (a.eval x) (a.eval y)).run P w = .ok false w := h1 9999
      simp [execOp, ho, Sem.run_bind, h2, h4, h5]
    · cases hd
  · cases hd
end
end Go.Proofs.Ytkdalfdfepipiaa
