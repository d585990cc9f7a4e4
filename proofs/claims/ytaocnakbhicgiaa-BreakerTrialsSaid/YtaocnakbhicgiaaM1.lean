/- Breaker: a step of the run, in plain words. -/
import Derived.Test.YtaocnakbhicgiaaS7
import Derived.Test.YtaocnakbhicgiaaX16
namespace Go.Proofs.Ytaocnakbhicgiaa
open Go.RowKit
set_option linter.unusedSimpArgs false
set_option linter.unusedVariables false
set_option maxRecDepth 100000
theorem w64 {n : Int} (h : -9223372036854775808 ≤ n ∧ n ≤ 9223372036854775807) : IntKind.i64.wrap n = n := IntWalk.i64_in n h
abbrev BT := Int × Int × Int × Int × Int × Int
section
variable {cf cd ct cg s f u o g p now ep : Int} {well : Bool}
theorem may_check (h : may_0 cf cd ct cg now = 0) : check_0 cf cd ct cg = 0 := by
  unfold may_0 at h
  rcases Bool.eq_false_or_eq_true (check_0 cf cd ct cg != 0) with h1 | h1
  · rw [h1] at h; simp only [cond_true] at h; rw [h] at h1; cases h1
  · simpa using h1
theorem may_in (h : check_0 cf cd ct cg = 0) (h0 : 0 ≤ now) (h1 : now ≤ 253402300799) : may_0 cf cd ct cg now = 0 := by
  unfold may_0
  rw [h, show ((0 : Int) != 0) = false from rfl, show decide (now < 0) = false from decide_eq_false (by omega), show decide (now > 253402300799) = false from decide_eq_false (by omega)]
  rfl
theorem begin_ok (h : may_0 cf cd ct cg now = 0) : (bbegin_7 cf cd ct cg s f u o g p now == 0) = allows_0 cf cd ct cg s f u o g p now := by
  have e : (may_0 cf cd ct cg now != 0) = false := by rw [h]; rfl
  unfold bbegin_7
  rw [e]
  simp only [cond_false]
  rcases Bool.eq_false_or_eq_true (allows_0 cf cd ct cg s f u o g p now) with h1 | h1
  · rw [h1]
    cases (s == 2) <;> cases (s == 3) <;> rfl
  · rw [h1]; rfl
theorem begin_open (h : may_0 cf cd ct cg now = 0) (h1 : (bbegin_7 cf cd ct cg s f u o g p now == 0) = true) (h2 : (s == 2) = true) : u ≤ now := by
  rw [begin_ok h] at h1
  have e : (may_0 cf cd ct cg now != 0) = false := by rw [h]; rfl
  have hs : s = 2 := by simpa using h2
  subst hs
  unfold allows_0 at h1
  rw [e] at h1
  simp only [cond_false, show ((2 : Int) == 1) = false from rfl, show ((2 : Int) == 2) = true from rfl, cond_true] at h1
  rcases Bool.eq_false_or_eq_true (decide (u ≤ now)) with h3 | h3
  · simpa using h3
  · rw [h3] at h1; cases h1
theorem end_ok (h : may_0 cf cd ct cg now = 0) : bend_6 cf cd ct cg s f u o g p ep well now = 0 := by
  have e : (may_0 cf cd ct cg now != 0) = false := by rw [h]; rfl
  unfold bend_6
  rw [e]
  simp only [cond_false]
  cases (ep != p) <;> cases (s == 1) <;> cases (s == 3) <;> cases well <;> rfl
theorem give_ok (h : check_0 cf cd ct cg = 0) : give_6 cf cd ct cg s f u o g p ep = 0 := by
  unfold give_6
  rw [h]
  cases (ep == p) <;> cases (s == 3) <;> rfl
theorem pick_rng (x : Int) {m : Int} (hm : 0 < m) (hm2 : m ≤ 100000) : 0 ≤ pick_0 x m ∧ pick_0 x m < m := by
  have h1 := Int.tmod_lt_of_pos x hm
  have h2 := Int.lt_tmod_of_pos x hm
  unfold pick_0
  rw [show decide (m < 1) = false from decide_eq_false (by omega)]
  simp only [cond_false]
  by_cases h : x.tmod m < 0
  · rw [show decide (x.tmod m < 0) = true by simpa using h]
    simp only [cond_true]
    rw [w64 (by omega)]
    omega
  · rw [show decide (x.tmod m < 0) = false by simpa using h]
    simp only [cond_false]
    omega
end
def bBegin (cf cd ct cg : Int) (b : BT) (now : Int) : BT := (bbegin_0 cf cd ct cg b.1 b.2.1 b.2.2.1 b.2.2.2.1 b.2.2.2.2.1 b.2.2.2.2.2 now, b.2.1, b.2.2.1, bbegin_3 cf cd ct cg b.1 b.2.1 b.2.2.1 b.2.2.2.1 b.2.2.2.2.1 b.2.2.2.2.2 now, bbegin_4 cf cd ct cg b.1 b.2.1 b.2.2.1 b.2.2.2.1 b.2.2.2.2.1 b.2.2.2.2.2 now, bbegin_5 cf cd ct cg b.1 b.2.1 b.2.2.1 b.2.2.2.1 b.2.2.2.2.1 b.2.2.2.2.2 now)
def bEpoch (cf cd ct cg : Int) (b : BT) (now : Int) : Int := bbegin_6 cf cd ct cg b.1 b.2.1 b.2.2.1 b.2.2.2.1 b.2.2.2.2.1 b.2.2.2.2.2 now
def bErr (cf cd ct cg : Int) (b : BT) (now : Int) : Int := bbegin_7 cf cd ct cg b.1 b.2.1 b.2.2.1 b.2.2.2.1 b.2.2.2.2.1 b.2.2.2.2.2 now
def bEnd (cf cd ct cg : Int) (b : BT) (ep : Int) (wl : Bool) (now : Int) : BT := (bend_0 cf cd ct cg b.1 b.2.1 b.2.2.1 b.2.2.2.1 b.2.2.2.2.1 b.2.2.2.2.2 ep wl now, bend_1 cf cd ct cg b.1 b.2.1 b.2.2.1 b.2.2.2.1 b.2.2.2.2.1 b.2.2.2.2.2 ep wl now, bend_2 cf cd ct cg b.1 b.2.1 b.2.2.1 b.2.2.2.1 b.2.2.2.2.1 b.2.2.2.2.2 ep wl now, bend_3 cf cd ct cg b.1 b.2.1 b.2.2.1 b.2.2.2.1 b.2.2.2.2.1 b.2.2.2.2.2 ep wl now, bend_4 cf cd ct cg b.1 b.2.1 b.2.2.1 b.2.2.2.1 b.2.2.2.2.1 b.2.2.2.2.2 ep wl now, bend_5 cf cd ct cg b.1 b.2.1 b.2.2.1 b.2.2.2.1 b.2.2.2.2.1 b.2.2.2.2.2 ep wl now)
def bGive (cf cd ct cg : Int) (b : BT) (ep : Int) : BT := (b.1, b.2.1, b.2.2.1, give_3 cf cd ct cg b.1 b.2.1 b.2.2.1 b.2.2.2.1 b.2.2.2.2.1 b.2.2.2.2.2 ep, b.2.2.2.2.1, b.2.2.2.2.2)
/-- What a step may do to the breaker and to the attempts that are out. -/
def StepOut (cf cd ct cg : Int) (b : BT) (out : Option (List Int)) (n2 : Int) (b' : BT) (out' : Option (List Int)) : Prop :=
  (b' = b ∧ out' = out) ∨
  (bErr cf cd ct cg b n2 = 0 ∧ b' = bBegin cf cd ct cg b n2 ∧ out' = some (out.getD [] ++ [bEpoch cf cd ct cg b n2])) ∨
  (∃ (k : Nat) (os : List Int) (wl : Bool), out = some os ∧ k < os.length ∧ out' = some (os.eraseIdx k) ∧ (b' = bEnd cf cd ct cg b (os.getD k 0) wl n2 ∨ b' = bGive cf cd ct cg b (os.getD k 0)))
def bV (b : BT) : List Value := [.int .i64 b.1, .int .i64 b.2.1, .int .i64 b.2.2.1, .int .i64 b.2.2.2.1, .int .i64 b.2.2.2.2.1, .int .i64 b.2.2.2.2.2]
def oSl (out : Option (List Int)) (i : Nat) : Value := match out with
  | none => .slice none 0 0
  | some os => .slice (some ⟨i, 0, none⟩) os.length os.length
def oHp (out : Option (List Int)) (i : Nat) : Heap := match out with
  | none => []
  | some [] => [(i, ⟨3, [], 0⟩)]
  | some (x :: l) => [(i, ⟨3, (x :: l).map fun e : Int => Value.int .i64 e, 3⟩)]
theorem oHp_ne {os : List Int} (h : os ≠ []) (i : Nat) : oHp (some os) i = [(i, ⟨3, os.map fun e : Int => Value.int .i64 e, 3⟩)] := by
  cases os with
  | nil => exact absurd rfl h
  | cons x l => rfl
abbrev runB (b : BT) (sl : Value) (now : Int) : ABlk := ⟨40, [.int .i64 b.1, .int .i64 b.2.1, .int .i64 b.2.2.1, .int .i64 b.2.2.2.1, .int .i64 b.2.2.2.2.1, .int .i64 b.2.2.2.2.2, sl, .int .i64 now], 0⟩
/-- What a step does, as the engine says it: from the run with the attempts in block 1, lo blocks in all. -/
def StepTo (cf cd ct cg kd wh : Int) (wl : Bool) (more : Int) (b : BT) (out : Option (List Int)) (now n2 : Int) (lo : Nat) (b' : BT) (out' : Option (List Int)) : Prop :=
  (b' = b ∧ out' = out ∧ CallOK Try.prog 13 [.pointer (some ⟨0, 0, none⟩), .agg #[.int .i64 cf, .int .i64 cd, .int .i64 ct, .int .i64 cg], .agg #[.int .i64 kd, .int .i64 wh, .bool wl, .int .i64 more]] ((0, runB b (oSl out 1) now) :: oHp out 1) lo (.bool true) ((0, runB b' (oSl out' 1) n2) :: oHp out' 1)) ∨
  (StepOut cf cd ct cg b out n2 b' out' ∧ CallOK Try.prog 13 [.pointer (some ⟨0, 0, none⟩), .agg #[.int .i64 cf, .int .i64 cd, .int .i64 ct, .int .i64 cg], .agg #[.int .i64 kd, .int .i64 wh, .bool wl, .int .i64 more]] ((0, runB b (oSl out 1) now) :: oHp out 1) lo (.bool true) ((0, runB b' (oSl out' lo) n2) :: oHp out' lo))
def keepR (K : List Nat) (r : Option (Value × Heap × List Prop)) : Option (Value × Heap × List Prop) :=
  match r with
  | some (v, H1, ps) => some (v, restrict H1 K, ps)
  | none => none
theorem callOK_keep {P : Program} {call : CallF} (K : List Nat) (hc : CallSpec P call) (hm : P.follows .mixedOrders = true) {ω : Orc} {LF F lo : Nat} {g : FuncId} {av : List Value} {Hs H1 : Heap} {v : Value} {ps : List Prop} (h : keepR K (aFuncO P call ω LF F g av Hs lo) = some (v, H1, ps)) (hps : Ob ps) : CallOK P g av Hs lo v H1 := by
  intro D ρ w args hlt hsz hav hw
  unfold keepR at h
  split at h
  · rename_i v' H' ps' hO
    cases h
    refine (funcO_spec hc hm hO hps hlt hsz hav hw).mono ?_
    rintro e w1 ⟨u, rfl, D1, ρ1, t1, hV, hD⟩
    exact ⟨u, rfl, D1, ρ1, t1.trans (T.less t1.wr fun b k => hget_restrict), hV, hD⟩
  · cases h
abbrev iv : Int → Value := fun e => Value.int .i64 e
theorem flat_nil : FlatL [] := fun v hv => by cases hv
theorem flat_iv (os : List Int) : FlatL (os.map fun e : Int => Value.int .i64 e) := fun v hv => by
  obtain ⟨e, _, rfl⟩ := List.mem_map.1 hv
  exact ⟨rfl, rfl⟩
theorem flat_app {a b : List Value} (ha : FlatL a) (hb : FlatL b) : FlatL (a ++ b) := fun v hv => (List.mem_append.1 hv).elim (ha v) (hb v)
theorem flat_take {a : List Value} {n : Nat} (ha : FlatL a) : FlatL (a.take n) := fun v hv => ha v (List.mem_of_mem_take hv)
theorem flat_drop {a : List Value} {n : Nat} (ha : FlatL a) : FlatL (a.drop n) := fun v hv => ha v (List.mem_of_mem_drop hv)
section
variable {os : List Int} {k : Nat}
theorem er_mid (hk : k < os.length) : (os.eraseIdx k).map (fun e : Int => Value.int .i64 e) = [] ++ List.take (k * 1) (List.drop 0 (List.map (fun e : Int => Value.int .i64 e) os)) ++ List.take ((os.length - (k + 1)) * 1) (List.drop (0 + (k + 1) * 1) (List.map (fun e : Int => Value.int .i64 e) os)) := by
  rw [List.eraseIdx_eq_take_drop_succ, List.map_append, List.map_take, List.map_drop]
  simp only [Nat.mul_one, List.drop_zero, List.nil_append, Nat.zero_add]
  rw [List.take_of_length_le (i := os.length - (k + 1)) (by simp)]
theorem er_first (hk : k = 0) : (os.eraseIdx k).map (fun e : Int => Value.int .i64 e) = [] ++ List.take ((os.length - (k + 1)) * 1) (List.drop (0 + (k + 1) * 1) (List.map (fun e : Int => Value.int .i64 e) os)) := by
  subst hk
  rw [List.eraseIdx_eq_take_drop_succ, List.map_append, List.map_take, List.map_drop]
  simp only [Nat.mul_one, List.nil_append, Nat.zero_add, List.take_zero]
  rw [List.take_of_length_le (i := os.length - 1) (by simp)]
theorem er_last (hk : ¬ k + 1 < os.length) : (os.eraseIdx k).map (fun e : Int => Value.int .i64 e) = [] ++ List.take (k * 1) (List.drop 0 (List.map (fun e : Int => Value.int .i64 e) os)) := by
  rw [List.eraseIdx_eq_take_drop_succ, List.map_append, List.map_take, List.map_drop]
  rw [List.drop_of_length_le (i := k + 1) (by simp; omega)]
  simp
theorem er_len (hk : k < os.length) : (os.eraseIdx k).length = os.length - 1 := List.length_eraseIdx_of_lt hk
end
end Go.Proofs.Ytaocnakbhicgiaa
