/- EjectCalls: the rounds of the range over a function; printed by a program of mine. -/
import Derived.Test.YtpdfpnfnlikjfaaC3
import Derived.Test.YtpdfpnfnlikjfaaX25
import Derived.KernelRfl
namespace Go.Proofs.Ytpdfpnfnlikjfaa
open Go.RowKit
set_option linter.unusedSectionVars false
set_option linter.unusedSimpArgs false
set_option linter.unusedVariables false
set_option maxRecDepth 100000
variable [Inhabited RawG]
noncomputable def callL : CallF := aCall Try.prog ΨS3 100 200 12
theorem callL_spec : CallSpec Try.prog callL := call_spec ΨS3_spec mixed 12
noncomputable def c4 : Code := bodyC Try.prog 4
noncomputable def q4 : RfP := rfParts (tl 9 c4)
theorem q4_is : rfIs (tl 9 c4) = true := by kernel_rfl
theorem body4 : Try.f4.body = some c4 := by kernel_rfl
theorem parts4 : q4.g = .tmp 52 ∧ q4.ps = #[53] := ⟨by kernel_rfl, by kernel_rfl⟩
def inLoop : Code → Code
  | .block _ (.seq (.block _ (.loop x)) _) => x
  | _ => .skip
def postLoop : Code → Code
  | .seq (.block _ (.loop x)) _ => x
  | _ => .skip
/-- What rounds change, and what they read. -/
def HkN (es : List EjT) (now : Int) (k : Nat) : Heap := [(64, ⟨28, [.slice (some ⟨0, 0, some 2⟩) es.length 0], 0⟩), (128, ⟨2, [.int .i64 now], 0⟩), (192, ⟨4, [.bool false], 0⟩), (2240, ⟨3, [.int .i64 (k : Int)], 0⟩)]
def frB (x : Nat) : List Value := mkF [(7, .pointer (some ⟨64, 0, none⟩)), (10, .pointer (some ⟨128, 0, none⟩)), (12, .pointer (some ⟨192, 0, none⟩)), (18, .pointer (some ⟨2240, 0, none⟩)), (20, .int .i64 (x : Int)), (53, .int .i64 (x : Int))] 146 0
def stB (x : Nat) : List Value := mkF [(7, .pointer (some ⟨64, 0, none⟩)), (10, .pointer (some ⟨128, 0, none⟩)), (12, .pointer (some ⟨192, 0, none⟩)), (18, .pointer (some ⟨2240, 0, none⟩)), (20, .int .i64 (x : Int))] 146 0
theorem out_def {es : List EjT} {now : Int} {y : Nat} : ejIn now (es.getD y (0, 0, 0)) = !decide ((es.getD y default).2.2 > now) := rfl
theorem in_go {l : Nat} {es : List EjT} {now : Int} {k x : Nat} (hA : CE es) (h80 : es.length ≤ 80) (hk : k < es.length) (he : decide ((es.getD k default).2.2 > now) = true) : RoundToO l 1 Try.prog callL 100 200 (inLoop q4.b) 2824 2825 [7, 10, 12, 18, 20] (.normal) (stB x) (HkN es now k) (stB x) (HkN es now (k + 1)) 2825 := by
  have k0 : (decide ((↑k : Int) < (↑es.length : Int))) = true := (decide_eq_true (by omega))
  exact roundToO_of [(3081, OV.soft (Value.bool true)), (3337, OV.call (Value.bool true) []), (3529, OV.soft (Value.int IntKind.i64 (↑(k + 1) : Int)))] [] (ps := [decide ((↑k : Int) < (↑es.length : Int)) = true, CallOK Try.prog 18 [Value.slice (some { block := 0, off := 0, spot := some 2 }) es.length 0, Value.int IntKind.i64 (↑k : Int), Value.int IntKind.i64 now] [] 0 (Value.bool true) [], IntKind.i64.wrap ((↑k : Int) + 1) = (↑(k + 1) : Int)]) (by kernel_rfl) (ob_cons k0 (ob_cons (he ▸ rout_n (lo := 0) hA hk) (ob_cons (up1 (by omega)) ob_nil))) (by decide)

theorem in_out {l : Nat} {es : List EjT} {now : Int} {k x : Nat} (hA : CE es) (h80 : es.length ≤ 80) (hk : k < es.length) (he : decide ((es.getD k default).2.2 > now) = false) : RoundToO l 1 Try.prog callL 100 200 (inLoop q4.b) 2824 2825 [7, 10, 12, 18, 20] (.exit 2) (stB x) (HkN es now k) (stB x) (HkN es now k) 2888 := by
  have k0 : (decide ((↑k : Int) < (↑es.length : Int))) = true := (decide_eq_true (by omega))
  exact roundToO_of [(3081, OV.soft (Value.bool true)), (3337, OV.call (Value.bool false) [])] [] (ps := [decide ((↑k : Int) < (↑es.length : Int)) = true, CallOK Try.prog 18 [Value.slice (some { block := 0, off := 0, spot := some 2 }) es.length 0, Value.int IntKind.i64 (↑k : Int), Value.int IntKind.i64 now] [] 0 (Value.bool false) []]) (by kernel_rfl) (ob_cons k0 (ob_cons (he ▸ rout_n (lo := 0) hA hk) ob_nil)) (by decide)

theorem in_end {l : Nat} {es : List EjT} {now : Int} {k x : Nat} (hk : k = es.length) : RoundToO l 1 Try.prog callL 100 200 (inLoop q4.b) 2824 2825 [7, 10, 12, 18, 20] (.exit 2) (stB x) (HkN es now k) (stB x) (HkN es now k) 2888 := by
  have k0 : (decide ((↑k : Int) < (↑es.length : Int))) = false := (decide_eq_false (by omega))
  exact roundToO_of [(3081, OV.soft (Value.bool false))] [] (ps := [decide ((↑k : Int) < (↑es.length : Int)) = false]) (by kernel_rfl) (ob_cons k0 ob_nil) (by decide)

theorem in_loop {l : Nat} {es : List EjT} {now : Int} {x k K : Nat} (hA : CE es) (h80 : es.length ≤ 80) (hK : k ≤ K) (hl : K ≤ es.length) (hskip : ∀ y, k ≤ y → y < K → ejIn now (es.getD y (0, 0, 0)) = false) (hin : K < es.length → ejIn now (es.getD K (0, 0, 0)) = true) : CodeOKR l 1 Try.prog (.loop (inLoop q4.b)) (stB x) (HkN es now k) 2824 ⟨.exit 2, stB x, HkN es now K, 2888, []⟩ := by
  obtain ⟨d, rfl⟩ : ∃ d, K = k + d := ⟨K - k, by omega⟩
  refine loop_indO callL_spec (LF := 100) (F := 200) d (fun _ => stB x) (fun j => HkN es now (k + j)) (nxb := 2825) (keys := [7, 10, 12, 18, 20]) (keysE := [7, 10, 12, 18, 20]) (by decide) (show 2824 ≤ 2888 by decide) rfl ?_ ?_ (fun h => by cases h)
  · intro j hj
    have h := hskip (k + j) (by omega) (by omega)
    rw [out_def] at h
    exact in_go hA h80 (by omega) (by simpa using h)
  · by_cases he : k + d < es.length
    · have h := hin he
      rw [out_def] at h
      exact in_out hA h80 he (by simpa using h)
    · exact in_end (by omega)
theorem first_in (es : List EjT) (now : Int) : ∀ n k, k + n = es.length → ∃ K, k ≤ K ∧ K ≤ es.length ∧ (∀ y, k ≤ y → y < K → ejIn now (es.getD y (0, 0, 0)) = false) ∧ (K < es.length → ejIn now (es.getD K (0, 0, 0)) = true)
  | 0, k, h => ⟨k, Nat.le_refl _, by omega, fun y h1 h2 => by omega, fun h1 => by omega⟩
  | n + 1, k, h => by
    rcases Bool.eq_false_or_eq_true (ejIn now (es.getD k (0, 0, 0))) with hb | hb
    · exact ⟨k, Nat.le_refl _, by omega, fun y h1 h2 => by omega, fun _ => hb⟩
    · obtain ⟨K, h1, h2, h3, h4⟩ := first_in es now n (k + 1) (by omega)
      refine ⟨K, by omega, h2, fun y h5 h6 => ?_, h4⟩
      by_cases hy : y = k
      · rw [hy]; exact hb
      · exact h3 y (by omega) h6
theorem rd_go {l : Nat} {es : List EjT} {now : Int} {k K x : Nat} (hA : CE es) (h80 : es.length ≤ 80) (hK : k ≤ K) (hl : K ≤ es.length) (hskip : ∀ y, k ≤ y → y < K → ejIn now (es.getD y (0, 0, 0)) = false) (hin : K < es.length → ejIn now (es.getD K (0, 0, 0)) = true) (h1 : K < es.length) (h2 : x = K) : RoundToI l 1 Try.prog callL 100 200 q4.b 2816 2824 (.normal) (frB x) (HkN es now k) (HkN es now (K + 1)) := by
  have k0 : (decide ((↑K : Int) ≥ (↑es.length : Int))) = false := (decide_eq_false (by omega))
  have k1 : ((↑x : Int) != (↑K : Int)) = false := (by rw [h2]; exact bne_self_eq_false _)
  exact roundToI_of [(2825, OV.loop [7, 10, 12, 18, 20] (AX.exit 2) (mkF [(7, Value.pointer (some { block := 64, off := 0 })), (10, Value.pointer (some { block := 128, off := 0 })), (12, Value.pointer (some { block := 192, off := 0 })), (18, Value.pointer (some { block := 2240, off := 0 })), (20, Value.int IntKind.i64 (↑x : Int))] 146 0) [(64, { elem := 28, cells := [Value.slice (some { block := 0, off := 0, spot := some 2 }) es.length 0], mode := 0 }), (128, { elem := 2, cells := [Value.int IntKind.i64 now], mode := 0 }), (192, { elem := 4, cells := [Value.bool false], mode := 0 }), (2240, { elem := 3, cells := [Value.int IntKind.i64 (↑K : Int)], mode := 0 })] 2888), (3144, OV.soft (Value.bool false)), (3400, OV.soft (Value.bool false)), (3528, OV.soft (Value.int IntKind.i64 (↑(K + 1) : Int)))] [64, 128, 192, 2240] [] (ps := [CodeOKR l 1 Try.prog (.loop (inLoop q4.b)) (stB x) (HkN es now k) 2824 ⟨.exit 2, stB x, HkN es now K, 2888, []⟩, decide ((↑K : Int) ≥ (↑es.length : Int)) = false, ((↑x : Int) != (↑K : Int)) = false, IntKind.i64.wrap ((↑K : Int) + 1) = (↑(K + 1) : Int)]) (by kernel_rfl) (ob_cons (in_loop hA h80 hK hl hskip hin) (ob_cons k0 (ob_cons k1 (ob_cons (up1 (by omega)) ob_nil)))) (by decide)

theorem rd_ne {l : Nat} {es : List EjT} {now : Int} {k K x : Nat} (hA : CE es) (h80 : es.length ≤ 80) (hK : k ≤ K) (hl : K ≤ es.length) (hskip : ∀ y, k ≤ y → y < K → ejIn now (es.getD y (0, 0, 0)) = false) (hin : K < es.length → ejIn now (es.getD K (0, 0, 0)) = true) (h1 : K < es.length) (h2 : x ≠ K) : RoundToI l 1 Try.prog callL 100 200 q4.b 2816 2824 (.ret) (frB x) (HkN es now k) (HkN es now K) := by
  have k0 : (decide ((↑K : Int) ≥ (↑es.length : Int))) = false := (decide_eq_false (by omega))
  have k1 : ((↑x : Int) != (↑K : Int)) = true := (by simp; omega)
  exact roundToI_of [(2825, OV.loop [7, 10, 12, 18, 20] (AX.exit 2) (mkF [(7, Value.pointer (some { block := 64, off := 0 })), (10, Value.pointer (some { block := 128, off := 0 })), (12, Value.pointer (some { block := 192, off := 0 })), (18, Value.pointer (some { block := 2240, off := 0 })), (20, Value.int IntKind.i64 (↑x : Int))] 146 0) [(64, { elem := 28, cells := [Value.slice (some { block := 0, off := 0, spot := some 2 }) es.length 0], mode := 0 }), (128, { elem := 2, cells := [Value.int IntKind.i64 now], mode := 0 }), (192, { elem := 4, cells := [Value.bool false], mode := 0 }), (2240, { elem := 3, cells := [Value.int IntKind.i64 (↑K : Int)], mode := 0 })] 2888), (3144, OV.soft (Value.bool false)), (3400, OV.soft (Value.bool true))] [64, 128, 192, 2240] [] (ps := [CodeOKR l 1 Try.prog (.loop (inLoop q4.b)) (stB x) (HkN es now k) 2824 ⟨.exit 2, stB x, HkN es now K, 2888, []⟩, decide ((↑K : Int) ≥ (↑es.length : Int)) = false, ((↑x : Int) != (↑K : Int)) = true]) (by kernel_rfl) (ob_cons (in_loop hA h80 hK hl hskip hin) (ob_cons k0 (ob_cons k1 ob_nil))) (by decide)

theorem rd_end {l : Nat} {es : List EjT} {now : Int} {k K x : Nat} (hA : CE es) (h80 : es.length ≤ 80) (hK : k ≤ K) (hl : K ≤ es.length) (hskip : ∀ y, k ≤ y → y < K → ejIn now (es.getD y (0, 0, 0)) = false) (hin : K < es.length → ejIn now (es.getD K (0, 0, 0)) = true) (h1 : K = es.length) : RoundToI l 1 Try.prog callL 100 200 q4.b 2816 2824 (.ret) (frB x) (HkN es now k) (HkN es now K) := by
  have k0 : (decide ((↑K : Int) ≥ (↑es.length : Int))) = true := (decide_eq_true (by omega))
  exact roundToI_of [(2825, OV.loop [7, 10, 12, 18, 20] (AX.exit 2) (mkF [(7, Value.pointer (some { block := 64, off := 0 })), (10, Value.pointer (some { block := 128, off := 0 })), (12, Value.pointer (some { block := 192, off := 0 })), (18, Value.pointer (some { block := 2240, off := 0 })), (20, Value.int IntKind.i64 (↑x : Int))] 146 0) [(64, { elem := 28, cells := [Value.slice (some { block := 0, off := 0, spot := some 2 }) es.length 0], mode := 0 }), (128, { elem := 2, cells := [Value.int IntKind.i64 now], mode := 0 }), (192, { elem := 4, cells := [Value.bool false], mode := 0 }), (2240, { elem := 3, cells := [Value.int IntKind.i64 (↑K : Int)], mode := 0 })] 2888), (3144, OV.soft (Value.bool true))] [64, 128, 192, 2240] [] (ps := [CodeOKR l 1 Try.prog (.loop (inLoop q4.b)) (stB x) (HkN es now k) 2824 ⟨.exit 2, stB x, HkN es now K, 2888, []⟩, decide ((↑K : Int) ≥ (↑es.length : Int)) = true]) (by kernel_rfl) (ob_cons (in_loop hA h80 hK hl hskip hin) (ob_cons k0 ob_nil)) (by decide)

/-- Where the search goes on. -/
def kvOf (pre : List Nat) : Nat := match pre.getLast? with | some x => x + 1 | none => 0
theorem kvOf_snoc (pre : List Nat) (x : Nat) : kvOf (pre ++ [x]) = x + 1 := by unfold kvOf; simp
def JJ (es : List EjT) (now : Int) (pre : List Nat) : Prop := kvOf pre ≤ es.length ∧ pre = inUpto es now (kvOf pre)
theorem jj_nil (es : List EjT) (now : Int) : JJ es now [] := ⟨Nat.zero_le _, rfl⟩
theorem rounds4 {es : List EjT} {now : Int} (hA : CE es) (h80 : es.length ≤ 80) (l : Nat) (pre : List Nat) (x : Nat) (hj : JJ es now pre) :
    (JJ es now (pre ++ [x]) ∧ RoundToI l 1 Try.prog callL 100 200 q4.b 2816 2824 .normal (frB x) (HkN es now (kvOf pre)) (HkN es now (kvOf (pre ++ [x])))) ∨
      (¬ (∃ m, m ≤ es.length ∧ pre ++ [x] = inUpto es now m) ∧ ∃ H2, RoundToI l 1 Try.prog callL 100 200 q4.b 2816 2824 .ret (frB x) (HkN es now (kvOf pre)) H2) := by
  obtain ⟨hk, hp⟩ := hj
  obtain ⟨K, h1, h2, h3, h4⟩ := first_in es now (es.length - kvOf pre) (kvOf pre) (by omega)
  by_cases hb : K < es.length ∧ x = K
  · obtain ⟨hb, rfl⟩ := hb
    refine .inl ⟨⟨by rw [kvOf_snoc]; omega, ?_⟩, ?_⟩
    · rw [kvOf_snoc, inUpto_hit (h4 hb), inUpto_skip h1 h3]
      exact congrArg (· ++ [x]) hp
    · rw [kvOf_snoc]
      exact rd_go hA h80 h1 h2 h3 h4 hb rfl
  · refine .inr ⟨?_, ?_⟩
    · rintro ⟨m, hm, he⟩
      rw [hp] at he
      exact hb (next_in h1 h3 h4 hm he)
    · by_cases hb2 : K < es.length
      · exact ⟨_, rd_ne hA h80 h1 h2 h3 h4 hb2 fun e => hb ⟨hb2, e⟩⟩
      · exact ⟨_, rd_end hA h80 h1 h2 h3 h4 (by omega)⟩
/-- Behind all rounds the others are out. -/
theorem rest_out {es : List EjT} {now : Int} {xs : List Nat} (hj : JJ es now xs) (hs : xs = inUpto es now es.length) : ∀ y, kvOf xs ≤ y → y < es.length → decide ((es.getD y default).2.2 > now) = true := by
  intro y h1 h2
  rcases Bool.eq_false_or_eq_true (ejIn now (es.getD y (0, 0, 0))) with hb | hb
  · have : y ∈ inUpto es now es.length := inUpto_mem.2 ⟨h2, hb⟩
    rw [← hs, hj.2] at this
    have := (inUpto_mem.1 this).1
    omega
  · rw [out_def] at hb
    simpa using hb
theorem fr_av {D : Nat → Prop} {ρ : Nat → Pl} {av : List Value} {args : Array Value} (hsz : args.size = av.length) (hav : ∀ i, VR D ρ (av.getD i undef) (args.getD i undef)) {n : Nat} : FR [] D ρ (av ++ List.replicate (n - av.length) undef) { tmps := args ++ Array.replicate (n - args.size) undef, defers := [] } := by
  refine ⟨by simp [hsz], fun t _ => ?_, rfl⟩
  have h1 := hav t
  rw [List.getD_eq_getElem?_getD, Array.getD_eq_getD_getElem?] at h1 ⊢
  by_cases ht : t < av.length
  · rw [List.getElem?_append_left ht, Array.getElem?_append_left (by omega)]
    exact h1
  · rw [List.getElem?_append_right (by omega), Array.getElem?_append_right (by omega), hsz]
    by_cases ht2 : t - av.length < n - av.length
    · simp [ht2, List.getElem?_replicate, Array.getElem?_replicate]; exact .und
    · simp [ht2, List.getElem?_replicate, Array.getElem?_replicate]; exact .und
end Go.Proofs.Ytpdfpnfnlikjfaa
