/- Weigh: texts put together and looked at, said hard; hashes in plain words. -/
import Derived.Test.YtbjfckcgpbejkaaV4
namespace Go.Proofs.Ytbjfckcgpbejkaa
open Go.RowKit
set_option linter.unusedSimpArgs false
set_option linter.unusedVariables false
theorem hard_cat {P : Program} {ev : Operand → Value} {d : Option Nat} {t t2 ty : TypeId} {x y : Operand} {pos : String} {af : Array Edge} {gd : Option (Nat × Bool)} {a b : ByteArray} (hx : ev x = .string a) (hy : ev y = .string b) (h : a.size + b.size ≤ 9223372036854775807) :
    peval P (execOp ev { dst := d, op := .binOp .add t x y t2, type := ty, pos := pos, after := af, guard := gd }) = some (.value (.string (a ++ b))) := by
  simp only [execOp, hx, hy, eqGuard, binOp, Op.stringOp, if_neg (show ¬ (((a.size + b.size : Nat) : Int) > IntKind.i64.max) by have : IntKind.i64.max = 9223372036854775807 := rfl; omega)]
  rfl
theorem byte_get {s : ByteArray} {x : Nat} (h : x < s.size) : ∃ b : UInt8, s[x]? = some b ∧ (b.toNat : Int) = byteE s x := by
  refine ⟨s[x], by simp [h], ?_⟩
  unfold byteE
  rw [List.getD_eq_getElem?_getD, List.getElem?_eq_getElem (by simpa using h)]
  rfl
theorem hard_byte {P : Program} {ev : Operand → Value} {d : Option Nat} {t ty : TypeId} {x y : Operand} {pos : String} {af : Array Edge} {gd : Option (Nat × Bool)} {s : ByteArray} {k : Nat} (ht : P.underlying t = some .string) (hx : ev x = .string s) (hy : ev y = .int .i64 (k : Int)) (h : k < s.size) :
    peval P (execOp ev { dst := d, op := .index t x y, type := ty, pos := pos, after := af, guard := gd }) = some (.value (.int .u8 (byteE s k))) := by
  obtain ⟨b, h1, h2⟩ := byte_get h
  have h3 : s[(k : Int).toNat]? = some b := by rw [Int.toNat_natCast]; exact h1
  have pb : ∀ {α β : Type} (m : Sem α) (a : α) (f : α → Sem β), peval P m = some a → peval P (m >>= f) = peval P (f a) := by
    intro α β m a f hm
    induction m with
    | pure a' => simp only [peval, Option.some.injEq] at hm; subst hm; rfl
    | program k ih => simp only [peval] at hm; exact ih _ hm
    | mark q k ih => simp only [peval] at hm; exact ih hm
    | _ => simp [peval] at hm
  have hu : peval P (underlying t) = some .string := by
    unfold underlying
    show peval P (match P.underlying t with | some d => pure d | none => stuck "no such type") = _
    rw [ht]; rfl
  have hI : peval P (Instr.index t (.string s) (.int .i64 (k : Int))) = some (.int .u8 b.toNat) := by
    unfold Instr.index
    rw [pb _ _ _ (show peval P (asIntOf (.int .i64 (k : Int))) = some (.i64, (k : Int)) from rfl)]
    simp only []
    rw [pb _ _ _ hu]
    simp only [if_pos (Int.natCast_nonneg k), h3]
    rfl
  simp only [execOp, hx, hy]
  rw [← h2, pb _ _ _ hI]
  rfl
theorem addS_at {s t : ByteArray} {h : Int} : ∀ x, x ≤ s.size → addS (s ++ t) h x = addS s h x
  | 0, _ => rfl
  | x + 1, hx => by
    simp only [addS]
    rw [addS_at x (by omega)]
    have : byteE (s ++ t) x = byteE s x := by
      unfold byteE
      rw [ByteArray.data_append, Array.toList_append, List.getD_eq_getElem?_getD, List.getElem?_append_left (by simp; omega), List.getD_eq_getElem?_getD]
    rw [this]
theorem addS_on {s t : ByteArray} {h : Int} : ∀ x, addS (s ++ t) h (s.size + x) = addS t (addS s h s.size) x
  | 0 => addS_at _ (Nat.le_refl _)
  | x + 1 => by
    rw [← Nat.add_assoc]
    simp only [addS]
    rw [addS_on x]
    have : byteE (s ++ t) (s.size + x) = byteE t x := by
      unfold byteE
      rw [ByteArray.data_append, Array.toList_append, List.getD_eq_getElem?_getD, List.getElem?_append_right (by simp), List.getD_eq_getElem?_getD]
      congr 2
      simp
    rw [this]
theorem addE_app (h : Int) (s t : ByteArray) : addE h (s ++ t) = addE (addE h s) t := by
  unfold addE
  rw [ByteArray.size_append, addS_on]
/-- The last steps of a hash. -/
def mix1 (a : Int) : Int := IntKind.u64.wrap ((BitVec.ofInt 64 a ^^^ BitVec.ofInt 64 (a.fdiv (2 ^ 29))).toNat : Int)
def mix2 (a : Int) : Int := IntKind.u64.wrap (mix1 a * 13787848793156543929)
def mix3 (a : Int) : Int := IntKind.u64.wrap ((BitVec.ofInt 64 (mix2 a) ^^^ BitVec.ofInt 64 ((mix2 a).fdiv (2 ^ 32))).toNat : Int)
def zeroS : ByteArray := ⟨#[0]⟩
def hashE (s t : ByteArray) : Int := mix3 (addE 14695981039346656037 (s ++ zeroS ++ t))
theorem hashE_eq (s t : ByteArray) : hashE s t = mix3 (addE (addE (addE 14695981039346656037 s) zeroS) t) := by
  unfold hashE; rw [addE_app, addE_app]
end Go.Proofs.Ytbjfckcgpbejkaa
