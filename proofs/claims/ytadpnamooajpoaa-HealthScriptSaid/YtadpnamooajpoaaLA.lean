/- HealthScript: names. HealthScript: what the check behind an event yields. -/
import Derived.Test.YtadpnamooajpoaaA0
import Derived.Test.YtadpnamooajpoaaQ7
import Derived.Test.YtadpnamooajpoaaQ8
import Derived.Test.YtadpnamooajpoaaXA
import Derived.KernelRfl
namespace Go.Proofs.Ytadpnamooajpoaa
section
open Go.RowKit
set_option linter.unusedSimpArgs false
set_option linter.unusedVariables false
set_option linter.unusedSectionVars false
set_option maxRecDepth 100000
variable [Inhabited RawG]
/-- A configuration. -/
structure CT where
  b1 : Int
  b2 : Int
  b3 : Int
  b4 : Int
  e1 : Int
  e2 : Int
  e3 : Int
  e4 : Int
  p1 : Int
  p2 : Int
  p3 : Int
  p4 : Int
abbrev aI (acts : List ActT) (i : Nat) : ActT := acts.getD i default
abbrev sN (b n : Nat) : Value := Value.slice (some ⟨b, 0, none⟩) n n
abbrev pN (b : Nat) : Value := Value.pointer (some ⟨b, 0, none⟩)
abbrev cA (c : CT) : Value := Value.agg #[vI c.b1, vI c.b2, vI c.b3, vI c.b4, vI c.e1, vI c.e2, vI c.e3, vI c.e4, vI c.p1, vI c.p2, vI c.p3, vI c.p4]
/-- A pool's block, the reference's. -/
abbrev pC (c : CT) (n x y : Nat) : ABlk := ⟨74, [vI c.b1, vI c.b2, vI c.b3, vI c.b4, vI c.e1, vI c.e2, vI c.e3, vI c.e4, vI c.p1, vI c.p2, vI c.p3, vI c.p4, sN x n, sN y n], 0⟩
abbrev rC (c : CT) (n x y z : Nat) : ABlk := ⟨98, [vI c.b1, vI c.b2, vI c.b3, vI c.b4, vI c.e1, vI c.e2, vI c.e3, vI c.e4, vI c.p1, vI c.p2, vI c.p3, vI c.p4, sN x n, sN y n, sN z n], 0⟩
abbrev hQ (c : CT) (n : Nat) (bs : List BkT) (es : List EjT) (t : Heap) : Heap := (0, ⟨78, bs.flatMap bkF, 3⟩) :: (1, pC c n 0 2) :: (2, ⟨48, es.flatMap ejF, 3⟩) :: t
abbrev rQ (c : CT) (n : Nat) (rb : List BrT) (re : List EjT) (rp : List PrT) (t : Heap) : Heap := (0, rC c n 1 2 3) :: (1, ⟨46, rb.flatMap brF, 3⟩) :: (2, ⟨48, re.flatMap ejF, 3⟩) :: (3, ⟨50, rp.flatMap prF, 3⟩) :: t
/-- Both pools, canonical and in the loop. -/
abbrev h0 (c : CT) (n : Nat) (bs : List BkT) (es : List EjT) (rb : List BrT) (re : List EjT) (rp : List PrT) (t : Heap) : Heap := (0, ⟨78, bs.flatMap bkF, 3⟩) :: (1, pC c n 0 2) :: (2, ⟨48, es.flatMap ejF, 3⟩) :: (3, rC c n 4 5 6) :: (4, ⟨46, rb.flatMap brF, 3⟩) :: (5, ⟨48, re.flatMap ejF, 3⟩) :: (6, ⟨50, rp.flatMap prF, 3⟩) :: t
abbrev hM (c : CT) (n : Nat) (bs : List BkT) (es : List EjT) (rb : List BrT) (re : List EjT) (rp : List PrT) (t : Heap) : Heap := (3264, ⟨78, bs.flatMap bkF, 3⟩) :: (3265, pC c n 3264 3266) :: (3266, ⟨48, es.flatMap ejF, 3⟩) :: (3267, rC c n 3268 3269 3270) :: (3268, ⟨46, rb.flatMap brF, 3⟩) :: (3269, ⟨48, re.flatMap ejF, 3⟩) :: (3270, ⟨50, rp.flatMap prF, 3⟩) :: t
/-- A row that is nil or is there. -/
def rO (b : Nat) : Option (List Int) → Value
  | none => .slice none 0 0
  | some l => .slice (some ⟨b, 0, none⟩) l.length l.length
def rK (b : Nat) : Option (List Int) → Heap
  | none => []
  | some l => [(b, ⟨3, l.map fun e : Int => Value.int .i64 e, 3⟩)]
/-- The attempts that are out: nothing, an empty row, a row. -/
def oSl (b : Nat) : Option (List TrT) → Value
  | none => .slice none 0 0
  | some ts => .slice (some ⟨b, 0, none⟩) ts.length ts.length
def oHp (b : Nat) : Option (List TrT) → Heap
  | none => []
  | some [] => [(b, ⟨54, [], 0⟩)]
  | some (t :: r) => [(b, ⟨54, (t :: r).flatMap trF, 3⟩)]
theorem oHp_pos {b : Nat} {l : List TrT} (h : l ≠ []) : oHp b (some l) = [(b, ⟨54, l.flatMap trF, 3⟩)] := by cases l with | nil => exact absurd rfl h | cons => rfl
def sndC : Code → Code
  | .seq _ y => y
  | c => c
def fstC : Code → Code
  | .seq x _ => x
  | c => c
def blkC : Code → Code
  | .block _ x => x
  | c => c
noncomputable def yC6 : Code := sndC (sndC (sndC (sndC (sndC (sndC (blkC (fstC (sndC (loopN Try.prog 6 0)))))))))
/-- The frame before the check, behind it. -/
abbrev yF (acts : List ActT) (wild : Int) (p o out box : Value) (now : Int) (i : Nat) (ok : Bool) : List Value := mkF [(2, .slice (some ⟨0, 0, some 2⟩) acts.length 0), (3, vI wild), (9, p), (11, o), (13, out), (14, vI now), (15, vI (i : Int)), (16, box), (18, .bool ok)] 308 0
abbrev yE (acts : List ActT) (wild : Int) (p o out : Value) (now : Int) (i : Nat) : List Value := mkF [(2, .slice (some ⟨0, 0, some 2⟩) acts.length 0), (3, vI wild), (9, p), (11, o), (13, out), (14, vI now), (15, vI (i : Int))] 308 0
abbrev nwE (acts : List ActT) (k : Nat) (now : Int) : Int := IntKind.i64.wrap (now + pick_0 (aI acts k).m 50)
/-- The check behind an event goes through. -/
def ChkOK (c : CT) (n : Nat) (acts : List ActT) (wild : Int) (i : Nat) (a : ActT) (bs : List BkT) (es : List EjT) (rb : List BrT) (re : List EjT) (rp : List PrT) (ts : Option (List TrT)) (now : Int) (ok : Bool) : Prop :=
  CodeOK Try.prog yC6 (yF acts wild (pN 1) (pN 3) (oSl 8 ts) (pN 7) now i ok) (h0 c n bs es rb re rp ((7, ⟨40, actF a, 0⟩) :: oHp 8 ts)) 9 ⟨.normal, yE acts wild (pN 1) (pN 3) (oSl 8 ts) now i, h0 c n bs es rb re rp (oHp 8 ts), 4041, []⟩
end
section
open Go.RowKit
set_option linter.unusedSimpArgs false
set_option linter.unusedVariables false
set_option linter.unusedSectionVars false
set_option maxRecDepth 100000
variable [Inhabited RawG]
/-- What the check yields, as a run says it. -/
def ChkKey (c : CT) (n i : Nat) (acts : List ActT) (a : ActT) (bs : List BkT) (es re : List EjT) (rb : List BrT) (rp : List PrT) (hs : List (BkT × EjT)) (xa xd xl xw : Option (List Int)) (ts : Option (List TrT)) (now wild : Int) (okv mv : Bool) : Prop := trimV [2, 3, 9, 11, 13, 14, 15] [0, 1, 2, 3, 4, 5, 6, 8] (aCode Try.prog callQ [(137, .soft (.bool false)), (265, .call (sN 3 n) (hQ c n bs es [(3, ⟨52, hs.flatMap hlF, 3⟩)])), (393, .call (sN 4 n) (rQ c n rb re rp [(4, ⟨52, hs.flatMap hlF, 3⟩)])), (457, .call (.bool true) [(0, ⟨52, hs.flatMap hlF, 3⟩), (1, ⟨52, hs.flatMap hlF, 3⟩)]), (841, .call (rO 3 xa) (hQ c n bs es (rK 3 xa))), (1033, .call (rO 4 xa) (rQ c n rb re rp (rK 4 xa))), (1097, .call (.bool true) (rK 0 xa ++ rK 1 xa)), (1481, .call (rO 3 xd) (hQ c n bs es (rK 3 xd))), (1673, .call (rO 4 xd) (rQ c n rb re rp (rK 4 xd))), (1737, .call (.bool true) (rK 0 xd ++ rK 1 xd)), (2121, .call (rO 3 xl) (hQ c n bs es (rK 3 xl))), (2313, .call (rO 4 xl) (rQ c n rb re rp (rK 4 xl))), (2377, .call (.bool true) (rK 0 xl ++ rK 1 xl)), (2889, .call (.bool mv) (hQ c n bs es [])), (3209, .call (.bool mv) (rQ c n rb re rp [])), (3401, .soft (.bool false)), (3593, .call (rO 3 xw) (hQ c n bs es (rK 3 xw))), (3785, .call (rO 4 xw) (rQ c n rb re rp (rK 4 xw))), (3849, .call (.bool true) (rK 0 xw ++ rK 1 xw))] 10 100 yC6 (yF acts wild (pN 1) (pN 3) (oSl 8 ts) (pN 7) now i okv) (h0 c n bs es rb re rp ((7, ⟨40, actF a, 0⟩) :: oHp 8 ts)) 9) = some (.normal, yE acts wild (pN 1) (pN 3) (oSl 8 ts) now i, h0 c n bs es rb re rp (oHp 8 ts), 4041, [(!okv) = false, CallOK Try.prog 12 [pN 1] (hQ c n bs es []) 3 (sN 3 n) (hQ c n bs es [(3, ⟨52, hs.flatMap hlF, 3⟩)]), CallOK Try.prog 32 [pN 0] (rQ c n rb re rp []) 4 (sN 4 n) (rQ c n rb re rp [(4, ⟨52, hs.flatMap hlF, 3⟩)]), CallOK Try.prog 31 [sN 0 n, sN 1 n] [(0, ⟨52, hs.flatMap hlF, 3⟩), (1, ⟨52, hs.flatMap hlF, 3⟩)] 2 (.bool true) [(0, ⟨52, hs.flatMap hlF, 3⟩), (1, ⟨52, hs.flatMap hlF, 3⟩)], CallOK Try.prog 20 [pN 1, vI now] (hQ c n bs es []) 3 (rO 3 xa) (hQ c n bs es (rK 3 xa)), CallOK Try.prog 33 [pN 0, vI now] (rQ c n rb re rp []) 4 (rO 4 xa) (rQ c n rb re rp (rK 4 xa)), CallOK Try.prog 19 [rO 0 xa, rO 1 xa] (rK 0 xa ++ rK 1 xa) (rK 0 xa ++ rK 1 xa).length (.bool true) (rK 0 xa ++ rK 1 xa), CallOK Try.prog 22 [pN 1, vI now] (hQ c n bs es []) 3 (rO 3 xd) (hQ c n bs es (rK 3 xd)), CallOK Try.prog 34 [pN 0, vI now] (rQ c n rb re rp []) 4 (rO 4 xd) (rQ c n rb re rp (rK 4 xd)), CallOK Try.prog 19 [rO 0 xd, rO 1 xd] (rK 0 xd ++ rK 1 xd) (rK 0 xd ++ rK 1 xd).length (.bool true) (rK 0 xd ++ rK 1 xd), CallOK Try.prog 23 [pN 1, vI now] (hQ c n bs es []) 3 (rO 3 xl) (hQ c n bs es (rK 3 xl)), CallOK Try.prog 35 [pN 0, vI now] (rQ c n rb re rp []) 4 (rO 4 xl) (rQ c n rb re rp (rK 4 xl)), CallOK Try.prog 19 [rO 0 xl, rO 1 xl] (rK 0 xl ++ rK 1 xl) (rK 0 xl ++ rK 1 xl).length (.bool true) (rK 0 xl ++ rK 1 xl), CallOK Try.prog 18 [pN 1, vI a.i, vI wild] (hQ c n bs es []) 3 (.bool mv) (hQ c n bs es []), CallOK Try.prog 36 [pN 0, vI a.i, vI wild] (rQ c n rb re rp []) 4 (.bool mv) (rQ c n rb re rp []), (!mv == mv) = false, CallOK Try.prog 20 [pN 1, vI wild] (hQ c n bs es []) 3 (rO 3 xw) (hQ c n bs es (rK 3 xw)), CallOK Try.prog 33 [pN 0, vI wild] (rQ c n rb re rp []) 4 (rO 4 xw) (rQ c n rb re rp (rK 4 xw)), CallOK Try.prog 19 [rO 0 xw, rO 1 xw] (rK 0 xw ++ rK 1 xw) (rK 0 xw ++ rK 1 xw).length (.bool true) (rK 0 xw ++ rK 1 xw)])
theorem chk_of {c : CT} {n i : Nat} {acts : List ActT} {a : ActT} {bs : List BkT} {es re : List EjT} {rb : List BrT} {rp : List PrT} {hs : List (BkT × EjT)} {xa xd xl xw : Option (List Int)} {ts : Option (List TrT)} {now wild : Int} {okv mv : Bool} (hok : okv = true) (c12 : CallOK Try.prog 12 [pN 1] (hQ c n bs es []) 3 (sN 3 n) (hQ c n bs es [(3, ⟨52, hs.flatMap hlF, 3⟩)])) (c32 : CallOK Try.prog 32 [pN 0] (rQ c n rb re rp []) 4 (sN 4 n) (rQ c n rb re rp [(4, ⟨52, hs.flatMap hlF, 3⟩)])) (s31 : CallOK Try.prog 31 [sN 0 n, sN 1 n] [(0, ⟨52, hs.flatMap hlF, 3⟩), (1, ⟨52, hs.flatMap hlF, 3⟩)] 2 (.bool true) [(0, ⟨52, hs.flatMap hlF, 3⟩), (1, ⟨52, hs.flatMap hlF, 3⟩)]) (pxa : CallOK Try.prog 20 [pN 1, vI now] (hQ c n bs es []) 3 (rO 3 xa) (hQ c n bs es (rK 3 xa))) (rxa : CallOK Try.prog 33 [pN 0, vI now] (rQ c n rb re rp []) 4 (rO 4 xa) (rQ c n rb re rp (rK 4 xa))) (sxa : CallOK Try.prog 19 [rO 0 xa, rO 1 xa] (rK 0 xa ++ rK 1 xa) (rK 0 xa ++ rK 1 xa).length (.bool true) (rK 0 xa ++ rK 1 xa)) (pxd : CallOK Try.prog 22 [pN 1, vI now] (hQ c n bs es []) 3 (rO 3 xd) (hQ c n bs es (rK 3 xd))) (rxd : CallOK Try.prog 34 [pN 0, vI now] (rQ c n rb re rp []) 4 (rO 4 xd) (rQ c n rb re rp (rK 4 xd))) (sxd : CallOK Try.prog 19 [rO 0 xd, rO 1 xd] (rK 0 xd ++ rK 1 xd) (rK 0 xd ++ rK 1 xd).length (.bool true) (rK 0 xd ++ rK 1 xd)) (pxl : CallOK Try.prog 23 [pN 1, vI now] (hQ c n bs es []) 3 (rO 3 xl) (hQ c n bs es (rK 3 xl))) (rxl : CallOK Try.prog 35 [pN 0, vI now] (rQ c n rb re rp []) 4 (rO 4 xl) (rQ c n rb re rp (rK 4 xl))) (sxl : CallOK Try.prog 19 [rO 0 xl, rO 1 xl] (rK 0 xl ++ rK 1 xl) (rK 0 xl ++ rK 1 xl).length (.bool true) (rK 0 xl ++ rK 1 xl)) (c18 : CallOK Try.prog 18 [pN 1, vI a.i, vI wild] (hQ c n bs es []) 3 (.bool mv) (hQ c n bs es [])) (c36 : CallOK Try.prog 36 [pN 0, vI a.i, vI wild] (rQ c n rb re rp []) 4 (.bool mv) (rQ c n rb re rp [])) (pxw : CallOK Try.prog 20 [pN 1, vI wild] (hQ c n bs es []) 3 (rO 3 xw) (hQ c n bs es (rK 3 xw))) (rxw : CallOK Try.prog 33 [pN 0, vI wild] (rQ c n rb re rp []) 4 (rO 4 xw) (rQ c n rb re rp (rK 4 xw))) (sxw : CallOK Try.prog 19 [rO 0 xw, rO 1 xw] (rK 0 xw ++ rK 1 xw) (rK 0 xw ++ rK 1 xw).length (.bool true) (rK 0 xw ++ rK 1 xw)) (key : ChkKey c n i acts a bs es re rb rp hs xa xd xl xw ts now wild okv mv) : ChkOK c n acts wild i a bs es rb re rp ts now okv :=
  codeOK_trim callQ_spec mixed _ _ key (ob_cons (by rw [hok]; rfl) (ob_cons c12 (ob_cons c32 (ob_cons s31 (ob_cons pxa (ob_cons rxa (ob_cons sxa (ob_cons pxd (ob_cons rxd (ob_cons sxd (ob_cons pxl (ob_cons rxl (ob_cons sxl (ob_cons c18 (ob_cons c36 (ob_cons (by cases mv <;> rfl) (ob_cons pxw (ob_cons rxw (ob_cons sxw ob_nil)))))))))))))))))))
end
end Go.Proofs.Ytadpnamooajpoaa
