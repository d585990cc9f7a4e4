/- HealthScript: the check, run. -/
import Derived.Test.YtadpnamooajpoaaLA
import Derived.KernelRfl
namespace Go.Proofs.Ytadpnamooajpoaa
open Go.RowKit
set_option linter.unusedSimpArgs false
set_option linter.unusedVariables false
set_option linter.unusedSectionVars false
set_option maxRecDepth 100000
variable [Inhabited RawG]
theorem ck_r0000 {c : CT} {n i : Nat} {acts : List ActT} {a : ActT} {bs : List BkT} {es re : List EjT} {rb : List BrT} {rp : List PrT} {hs : List (BkT × EjT)} {xa xd xl xw : List Int} {t : TrT} {r : List TrT} {now wild : Int} {okv mv : Bool} : ChkKey c n i acts a bs es re rb rp hs none none none none (some (t :: r)) now wild okv mv := by
  unfold ChkKey
  kernel_rfl
theorem ck_r0001 {c : CT} {n i : Nat} {acts : List ActT} {a : ActT} {bs : List BkT} {es re : List EjT} {rb : List BrT} {rp : List PrT} {hs : List (BkT × EjT)} {xa xd xl xw : List Int} {t : TrT} {r : List TrT} {now wild : Int} {okv mv : Bool} : ChkKey c n i acts a bs es re rb rp hs none none none (some xw) (some (t :: r)) now wild okv mv := by
  unfold ChkKey
  kernel_rfl
theorem ck_r0010 {c : CT} {n i : Nat} {acts : List ActT} {a : ActT} {bs : List BkT} {es re : List EjT} {rb : List BrT} {rp : List PrT} {hs : List (BkT × EjT)} {xa xd xl xw : List Int} {t : TrT} {r : List TrT} {now wild : Int} {okv mv : Bool} : ChkKey c n i acts a bs es re rb rp hs none none (some xl) none (some (t :: r)) now wild okv mv := by
  unfold ChkKey
  kernel_rfl
theorem ck_r0011 {c : CT} {n i : Nat} {acts : List ActT} {a : ActT} {bs : List BkT} {es re : List EjT} {rb : List BrT} {rp : List PrT} {hs : List (BkT × EjT)} {xa xd xl xw : List Int} {t : TrT} {r : List TrT} {now wild : Int} {okv mv : Bool} : ChkKey c n i acts a bs es re rb rp hs none none (some xl) (some xw) (some (t :: r)) now wild okv mv := by
  unfold ChkKey
  kernel_rfl
theorem ck_r0100 {c : CT} {n i : Nat} {acts : List ActT} {a : ActT} {bs : List BkT} {es re : List EjT} {rb : List BrT} {rp : List PrT} {hs : List (BkT × EjT)} {xa xd xl xw : List Int} {t : TrT} {r : List TrT} {now wild : Int} {okv mv : Bool} : ChkKey c n i acts a bs es re rb rp hs none (some xd) none none (some (t :: r)) now wild okv mv := by
  unfold ChkKey
  kernel_rfl
theorem ck_r0101 {c : CT} {n i : Nat} {acts : List ActT} {a : ActT} {bs : List BkT} {es re : List EjT} {rb : List BrT} {rp : List PrT} {hs : List (BkT × EjT)} {xa xd xl xw : List Int} {t : TrT} {r : List TrT} {now wild : Int} {okv mv : Bool} : ChkKey c n i acts a bs es re rb rp hs none (some xd) none (some xw) (some (t :: r)) now wild okv mv := by
  unfold ChkKey
  kernel_rfl
theorem ck_r0110 {c : CT} {n i : Nat} {acts : List ActT} {a : ActT} {bs : List BkT} {es re : List EjT} {rb : List BrT} {rp : List PrT} {hs : List (BkT × EjT)} {xa xd xl xw : List Int} {t : TrT} {r : List TrT} {now wild : Int} {okv mv : Bool} : ChkKey c n i acts a bs es re rb rp hs none (some xd) (some xl) none (some (t :: r)) now wild okv mv := by
  unfold ChkKey
  kernel_rfl
theorem ck_r0111 {c : CT} {n i : Nat} {acts : List ActT} {a : ActT} {bs : List BkT} {es re : List EjT} {rb : List BrT} {rp : List PrT} {hs : List (BkT × EjT)} {xa xd xl xw : List Int} {t : TrT} {r : List TrT} {now wild : Int} {okv mv : Bool} : ChkKey c n i acts a bs es re rb rp hs none (some xd) (some xl) (some xw) (some (t :: r)) now wild okv mv := by
  unfold ChkKey
  kernel_rfl
theorem ck_r1000 {c : CT} {n i : Nat} {acts : List ActT} {a : ActT} {bs : List BkT} {es re : List EjT} {rb : List BrT} {rp : List PrT} {hs : List (BkT × EjT)} {xa xd xl xw : List Int} {t : TrT} {r : List TrT} {now wild : Int} {okv mv : Bool} : ChkKey c n i acts a bs es re rb rp hs (some xa) none none none (some (t :: r)) now wild okv mv := by
  unfold ChkKey
  kernel_rfl
theorem ck_r1001 {c : CT} {n i : Nat} {acts : List ActT} {a : ActT} {bs : List BkT} {es re : List EjT} {rb : List BrT} {rp : List PrT} {hs : List (BkT × EjT)} {xa xd xl xw : List Int} {t : TrT} {r : List TrT} {now wild : Int} {okv mv : Bool} : ChkKey c n i acts a bs es re rb rp hs (some xa) none none (some xw) (some (t :: r)) now wild okv mv := by
  unfold ChkKey
  kernel_rfl
theorem ck_r1010 {c : CT} {n i : Nat} {acts : List ActT} {a : ActT} {bs : List BkT} {es re : List EjT} {rb : List BrT} {rp : List PrT} {hs : List (BkT × EjT)} {xa xd xl xw : List Int} {t : TrT} {r : List TrT} {now wild : Int} {okv mv : Bool} : ChkKey c n i acts a bs es re rb rp hs (some xa) none (some xl) none (some (t :: r)) now wild okv mv := by
  unfold ChkKey
  kernel_rfl
theorem ck_r1011 {c : CT} {n i : Nat} {acts : List ActT} {a : ActT} {bs : List BkT} {es re : List EjT} {rb : List BrT} {rp : List PrT} {hs : List (BkT × EjT)} {xa xd xl xw : List Int} {t : TrT} {r : List TrT} {now wild : Int} {okv mv : Bool} : ChkKey c n i acts a bs es re rb rp hs (some xa) none (some xl) (some xw) (some (t :: r)) now wild okv mv := by
  unfold ChkKey
  kernel_rfl
theorem ck_r1100 {c : CT} {n i : Nat} {acts : List ActT} {a : ActT} {bs : List BkT} {es re : List EjT} {rb : List BrT} {rp : List PrT} {hs : List (BkT × EjT)} {xa xd xl xw : List Int} {t : TrT} {r : List TrT} {now wild : Int} {okv mv : Bool} : ChkKey c n i acts a bs es re rb rp hs (some xa) (some xd) none none (some (t :: r)) now wild okv mv := by
  unfold ChkKey
  kernel_rfl
theorem ck_r1101 {c : CT} {n i : Nat} {acts : List ActT} {a : ActT} {bs : List BkT} {es re : List EjT} {rb : List BrT} {rp : List PrT} {hs : List (BkT × EjT)} {xa xd xl xw : List Int} {t : TrT} {r : List TrT} {now wild : Int} {okv mv : Bool} : ChkKey c n i acts a bs es re rb rp hs (some xa) (some xd) none (some xw) (some (t :: r)) now wild okv mv := by
  unfold ChkKey
  kernel_rfl
theorem ck_r1110 {c : CT} {n i : Nat} {acts : List ActT} {a : ActT} {bs : List BkT} {es re : List EjT} {rb : List BrT} {rp : List PrT} {hs : List (BkT × EjT)} {xa xd xl xw : List Int} {t : TrT} {r : List TrT} {now wild : Int} {okv mv : Bool} : ChkKey c n i acts a bs es re rb rp hs (some xa) (some xd) (some xl) none (some (t :: r)) now wild okv mv := by
  unfold ChkKey
  kernel_rfl
theorem ck_r1111 {c : CT} {n i : Nat} {acts : List ActT} {a : ActT} {bs : List BkT} {es re : List EjT} {rb : List BrT} {rp : List PrT} {hs : List (BkT × EjT)} {xa xd xl xw : List Int} {t : TrT} {r : List TrT} {now wild : Int} {okv mv : Bool} : ChkKey c n i acts a bs es re rb rp hs (some xa) (some xd) (some xl) (some xw) (some (t :: r)) now wild okv mv := by
  unfold ChkKey
  kernel_rfl
theorem ck_r {c : CT} {n i : Nat} {acts : List ActT} {a : ActT} {bs : List BkT} {es re : List EjT} {rb : List BrT} {rp : List PrT} {hs : List (BkT × EjT)} {xa xd xl xw : Option (List Int)} {t : TrT} {r : List TrT} {now wild : Int} {okv mv : Bool} : ChkKey c n i acts a bs es re rb rp hs xa xd xl xw (some (t :: r)) now wild okv mv := by
  cases xa with
  | none => cases xd with
    | none => cases xl with
      | none => cases xw with
        | none => exact ck_r0000 (xa := []) (xd := []) (xl := []) (xw := [])
        | some xw => exact ck_r0001 (xa := []) (xd := []) (xl := [])
      | some xl => cases xw with
        | none => exact ck_r0010 (xa := []) (xd := []) (xw := [])
        | some xw => exact ck_r0011 (xa := []) (xd := [])
    | some xd => cases xl with
      | none => cases xw with
        | none => exact ck_r0100 (xa := []) (xl := []) (xw := [])
        | some xw => exact ck_r0101 (xa := []) (xl := [])
      | some xl => cases xw with
        | none => exact ck_r0110 (xa := []) (xw := [])
        | some xw => exact ck_r0111 (xa := [])
  | some xa => cases xd with
    | none => cases xl with
      | none => cases xw with
        | none => exact ck_r1000 (xd := []) (xl := []) (xw := [])
        | some xw => exact ck_r1001 (xd := []) (xl := [])
      | some xl => cases xw with
        | none => exact ck_r1010 (xd := []) (xw := [])
        | some xw => exact ck_r1011 (xd := [])
    | some xd => cases xl with
      | none => cases xw with
        | none => exact ck_r1100 (xl := []) (xw := [])
        | some xw => exact ck_r1101 (xl := [])
      | some xl => cases xw with
        | none => exact ck_r1110 (xw := [])
        | some xw => exact ck_r1111
end Go.Proofs.Ytadpnamooajpoaa
