/- HealthScript: the check, run. -/
import Derived.Test.YtadpnamooajpoaaLA
import Derived.KernelRfl
namespace Go.Proofs.Ytadpnamooajpoaa
open Go.RowKit
set_option linter.unusedSimpArgs false
set_option linter.unusedVariables false
set_option linter.unusedSectionVars false
set_option maxRecDepth 100000
variable [Inhabited RawG]
theorem ck_n0000 {c : CT} {n i : Nat} {acts : List ActT} {a : ActT} {bs : List BkT} {es re : List EjT} {rb : List BrT} {rp : List PrT} {hs : List (BkT × EjT)} {xa xd xl xw : List Int} {t : TrT} {r : List TrT} {now wild : Int} {okv mv : Bool} : ChkKey c n i acts a bs es re rb rp hs none none none none none now wild okv mv := by
  unfold ChkKey
  kernel_rfl
theorem ck_n0001 {c : CT} {n i : Nat} {acts : List ActT} {a : ActT} {bs : List BkT} {es re : List EjT} {rb : List BrT} {rp : List PrT} {hs : List (BkT × EjT)} {xa xd xl xw : List Int} {t : TrT} {r : List TrT} {now wild : Int} {okv mv : Bool} : ChkKey c n i acts a bs es re rb rp hs none none none (some xw) none now wild okv mv := by
  unfold ChkKey
  kernel_rfl
theorem ck_n0010 {c : CT} {n i : Nat} {acts : List ActT} {a : ActT} {bs : List BkT} {es re : List EjT} {rb : List BrT} {rp : List PrT} {hs : List (BkT × EjT)} {xa xd xl xw : List Int} {t : TrT} {r : List TrT} {now wild : Int} {okv mv : Bool} : ChkKey c n i acts a bs es re rb rp hs none none (some xl) none none now wild okv mv := by
  unfold ChkKey
  kernel_rfl
theorem ck_n0011 {c : CT} {n i : Nat} {acts : List ActT} {a : ActT} {bs : List BkT} {es re : List EjT} {rb : List BrT} {rp : List PrT} {hs : List (BkT × EjT)} {xa xd xl xw : List Int} {t : TrT} {r : List TrT} {now wild : Int} {okv mv : Bool} : ChkKey c n i acts a bs es re rb rp hs none none (some xl) (some xw) none now wild okv mv := by
  unfold ChkKey
  kernel_rfl
theorem ck_n0100 {c : CT} {n i : Nat} {acts : List ActT} {a : ActT} {bs : List BkT} {es re : List EjT} {rb : List BrT} {rp : List PrT} {hs : List (BkT × EjT)} {xa xd xl xw : List Int} {t : TrT} {r : List TrT} {now wild : Int} {okv mv : Bool} : ChkKey c n i acts a bs es re rb rp hs none (some xd) none none none now wild okv mv := by
  unfold ChkKey
  kernel_rfl
theorem ck_n0101 {c : CT} {n i : Nat} {acts : List ActT} {a : ActT} {bs : List BkT} {es re : List EjT} {rb : List BrT} {rp : List PrT} {hs : List (BkT × EjT)} {xa xd xl xw : List Int} {t : TrT} {r : List TrT} {now wild : Int} {okv mv : Bool} : ChkKey c n i acts a bs es re rb rp hs none (some xd) none (some xw) none now wild okv mv := by
  unfold ChkKey
  kernel_rfl
theorem ck_n0110 {c : CT} {n i : Nat} {acts : List ActT} {a : ActT} {bs : List BkT} {es re : List EjT} {rb : List BrT} {rp : List PrT} {hs : List (BkT × EjT)} {xa xd xl xw : List Int} {t : TrT} {r : List TrT} {now wild : Int} {okv mv : Bool} : ChkKey c n i acts a bs es re rb rp hs none (some xd) (some xl) none none now wild okv mv := by
  unfold ChkKey
  kernel_rfl
theorem ck_n0111 {c : CT} {n i : Nat} {acts : List ActT} {a : ActT} {bs : List BkT} {es re : List EjT} {rb : List BrT} {rp : List PrT} {hs : List (BkT × EjT)} {xa xd xl xw : List Int} {t : TrT} {r : List TrT} {now wild : Int} {okv mv : Bool} : ChkKey c n i acts a bs es re rb rp hs none (some xd) (some xl) (some xw) none now wild okv mv := by
  unfold ChkKey
  kernel_rfl
theorem ck_n1000 {c : CT} {n i : Nat} {acts : List ActT} {a : ActT} {bs : List BkT} {es re : List EjT} {rb : List BrT} {rp : List PrT} {hs : List (BkT × EjT)} {xa xd xl xw : List Int} {t : TrT} {r : List TrT} {now wild : Int} {okv mv : Bool} : ChkKey c n i acts a bs es re rb rp hs (some xa) none none none none now wild okv mv := by
  unfold ChkKey
  kernel_rfl
theorem ck_n1001 {c : CT} {n i : Nat} {acts : List ActT} {a : ActT} {bs : List BkT} {es re : List EjT} {rb : List BrT} {rp : List PrT} {hs : List (BkT × EjT)} {xa xd xl xw : List Int} {t : TrT} {r : List TrT} {now wild : Int} {okv mv : Bool} : ChkKey c n i acts a bs es re rb rp hs (some xa) none none (some xw) none now wild okv mv := by
  unfold ChkKey
  kernel_rfl
theorem ck_n1010 {c : CT} {n i : Nat} {acts : List ActT} {a : ActT} {bs : List BkT} {es re : List EjT} {rb : List BrT} {rp : List PrT} {hs : List (BkT × EjT)} {xa xd xl xw : List Int} {t : TrT} {r : List TrT} {now wild : Int} {okv mv : Bool} : ChkKey c n i acts a bs es re rb rp hs (some xa) none (some xl) none none now wild okv mv := by
  unfold ChkKey
  kernel_rfl
theorem ck_n1011 {c : CT} {n i : Nat} {acts : List ActT} {a : ActT} {bs : List BkT} {es re : List EjT} {rb : List BrT} {rp : List PrT} {hs : List (BkT × EjT)} {xa xd xl xw : List Int} {t : TrT} {r : List TrT} {now wild : Int} {okv mv : Bool} : ChkKey c n i acts a bs es re rb rp hs (some xa) none (some xl) (some xw) none now wild okv mv := by
  unfold ChkKey
  kernel_rfl
theorem ck_n1100 {c : CT} {n i : Nat} {acts : List ActT} {a : ActT} {bs : List BkT} {es re : List EjT} {rb : List BrT} {rp : List PrT} {hs : List (BkT × EjT)} {xa xd xl xw : List Int} {t : TrT} {r : List TrT} {now wild : Int} {okv mv : Bool} : ChkKey c n i acts a bs es re rb rp hs (some xa) (some xd) none none none now wild okv mv := by
  unfold ChkKey
  kernel_rfl
theorem ck_n1101 {c : CT} {n i : Nat} {acts : List ActT} {a : ActT} {bs : List BkT} {es re : List EjT} {rb : List BrT} {rp : List PrT} {hs : List (BkT × EjT)} {xa xd xl xw : List Int} {t : TrT} {r : List TrT} {now wild : Int} {okv mv : Bool} : ChkKey c n i acts a bs es re rb rp hs (some xa) (some xd) none (some xw) none now wild okv mv := by
  unfold ChkKey
  kernel_rfl
theorem ck_n1110 {c : CT} {n i : Nat} {acts : List ActT} {a : ActT} {bs : List BkT} {es re : List EjT} {rb : List BrT} {rp : List PrT} {hs : List (BkT × EjT)} {xa xd xl xw : List Int} {t : TrT} {r : List TrT} {now wild : Int} {okv mv : Bool} : ChkKey c n i acts a bs es re rb rp hs (some xa) (some xd) (some xl) none none now wild okv mv := by
  unfold ChkKey
  kernel_rfl
theorem ck_n1111 {c : CT} {n i : Nat} {acts : List ActT} {a : ActT} {bs : List BkT} {es re : List EjT} {rb : List BrT} {rp : List PrT} {hs : List (BkT × EjT)} {xa xd xl xw : List Int} {t : TrT} {r : List TrT} {now wild : Int} {okv mv : Bool} : ChkKey c n i acts a bs es re rb rp hs (some xa) (some xd) (some xl) (some xw) none now wild okv mv := by
  unfold ChkKey
  kernel_rfl
theorem ck_n {c : CT} {n i : Nat} {acts : List ActT} {a : ActT} {bs : List BkT} {es re : List EjT} {rb : List BrT} {rp : List PrT} {hs : List (BkT × EjT)} {xa xd xl xw : Option (List Int)} {now wild : Int} {okv mv : Bool} : ChkKey c n i acts a bs es re rb rp hs xa xd xl xw none now wild okv mv := by
  cases xa with
  | none => cases xd with
    | none => cases xl with
      | none => cases xw with
        | none => exact ck_n0000 (t := (0, 0)) (r := []) (xa := []) (xd := []) (xl := []) (xw := [])
        | some xw => exact ck_n0001 (t := (0, 0)) (r := []) (xa := []) (xd := []) (xl := [])
      | some xl => cases xw with
        | none => exact ck_n0010 (t := (0, 0)) (r := []) (xa := []) (xd := []) (xw := [])
        | some xw => exact ck_n0011 (t := (0, 0)) (r := []) (xa := []) (xd := [])
    | some xd => cases xl with
      | none => cases xw with
        | none => exact ck_n0100 (t := (0, 0)) (r := []) (xa := []) (xl := []) (xw := [])
        | some xw => exact ck_n0101 (t := (0, 0)) (r := []) (xa := []) (xl := [])
      | some xl => cases xw with
        | none => exact ck_n0110 (t := (0, 0)) (r := []) (xa := []) (xw := [])
        | some xw => exact ck_n0111 (t := (0, 0)) (r := []) (xa := [])
  | some xa => cases xd with
    | none => cases xl with
      | none => cases xw with
        | none => exact ck_n1000 (t := (0, 0)) (r := []) (xd := []) (xl := []) (xw := [])
        | some xw => exact ck_n1001 (t := (0, 0)) (r := []) (xd := []) (xl := [])
      | some xl => cases xw with
        | none => exact ck_n1010 (t := (0, 0)) (r := []) (xd := []) (xw := [])
        | some xw => exact ck_n1011 (t := (0, 0)) (r := []) (xd := [])
    | some xd => cases xl with
      | none => cases xw with
        | none => exact ck_n1100 (t := (0, 0)) (r := []) (xl := []) (xw := [])
        | some xw => exact ck_n1101 (t := (0, 0)) (r := []) (xl := [])
      | some xl => cases xw with
        | none => exact ck_n1110 (t := (0, 0)) (r := []) (xw := [])
        | some xw => exact ck_n1111 (t := (0, 0)) (r := [])
end Go.Proofs.Ytadpnamooajpoaa
