/- Breaker: the loops of a law as wholes. -/
import Derived.Test.YtaocnakbhicgiaaK4
namespace Go.Proofs.Ytaocnakbhicgiaa
open Go.RowKit
set_option linter.unusedSimpArgs false
set_option linter.unusedVariables false
set_option maxRecDepth 100000
def fO4 (al c : Nat) (well : Bool) (k : Nat) : List Value := mkF [(1, .slice (some ⟨0, 0, none⟩) al c), (2, .pointer (some ⟨1, 0, none⟩)), (5, .pointer (some ⟨897, 0, none⟩)), (6, .int .i64 (k : Int))] 126 0
def fI4 (al c : Nat) (well : Bool) (k x m : Nat) : List Value := mkF [(1, .slice (some ⟨0, 0, none⟩) al c), (2, .pointer (some ⟨1, 0, none⟩)), (5, .pointer (some ⟨897, 0, none⟩)), (6, .int .i64 (k : Int)), (8, .int .i64 (m : Int)), (9, .int .i64 (x : Int))] 126 0
def hO4 (cf cd ct cg : Int) (acts : List Act4) (el b : Nat) (x : StT) : Heap := (0, ⟨el, acts.flatMap act4F, 2⟩) :: (1, ⟨23, [Value.int .i64 cf, Value.int .i64 cd, Value.int .i64 ct, Value.int .i64 cg], 0⟩) :: (897, runB x.1 (oSl x.2.1 b) x.2.2) :: oHp x.2.1 b
def hR4 (cf cd ct cg : Int) (acts : List Act4) (el b : Nat) (x : BT) (now : Int) (os : List Int) : Heap := [(0, ⟨el, acts.flatMap act4F, 2⟩), (1, ⟨23, [Value.int .i64 cf, Value.int .i64 cd, Value.int .i64 ct, Value.int .i64 cg], 0⟩), (897, runB x (.slice (some ⟨b, 0, none⟩) os.length os.length) now), (b, ⟨3, os.map fun e : Int => Value.int .i64 e, 3⟩)]
section
variable {cf cd ct cg : Int} {well : Bool} {acts : List Act4} {c el k : Nat} {os : List Int}
theorem i4_loop1089 {s f u o g p now : Int} (h80 : os.length ≤ 1000) :
    LoopOK Try.prog (loopN Try.prog 4 1) (fI4 acts.length c well k 0 (cntE os p 0)) (hR4 cf cd ct cg acts el 1089 (s, f, u, o, g, p) now os) 3394 ⟨.exit 2, fI4 acts.length c well k os.length (cntE os p os.length), hR4 cf cd ct cg acts el 1089 (s, f, u, o, g, p) now os, 3458, []⟩ := by
  refine loop_ind callB_spec mixed (LF := 10) (F := 100) (nxb := 3395) (keys := [1, 2, 5, 6, 8, 9]) (keysE := [1, 2, 5, 6, 8, 9]) os.length (fun x => fI4 acts.length c well k x (cntE os p x)) (fun _ => hR4 cf cd ct cg acts el 1089 (s, f, u, o, g, p) now os) (by decide) (by simp) rfl ?_ ?_ (fun h => by cases h)
  · intro x hx
    have hle : cntE os p x ≤ x := by unfold cntE; exact Nat.le_trans List.count_le_length (by simp; omega)
    rw [cntE_succ hx]
    rcases Bool.eq_false_or_eq_true (os.getD x 0 == p) with h | h
    · rw [if_pos (by simpa using h)]
      exact i4_roundT1089 (well := well) hx h80 hle h
    · rw [if_neg (by simpa using h)]
      exact i4_roundF1089 (well := well) hx h80 hle h
  · exact i4_last1089 (well := well) rfl
theorem i4_loop2114 {s f u o g p now : Int} (h80 : os.length ≤ 1000) :
    LoopOK Try.prog (loopN Try.prog 4 1) (fI4 acts.length c well k 0 (cntE os p 0)) (hR4 cf cd ct cg acts el 2114 (s, f, u, o, g, p) now os) 3394 ⟨.exit 2, fI4 acts.length c well k os.length (cntE os p os.length), hR4 cf cd ct cg acts el 2114 (s, f, u, o, g, p) now os, 3458, []⟩ := by
  refine loop_ind callB_spec mixed (LF := 10) (F := 100) (nxb := 3395) (keys := [1, 2, 5, 6, 8, 9]) (keysE := [1, 2, 5, 6, 8, 9]) os.length (fun x => fI4 acts.length c well k x (cntE os p x)) (fun _ => hR4 cf cd ct cg acts el 2114 (s, f, u, o, g, p) now os) (by decide) (by simp) rfl ?_ ?_ (fun h => by cases h)
  · intro x hx
    have hle : cntE os p x ≤ x := by unfold cntE; exact Nat.le_trans List.count_le_length (by simp; omega)
    rw [cntE_succ hx]
    rcases Bool.eq_false_or_eq_true (os.getD x 0 == p) with h | h
    · rw [if_pos (by simpa using h)]
      exact i4_roundT2114 (well := well) hx h80 hle h
    · rw [if_neg (by simpa using h)]
      exact i4_roundF2114 (well := well) hx h80 hle h
  · exact i4_last2114 (well := well) rfl
theorem o4_step {b b2 : BT} {out out2 : Option (List Int)} {now n2 : Int} (hc : check_0 cf cd ct cg = 0) (hm : may_0 cf cd ct cg n2 = 0) (hk : k < acts.length) (h80 : acts.length ≤ 80) (hn2 : n2 = n2Of (acts.getD k default) now) (h1000 : (out2.getD []).length ≤ 1000) (hp : b.2.2.2.2.2 ≤ b2.2.2.2.2.2) (hI : TInv ct cg (k + 1) b2.1 b2.2.2.2.1 b2.2.2.2.2.1 b2.2.2.2.2.2 (out2.getD [])) (h : Stp cf cd ct cg (acts.getD k default) (b, out, now) b2 out2) :
    RoundTo Try.prog callB 10 100 (loopN Try.prog 4 0) 1089 1090 [1, 2, 5, 6] .normal (fO4 acts.length c well k) (hO4 cf cd ct cg acts el 1089 (b, out, now)) (fO4 acts.length c well (k + 1)) (hO4 cf cd ct cg acts el 1089 (b2, out2, n2)) 1090 := by
  unfold Stp at h
  rw [← hn2] at h
  obtain ⟨s, f, u, o, g, p⟩ := b
  obtain ⟨s2, f2, u2, o2, g2, p2⟩ := b2
  rcases h with ⟨e1, e2, hcall⟩ | ⟨hs, hcall⟩
  · cases e1
    dsimp only at e2 hcall
    subst e2
    cases out2 with
    | none => exact o4_A (well := true) (s2 := 0) (f2 := 0) (u2 := 0) (o2 := 0) (g2 := 0) (p2 := 0) (os := []) (os2 := []) (m := 0) hk h80 hcall hp hI.st hI.no (fun h => by have := hI.hf h; exact ⟨this.1, this.2.1, this.2.2.2⟩)
    | some os =>
      cases os with
      | nil => exact o4_C (well := true) (s2 := 0) (f2 := 0) (u2 := 0) (o2 := 0) (g2 := 0) (p2 := 0) (os := []) (os2 := []) (m := 0) hk h80 hcall hp hI.st hI.no (fun h => by have := hI.hf h; exact ⟨this.1, this.2.1, this.2.2.2⟩)
      | cons z l => exact o4_E (well := true) (s2 := 0) (f2 := 0) (u2 := 0) (o2 := 0) (g2 := 0) (p2 := 0) (os2 := []) hk h80 hcall (i4_loop1089 (well := well) (os := z :: l) h1000) hp hI.st hI.no (fun h => by have := hI.hf h; rw [cntE_all]; exact ⟨this.1, this.2.1, this.2.2.2⟩)
  · dsimp only at hs hcall
    rcases hs with ⟨e1, e2⟩ | ⟨_, _, e2⟩ | ⟨j, os, wl, e1, hj, e2, _⟩
    · subst e2
      cases out2 with
      | none =>
        cases e1
        exact o4_A (well := true) (s2 := 0) (f2 := 0) (u2 := 0) (o2 := 0) (g2 := 0) (p2 := 0) (os := []) (os2 := []) (m := 0) hk h80 hcall hp hI.st hI.no (fun h => by have := hI.hf h; exact ⟨this.1, this.2.1, this.2.2.2⟩)
      | some os =>
        cases os with
        | nil => exact o4_H (well := true) (os := []) (os2 := []) (m := 0) hk h80 hcall hp hI.st hI.no (fun h => by have := hI.hf h; exact ⟨this.1, this.2.1, this.2.2.2⟩)
        | cons z l => exact o4_F (well := true) hk h80 hcall (i4_loop2114 (well := well) (os := z :: l) h1000) hp hI.st hI.no (fun h => by have := hI.hf h; rw [cntE_all]; exact ⟨this.1, this.2.1, this.2.2.2⟩)
    · cases out2 with
      | none => cases e2
      | some os2 =>
        cases os2 with
        | nil => simp at e2
        | cons z2 l2 =>
          cases out with
          | none => exact o4_B (well := true) (os := []) hk h80 hcall (i4_loop2114 (well := well) (os := z2 :: l2) h1000) hp hI.st hI.no (fun h => by have := hI.hf h; rw [cntE_all]; exact ⟨this.1, this.2.1, this.2.2.2⟩)
          | some os =>
            cases os with
            | nil => exact o4_D (well := true) (os := []) hk h80 hcall (i4_loop2114 (well := well) (os := z2 :: l2) h1000) hp hI.st hI.no (fun h => by have := hI.hf h; rw [cntE_all]; exact ⟨this.1, this.2.1, this.2.2.2⟩)
            | cons z l => exact o4_F (well := true) hk h80 hcall (i4_loop2114 (well := well) (os := z2 :: l2) h1000) hp hI.st hI.no (fun h => by have := hI.hf h; rw [cntE_all]; exact ⟨this.1, this.2.1, this.2.2.2⟩)
    · subst e1
      cases os with
      | nil => simp at hj
      | cons z l =>
        cases out2 with
        | none => cases e2
        | some os2 =>
          cases os2 with
          | nil => exact o4_G (well := true) (os2 := []) (m := 0) hk h80 hcall hp hI.st hI.no (fun h => by have := hI.hf h; exact ⟨this.1, this.2.1, this.2.2.2⟩)
          | cons z2 l2 => exact o4_F (well := true) hk h80 hcall (i4_loop2114 (well := well) (os := z2 :: l2) h1000) hp hI.st hI.no (fun h => by have := hI.hf h; rw [cntE_all]; exact ⟨this.1, this.2.1, this.2.2.2⟩)
theorem o4_loop (hc : check_0 cf cd ct cg = 0) (h80 : acts.length ≤ 80) :
    LoopOK Try.prog (loopN Try.prog 4 0) (fO4 acts.length c well 0) (hO4 cf cd ct cg acts el 1089 ((1, 0, 0, 0, 0, 0), none, 0)) 1089 ⟨.exit 0, mkF [] 126 0, [], 1153, []⟩ := by
  refine loop_ind callB_spec mixed (LF := 10) (F := 100) (nxb := 1090) (keys := [1, 2, 5, 6]) (keysE := []) acts.length (fun k => fO4 acts.length c well k) (fun k => hO4 cf cd ct cg acts el 1089 (stA cf cd ct cg acts k)) (by decide) (by simp) rfl ?_ ?_ (fun h => by cases h)
  · intro k hk
    obtain ⟨h1, h2, h3⟩ := stA_inv (cf := cf) (cd := cd) (ct := ct) (cg := cg) hc h80 k (by omega)
    obtain ⟨h4, h5, h6⟩ := stA_inv (cf := cf) (cd := cd) (ct := ct) (cg := cg) hc h80 (k + 1) (by omega)
    have hs := stA_step hc h80 hk
    have hn := stA_now (cf := cf) (cd := cd) (ct := ct) (cg := cg) (k := k) (acts := acts)
    have hT := stA_tinv (cf := cf) (cd := cd) (ct := ct) (cg := cg) hc h80 (k + 1) (by omega)
    have hp := (tinv_step hc (may_in hc (by rw [← hn]; omega) (by rw [← hn]; omega)) (by omega) (stA_tinv (cf := cf) (cd := cd) (ct := ct) (cg := cg) hc h80 k (by omega)) (stp_out hs)).2
    revert h1 h2 h3 h4 h5 h6 hs hn hT hp
    generalize stA cf cd ct cg acts k = x
    generalize stA cf cd ct cg acts (k + 1) = y
    obtain ⟨b, out, now⟩ := x
    obtain ⟨b2, out2, n2⟩ := y
    intro h1 h2 h3 h4 h5 h6 hs hn hT hp
    exact o4_step hc (may_in hc h4 (by simp only at h5; omega)) hk h80 hn (by simp only at h6; omega) hp hT hs
  · generalize stA cf cd ct cg acts acts.length = x
    obtain ⟨⟨s, f, u, o, g, p⟩, out, now⟩ := x
    cases out with
    | none => exact o4_lastnil (well := true) (s2 := 0) (f2 := 0) (u2 := 0) (o2 := 0) (g2 := 0) (p2 := 0) (n2 := 0) (m := 0) (os := []) (os2 := []) rfl
    | some os =>
      cases os with
      | nil => exact o4_lastemp (well := true) (s2 := 0) (f2 := 0) (u2 := 0) (o2 := 0) (g2 := 0) (p2 := 0) (n2 := 0) (m := 0) (os := []) (os2 := []) rfl
      | cons z l => exact o4_lastrow (well := true) (s2 := 0) (f2 := 0) (u2 := 0) (o2 := 0) (g2 := 0) (p2 := 0) (n2 := 0) (m := 0) (os := z :: l) (os2 := []) rfl
end
end Go.Proofs.Ytaocnakbhicgiaa
