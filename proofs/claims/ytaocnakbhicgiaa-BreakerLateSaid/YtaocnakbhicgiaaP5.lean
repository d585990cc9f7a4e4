/- Breaker: the loops of a law as wholes. -/
import Derived.Test.YtaocnakbhicgiaaK5
namespace Go.Proofs.Ytaocnakbhicgiaa
open Go.RowKit
set_option linter.unusedSimpArgs false
set_option linter.unusedVariables false
set_option maxRecDepth 100000
def fO5 (al c : Nat) (well : Bool) (k : Nat) : List Value := mkF [(1, .slice (some ⟨0, 0, none⟩) al c), (2, .bool well), (3, .pointer (some ⟨1, 0, none⟩)), (7, .pointer (some ⟨897, 0, none⟩)), (8, .int .i64 (k : Int))] 162 0
def fI5 (al c : Nat) (well : Bool) (k x m : Nat) : List Value := mkF [(1, .slice (some ⟨0, 0, none⟩) al c), (2, .bool well), (3, .pointer (some ⟨1, 0, none⟩)), (7, .pointer (some ⟨897, 0, none⟩)), (8, .int .i64 (k : Int)), (9, .int .i64 (x : Int))] 162 0
def hO5 (cf cd ct cg : Int) (acts : List Act4) (el b : Nat) (x : StT) : Heap := (0, ⟨el, acts.flatMap act4F, 2⟩) :: (1, ⟨23, [Value.int .i64 cf, Value.int .i64 cd, Value.int .i64 ct, Value.int .i64 cg], 0⟩) :: (897, runB x.1 (oSl x.2.1 b) x.2.2) :: oHp x.2.1 b
def hR5 (cf cd ct cg : Int) (acts : List Act4) (el b : Nat) (x : BT) (now : Int) (os : List Int) : Heap := [(0, ⟨el, acts.flatMap act4F, 2⟩), (1, ⟨23, [Value.int .i64 cf, Value.int .i64 cd, Value.int .i64 ct, Value.int .i64 cg], 0⟩), (897, runB x (.slice (some ⟨b, 0, none⟩) os.length os.length) now), (b, ⟨3, os.map fun e : Int => Value.int .i64 e, 3⟩)]
section
variable {cf cd ct cg : Int} {well : Bool} {acts : List Act4} {c el k : Nat} {os : List Int}
theorem i5_loop1089 {s f u o g p now : Int} (h80 : os.length ≤ 1000) (hc : check_0 cf cd ct cg = 0) (hm : may_0 cf cd ct cg now = 0) :
    LoopOK Try.prog (loopN Try.prog 5 1) (fI5 acts.length c well k 0 0) (hR5 cf cd ct cg acts el 1089 (s, f, u, o, g, p) now os) 1922 ⟨.exit 2, fI5 acts.length c well k os.length 0, hR5 cf cd ct cg acts el 1089 (s, f, u, o, g, p) now os, 1986, []⟩ := by
  refine loop_ind callB_spec mixed (LF := 10) (F := 100) (nxb := 1923) (keys := [1, 2, 3, 7, 8, 9]) (keysE := [1, 2, 3, 7, 8, 9]) os.length (fun x => fI5 acts.length c well k x 0) (fun _ => hR5 cf cd ct cg acts el 1089 (s, f, u, o, g, p) now os) (by decide) (by simp) rfl ?_ ?_ (fun h => by cases h)
  · intro x hx
    exact i5_round1089 (n := 0) hx h80 (Nat.zero_le _) hc hm
  · exact i5_last1089 (n := 0) rfl
theorem i5_loop1730 {s f u o g p now : Int} (h80 : os.length ≤ 1000) (hc : check_0 cf cd ct cg = 0) (hm : may_0 cf cd ct cg now = 0) :
    LoopOK Try.prog (loopN Try.prog 5 1) (fI5 acts.length c well k 0 0) (hR5 cf cd ct cg acts el 1730 (s, f, u, o, g, p) now os) 1922 ⟨.exit 2, fI5 acts.length c well k os.length 0, hR5 cf cd ct cg acts el 1730 (s, f, u, o, g, p) now os, 1986, []⟩ := by
  refine loop_ind callB_spec mixed (LF := 10) (F := 100) (nxb := 1923) (keys := [1, 2, 3, 7, 8, 9]) (keysE := [1, 2, 3, 7, 8, 9]) os.length (fun x => fI5 acts.length c well k x 0) (fun _ => hR5 cf cd ct cg acts el 1730 (s, f, u, o, g, p) now os) (by decide) (by simp) rfl ?_ ?_ (fun h => by cases h)
  · intro x hx
    exact i5_round1730 (n := 0) hx h80 (Nat.zero_le _) hc hm
  · exact i5_last1730 (n := 0) rfl
theorem o5_step {b b2 : BT} {out out2 : Option (List Int)} {now n2 : Int} (hc : check_0 cf cd ct cg = 0) (hm : may_0 cf cd ct cg n2 = 0) (hk : k < acts.length) (h80 : acts.length ≤ 80) (hn2 : n2 = n2Of (acts.getD k default) now) (h1000 : (out2.getD []).length ≤ 1000) (h : Stp cf cd ct cg (acts.getD k default) (b, out, now) b2 out2) :
    RoundTo Try.prog callB 10 100 (loopN Try.prog 5 0) 1089 1090 [1, 2, 3, 7, 8] .normal (fO5 acts.length c well k) (hO5 cf cd ct cg acts el 1089 (b, out, now)) (fO5 acts.length c well (k + 1)) (hO5 cf cd ct cg acts el 1089 (b2, out2, n2)) 1090 := by
  unfold Stp at h
  rw [← hn2] at h
  obtain ⟨s, f, u, o, g, p⟩ := b
  obtain ⟨s2, f2, u2, o2, g2, p2⟩ := b2
  rcases h with ⟨e1, e2, hcall⟩ | ⟨hs, hcall⟩
  · cases e1
    dsimp only at e2 hcall
    subst e2
    cases out2 with
    | none => exact o5_A (well := well) (s2 := 0) (f2 := 0) (u2 := 0) (o2 := 0) (g2 := 0) (p2 := 0) (os := []) (os2 := []) (m := 0) hk h80 hcall
    | some os =>
      cases os with
      | nil => exact o5_C (well := well) (s2 := 0) (f2 := 0) (u2 := 0) (o2 := 0) (g2 := 0) (p2 := 0) (os := []) (os2 := []) (m := 0) hk h80 hcall
      | cons z l => exact o5_E (well := well) (s2 := 0) (f2 := 0) (u2 := 0) (o2 := 0) (g2 := 0) (p2 := 0) (os2 := []) (m := 0) hk h80 hcall (i5_loop1089 (os := z :: l) h1000 hc hm)
  · dsimp only at hs hcall
    rcases hs with ⟨e1, e2⟩ | ⟨_, _, e2⟩ | ⟨j, os, wl, e1, hj, e2, _⟩
    · subst e2
      cases out2 with
      | none =>
        cases e1
        exact o5_A (well := well) (s2 := 0) (f2 := 0) (u2 := 0) (o2 := 0) (g2 := 0) (p2 := 0) (os := []) (os2 := []) (m := 0) hk h80 hcall
      | some os =>
        cases os with
        | nil => exact o5_H (well := well) (os := []) (os2 := []) (m := 0) hk h80 hcall
        | cons z l => exact o5_F (well := well) (m := 0) hk h80 hcall (i5_loop1730 (os := z :: l) h1000 hc hm)
    · cases out2 with
      | none => cases e2
      | some os2 =>
        cases os2 with
        | nil => simp at e2
        | cons z2 l2 =>
          cases out with
          | none => exact o5_B (well := well) (os := []) (m := 0) hk h80 hcall (i5_loop1730 (os := z2 :: l2) h1000 hc hm)
          | some os =>
            cases os with
            | nil => exact o5_D (well := well) (os := []) (m := 0) hk h80 hcall (i5_loop1730 (os := z2 :: l2) h1000 hc hm)
            | cons z l => exact o5_F (well := well) (m := 0) hk h80 hcall (i5_loop1730 (os := z2 :: l2) h1000 hc hm)
    · subst e1
      cases os with
      | nil => simp at hj
      | cons z l =>
        cases out2 with
        | none => cases e2
        | some os2 =>
          cases os2 with
          | nil => exact o5_G (well := well) (os2 := []) (m := 0) hk h80 hcall
          | cons z2 l2 => exact o5_F (well := well) (m := 0) hk h80 hcall (i5_loop1730 (os := z2 :: l2) h1000 hc hm)
theorem o5_loop (hc : check_0 cf cd ct cg = 0) (h80 : acts.length ≤ 80) :
    LoopOK Try.prog (loopN Try.prog 5 0) (fO5 acts.length c well 0) (hO5 cf cd ct cg acts el 1089 ((1, 0, 0, 0, 0, 0), none, 0)) 1089 ⟨.exit 0, mkF [] 162 0, [], 1153, []⟩ := by
  refine loop_ind callB_spec mixed (LF := 10) (F := 100) (nxb := 1090) (keys := [1, 2, 3, 7, 8]) (keysE := []) acts.length (fun k => fO5 acts.length c well k) (fun k => hO5 cf cd ct cg acts el 1089 (stA cf cd ct cg acts k)) (by decide) (by simp) rfl ?_ ?_ (fun h => by cases h)
  · intro k hk
    obtain ⟨h1, h2, h3⟩ := stA_inv (cf := cf) (cd := cd) (ct := ct) (cg := cg) hc h80 k (by omega)
    obtain ⟨h4, h5, h6⟩ := stA_inv (cf := cf) (cd := cd) (ct := ct) (cg := cg) hc h80 (k + 1) (by omega)
    have hs := stA_step hc h80 hk
    have hn := stA_now (cf := cf) (cd := cd) (ct := ct) (cg := cg) (k := k) (acts := acts)
    revert h1 h2 h3 h4 h5 h6 hs hn
    generalize stA cf cd ct cg acts k = x
    generalize stA cf cd ct cg acts (k + 1) = y
    obtain ⟨b, out, now⟩ := x
    obtain ⟨b2, out2, n2⟩ := y
    intro h1 h2 h3 h4 h5 h6 hs hn
    exact o5_step hc (may_in hc h4 (by simp only at h5; omega)) hk h80 hn (by simp only at h6; omega) hs
  · generalize stA cf cd ct cg acts acts.length = x
    obtain ⟨⟨s, f, u, o, g, p⟩, out, now⟩ := x
    cases out with
    | none => exact o5_lastnil (well := well) (s2 := 0) (f2 := 0) (u2 := 0) (o2 := 0) (g2 := 0) (p2 := 0) (n2 := 0) (m := 0) (os := []) (os2 := []) rfl
    | some os =>
      cases os with
      | nil => exact o5_lastemp (well := well) (s2 := 0) (f2 := 0) (u2 := 0) (o2 := 0) (g2 := 0) (p2 := 0) (n2 := 0) (m := 0) (os := []) (os2 := []) rfl
      | cons z l => exact o5_lastrow (well := well) (s2 := 0) (f2 := 0) (u2 := 0) (o2 := 0) (g2 := 0) (p2 := 0) (n2 := 0) (m := 0) (os := z :: l) (os2 := []) rfl
end
end Go.Proofs.Ytaocnakbhicgiaa
