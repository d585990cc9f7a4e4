import Derived.Test.YtbmgigbcilgieaaE
namespace Go.Proofs.Ytbmgigbcilgieaa
open Go.RowKit
set_option maxHeartbeats 400000
set_option maxRecDepth 100000
def limOf (c : PC) (up : Bool) : Int := cond up c.fall c.rise
def endP (c : PC) (p : PP) (well : Bool) (now : Int) : PP :=
  if well = p.up then ⟨p.up, 0, nextOf now c.every, false, 0⟩
  else if limOf c p.up ≤ p.run + 1 then ⟨well, 0, nextOf now c.every, false, 0⟩ else ⟨p.up, p.run + 1, nextOf now c.every, false, 0⟩
theorem end_ok (c : PC) (p : PP) (well : Bool) (now : Int) (w : World) (h : mayE c now = 0) (ho : p.out = true) (hr1 : -4611686018427387904 ≤ p.run) (hr2 : p.run ≤ 4611686018427387904) :
    Calls Try.prog 14 #[c.v, p.v, .bool well, .int .i64 now] w fun e w' => e = .returned (.tuple #[(endP c p well now).v, .int .i64 0]) ∧ Up w w' := by
  by_cases hs : well = p.up
  · subst hs
    rw [show endP c p p.up now = ⟨p.up, 0, nextOf now c.every, false, 0⟩ by simp [endP]]
    exact end_same c p now w h ho
  · have hw : well = !p.up := by cases well <;> cases h2 : p.up <;> simp_all
    by_cases hk : limOf c p.up ≤ p.run + 1
    · rw [show endP c p well now = ⟨well, 0, nextOf now c.every, false, 0⟩ by simp [endP, hs, hk]]
      subst hw
      cases hu : p.up
      · exact end_fx c p now w h ho hu hr1 hr2 (by simpa [limOf, hu] using hk)
      · exact end_tx c p now w h ho hu hr1 hr2 (by simpa [limOf, hu] using hk)
    · rw [show endP c p well now = ⟨p.up, p.run + 1, nextOf now c.every, false, 0⟩ by simp [endP, hs, hk]]
      subst hw
      cases hu : p.up
      · exact end_fk c p now w h ho hu hr1 hr2 (by simpa [limOf, hu] using hk)
      · exact end_tk c p now w h ho hu hr1 hr2 (by simpa [limOf, hu] using hk)
def endE (c : PC) (p : PP) (now : Int) : Int := if mayE c now = 0 then (if p.out then 0 else 8) else mayE c now
def endR (c : PC) (p : PP) (well : Bool) (now : Int) : PP := if mayE c now = 0 ∧ p.out = true then endP c p well now else p
theorem end_any (c : PC) (p : PP) (well : Bool) (now : Int) (w : World) (hr1 : -4611686018427387904 ≤ p.run) (hr2 : p.run ≤ 4611686018427387904) :
    Calls Try.prog 14 #[c.v, p.v, .bool well, .int .i64 now] w fun e w' => e = .returned (.tuple #[(endR c p well now).v, .int .i64 (endE c p now)]) ∧ Up w w' := by
  by_cases h : mayE c now = 0
  · cases ho : p.out
    · rw [show endR c p well now = p by simp [endR, ho], show endE c p now = 8 by simp [endE, h, ho]]
      exact end_out c p well now w h ho
    · rw [show endR c p well now = endP c p well now by simp [endR, h, ho], show endE c p now = 0 by simp [endE, h, ho]]
      exact end_ok c p well now w h ho hr1 hr2
  · rw [show endR c p well now = p by simp [endR, h], show endE c p now = mayE c now by simp [endE, h]]
    exact end_no c p well now w h
/-- What the closure makes of the probe. -/
def stepP (c : PC) (p : PP) (well : Bool) : PP := endP c { p with out := true } well 0
theorem stepP_run {c : PC} {p : PP} {well : Bool} (hc : mayE c 0 = 0) (h1 : 0 ≤ p.run) (h2 : p.run ≤ 1048576) : 0 ≤ (stepP c p well).run ∧ (stepP c p well).run ≤ 1048576 := by
  have := mayE_zero hc
  unfold stepP endP limOf
  dsimp only
  split
  · simp
  · split
    · simp
    · rename_i hk
      cases hu : p.up <;> simp only [hu, cond_true, cond_false] at hk ⊢ <;> omega
theorem step_any (c : PC) (p : PP) (well : Bool) (gp gc : Nat) (w : World) (hc : mayE c 0 = 0) (h1 : 0 ≤ p.run) (h2 : p.run ≤ 1048576)
    (Bp : Blk w gp 32 #[.bool p.up, .int .i64 p.run, .int .i64 p.next, .bool p.out, .int .i64 p.since]) (Bc : Blk w gc 23 #[.int .i64 c.every, .int .i64 c.wait, .int .i64 c.rise, .int .i64 c.fall]) :
    Calls Try.prog 25 #[.bool well, .pointer (some ⟨gp, 0, none⟩), .pointer (some ⟨gc, 0, none⟩)] w fun e w' => e = .returned (.bool (stepP c p well).up) ∧ w.grownBy w' (some gp) ∧
      Blk w' gp 32 #[.bool (stepP c p well).up, .int .i64 (stepP c p well).run, .int .i64 (stepP c p well).next, .bool (stepP c p well).out, .int .i64 (stepP c p well).since] := by
  have HE := Lib.hid (fun v => end_ok c { p with out := true } well 0 v hc rfl (by dsimp only; omega) (by dsimp only; omega))
  have hne : gp ≠ gc := by
    rintro rfl
    unfold Blk at Bp Bc
    rw [Bp] at Bc
    cases Bc
  change Hid (∀ v, Calls Try.prog 14 #[_, _, .bool well, .int .i64 0] v fun e w' => e = .returned (.tuple #[(stepP c p well).v, .int .i64 0]) ∧ Up v w') at HE
  revert HE
  generalize stepP c p well = q
  intro HE
  obtain ⟨up, run, next, out, since⟩ := p
  obtain ⟨a, b, r, f⟩ := c
  obtain ⟨qu, qr, qn, qo, qs⟩ := q
  simp only [PP.v, PC.v] at HE Bp Bc ⊢
  obtain ⟨W, hW⟩ : ∃ W, W = w.setCell ⟨gp, 3, none⟩ (.bool true) := ⟨_, rfl⟩
  have Cp : Blk W gp 32 #[.bool up, .int .i64 run, .int .i64 next, .bool true, .int .i64 since] := by subst hW; simpa using Bp.set_ 3 (.bool true)
  have Cc : Blk W gc 23 #[.int .i64 a, .int .i64 b, .int .i64 r, .int .i64 f] := by subst hW; exact Bc.far (by simpa using fun h => hne h.symm) _
  have HW := Lib.hid hW
  clear hW
  obtain ⟨d0, d1, d2, d3, d4, df⟩ := Bp.c5
  obtain ⟨e0, e1, e2, e3, _⟩ := Bc.c4
  have hne' : gc ≠ gp := fun h => hne h.symm
  clear hc h1 h2
  have hlt := Bp.lt
  go_enter Try.func25, Try.ntmps25
  go_wp2_with fail
  rw [← HW.out]
  refine (HE.out W).mono ?_; rintro e w1 ⟨rfl, hb⟩
  have Dp := Cp.up hb
  have hG : w.grownBy W (some gp) := by
    rw [HW.out]
    exact grow_set (grow_refl _ _) _ _
  have hG2 := grow_up hG hb
  clear hG d0 d1 d2 d3 d4 df e0 e1 e2 e3
  obtain ⟨d0, d1, d2, d3, d4, df⟩ := Dp.c5
  go_wp2_with fail
  go_ret
  refine ⟨rfl, grow_set (grow_set (grow_set (grow_set (grow_set hG2 _ _) _ _) _ _) _ _) _ _, ?_⟩
  simpa using ((((Dp.set_ 0 (.bool qu)).set_ 1 (.int .i64 qr)).set_ 2 (.int .i64 qn)).set_ 3 (.bool qo)).set_ 4 (.int .i64 qs)
end Go.Proofs.Ytbmgigbcilgieaa
