/- The engine: a range over a function in a law's own body. -/
import Derived.Test.YtpdfpnfnlikjfaaX22
import Derived.Test.YtpdfpnfnlikjfaaK1
namespace Go.Proofs.Ytpdfpnfnlikjfaa
open Go.RowKit
set_option linter.unusedSectionVars false
set_option linter.unusedVariables false
set_option maxRecDepth 100000
variable [Inhabited RawG]
section
variable {P : Program} {call : CallF} {D D0 D1 D2 : Nat → Prop} {ρ ρ0 ρ1 ρ2 : Nat → Pl} {h h' : HF} {H H0 H1 H2 : Heap} {w A B : World}
theorem cells_of (hw : WR (szP P) D ρ h A) {b : Nat} {k : ABlk} (hb : h b = some k) : ∃ cs el fz, A.heap[(ρ b).blk]? = some (.cells cs el fz) := by
  obtain ⟨cs, fz, h1, _⟩ := (hw.here b k hb).has
  exact ⟨cs, _, fz, h1⟩
theorem img_cells (hw : WR (szP P) D ρ h A) {n : Nat} (hi : Img ρ h n) : ∃ cs el fz, A.heap[n]? = some (.cells cs el fz) := by
  obtain ⟨b, k, hb, _, rfl⟩ := hi
  exact cells_of hw hb
/-- What others do behind it. -/
theorem T.grown (ht : T (szP P) D1 ρ1 h w D2 ρ2 h' A) {row : Option Nat} (hg : A.grownBy B row) (hr : ∀ r, row = some r → w.heap.size ≤ r ∧ ∃ o : Obj, A.heap[r]? = some o ∧ o.isCells = false) : T (szP P) D1 ρ1 h w D2 ρ2 h' B := by
  have same : ∀ (n : Nat) (cs : Array Value) (el : TypeId) (fz : Nat × Nat), A.heap[n]? = some (.cells cs el fz) → B.heap[n]? = A.heap[n]? := by
    intro n cs el fz hn
    refine hg.block n (Array.getElem?_eq_some_iff.1 hn).1 ?_
    intro e
    obtain ⟨_, o, h1, h2⟩ := hr n e.symm
    rw [hn] at h1
    cases h1
    cases h2
  refine ⟨ht.sub, ht.same, ⟨ht.wr.dom, fun b k hb => ?_, ht.wr.sep, ⟨fun i => ?_, ht.wr.raw.far⟩⟩, hg.os.trans ht.os, hg.tape.trans ht.tape, hg.output.trans ht.output, Nat.le_trans ht.size hg.size, fun k hk hn => ?_, ht.img, ht.ro⟩
  · obtain ⟨cs, el, fz, h1⟩ := cells_of ht.wr hb
    exact (ht.wr.here b k hb).of_heap (same _ cs el fz h1)
  · obtain ⟨r1, r2, r3⟩ := ht.wr.raw.at' i
    refine ⟨r1, r2, fun hne => ?_⟩
    obtain ⟨a, a1, a2, cs, el, fz, a3, a4⟩ := r3 hne
    exact ⟨a, a1, a2, cs, el, fz, (same _ cs el fz a3).trans a3, a4⟩
  · rw [← ht.keep k hk hn]
    refine hg.block k (Nat.lt_of_lt_of_le hk ht.size) ?_
    intro e
    have := (hr k e.symm).1
    omega
/-- Rounds: old numbers stay, new ones from nx0 on; nothing is asked of the frame. -/
def RoundToI (l n : Nat) (P : Program) (call : CallF) (LF F : Nat) (x : Code) (nx0 nxb : Nat) (ax : AX) (fr : List Value) (H H2 : Heap) : Prop :=
  ∃ ω K S o1, aCodeR l n P call ω LF F x fr H nxb = some o1 ∧ Ob o1.ob ∧ o1.ax = ax ∧ renHeap (renOf S nx0 nx0) (pickH o1.hp (K ++ S)) = some H2 ∧ no2 H2 = true ∧ nx0 + S.length ≤ nxb
def roundVI (K S : List Nat) (nx0 : Nat) (r : Option Out) : Option (AX × Heap × Bool × List Prop) :=
  match r with
  | some o => match renHeap (renOf S nx0 nx0) (pickH o.hp (K ++ S)) with
    | some h => some (o.ax, h, no2 h, o.ob)
    | none => none
  | none => none
theorem roundToI_of {l n LF F : Nat} {x : Code} {nx0 nxb : Nat} {ax : AX} {fr : List Value} {H H2 : Heap} (ω : Orc) (K S : List Nat) {ps : List Prop}
    (h : roundVI K S nx0 (aCodeR l n P call ω LF F x fr H nxb) = some (ax, H2, true, ps)) (hp : Ob ps) (hS : nx0 + S.length ≤ nxb) : RoundToI l n P call LF F x nx0 nxb ax fr H H2 := by
  unfold roundVI at h
  split at h
  · rename_i o ho
    split at h
    · rename_i hh h1
      simp only [Option.some.injEq, Prod.mk.injEq] at h
      obtain ⟨e1, e2, e3, e4⟩ := h
      subst e1 e2 e4
      exact ⟨ω, K, S, o, ho, hp, rfl, h1, e3, hS⟩
    · cases h
  · cases h
theorem norm_heap {nx0 : Nat} {K S : List Nat} {w1 : World} (hw : WR (szP P) D0 ρ0 (hget H0) w) (hD0 : ∀ b, D0 b → b < nx0) (hT : T (szP P) D0 ρ0 (hget H0) w D1 ρ1 (hget H1) w1) (hD1 : ∀ b, D1 b → D0 b ∨ nx0 ≤ b)
    (hh : renHeap (renOf S nx0 nx0) (pickH H1 (K ++ S)) = some H2) (hro : no2 H2 = true) :
    ∃ D2 ρ2, T (szP P) D0 ρ0 (hget H0) w D2 ρ2 (hget H2) w1 ∧ (∀ b, D2 b → b < nx0 + S.length) ∧ ∀ b, D2 b → D0 b ∨ nx0 ≤ b := by
  have hnS : ∀ c, nx0 ≤ c ∧ c - nx0 < S.length → ¬ D0 c := fun c hc hD => by have := hD0 c hD; omega
  have hrr : ∀ b b', D1 b → renOf S nx0 nx0 b = some b' → (D0 b' ∨ b' ∈ List.range' nx0 S.length) ∧ (if hc : nx0 ≤ b' ∧ b' - nx0 < S.length then ρ1 (S[b' - nx0]'hc.2) else ρ0 b') = ρ1 b := by
    intro b b' hb hrb
    unfold renOf at hrb
    split at hrb
    · rename_i hlt
      cases hrb
      have hDb : D0 b := (hD1 b hb).resolve_right (by omega)
      refine ⟨.inl hDb, ?_⟩
      rw [dif_neg (fun hc' => hnS b hc' hDb)]
      exact (hT.same b hDb).symm
    · obtain ⟨i, hi, rfl⟩ := Option.map_eq_some_iff.1 hrb
      have hSi := idxIn_spec hi
      obtain ⟨hlt, hSb⟩ := List.getElem?_eq_some_iff.1 hSi
      refine ⟨.inr (by simp only [List.mem_range'_1]; omega), ?_⟩
      rw [dif_pos ⟨by omega, by omega⟩]
      congr 1
      rw [← hSb]
      congr 1
      omega
  have hT' := hT.trans (T.less hT.wr fun b k => hget_pick (H := H1) (l := K ++ S))
  have hR := T.rename3 (P := P) (D2 := fun b => D0 b ∨ b ∈ List.range' nx0 S.length) (ρ2 := fun c => if hc : nx0 ≤ c ∧ c - nx0 < S.length then ρ1 (S[c - nx0]'hc.2) else ρ0 c) hw hT' hh (fun b hb => .inl hb)
    (fun b hb => dif_neg fun hc' => hnS b hc' hb) hrr hro
  refine ⟨_, _, hR, fun b hb => ?_, fun b hb => ?_⟩
  · rcases hb with hb | hb
    · have := hD0 b hb; omega
    · simp only [List.mem_range'_1] at hb; omega
  · rcases hb with hb | hb
    · exact .inl hb
    · simp only [List.mem_range'_1] at hb; exact .inr hb.1
/-- The blocks of rounds put back among the others. -/
theorem T.back {Hr : Heap} {Hrest : Heap} (hw : WR (szP P) D1 ρ1 (hget H) w) (ht : T (szP P) D1 ρ1 (hget Hr) w D2 ρ2 (hget H2) A) (hsub : ∀ b k, hget Hr b = some k → hget H b = some k)
    (hrest : ∀ b k, hget Hrest b = some k → hget H b = some k ∧ hget Hr b = none) : T (szP P) D1 ρ1 (hget H) w D2 ρ2 (hget (H2 ++ Hrest)) A := by
  refine T.frame hw ht hsub fun b k hb => ?_
  have ap : ∀ (X Y : Heap) (c : Nat), hget (X ++ Y) c = (hget X c).or (hget Y c) := by
    intro X Y c
    induction X with
    | nil => simp [hget]
    | cons p t ih =>
      obtain ⟨i, q⟩ := p
      simp only [List.cons_append, hget]
      split
      · simp
      · exact ih
  rw [ap] at hb
  cases hx : hget H2 b with
  | some k' => rw [hx] at hb; simp at hb; exact .inl (by rw [hb])
  | none =>
    rw [hx] at hb
    simp at hb
    obtain ⟨h1, h2⟩ := hrest b k hb
    exact .inr ⟨h1, h2, rfl⟩
/-- THE RANGE OVER A FUNCTION. -/
theorem rf_wp (hc : CallSpec P call) {LF F : Nat} {gop : Operand} {ps : Array Tmp} {asg bdy : Code} {Q : Exit → Act → World → Prop} {nx nxb : Nat} {a : Act}
    (hlt : ∀ b, D1 b → b < nx) (hw : WR (szP P) D1 ρ1 (hget H) w) (hnx : nx ≤ nxb)
    {gf : Nat} {lb : Array Value} (hg : a.eval gop = .func (.func gf) #[] lb) (eg : ∀ args w, (callFunc gf args).run P w = .ok (.enter gf args) w)
    {N : Nat} {S Sp : List Nat → Prop} {X : Nat → Prop} (hseq : SeqStopsK Fence.wide 2 P gf lb (fun x : Nat => #[Value.int .i64 (x : Int)]) (KeepX X) S Sp N w) (hps : ps.size = 1)
    (J : List Nat → Prop) (Hk : List Nat → Heap) (hJ0 : J []) (hsub : ∀ b k, hget (Hk []) b = some k → hget H b = some k)
    (hX : ∀ k, X k → k < w.heap.size ∧ ¬ Img ρ1 (hget (Hk [])) k)
    (a₁ : Nat → Act) (hassign : ∀ (l x : Nat) (W : World) (K : Act → World → Prop), K (a₁ x) W → asg.wpIn (Fence.wide.inRound l) 1 P (Exit.then K (fun _ _ _ => False)) { tmps := (ps.zip #[Value.int .i64 (x : Int)]).foldl (fun t (p, v) => t.setIfInBounds p v) a.tmps, defers := [] } W)
    (frB : Nat → List Value) (hfr : ∀ x, FR [] D1 ρ1 (frB x) (a₁ x))
    (hround : ∀ (l : Nat) (pre : List Nat) (x : Nat), J pre → pre.length < N → (J (pre ++ [x]) ∧ RoundToI l 1 P call LF F bdy nx nxb .normal (frB x) (Hk pre) (Hk (pre ++ [x]))) ∨ (¬ Sp (pre ++ [x]) ∧ ∃ H2, RoundToI l 1 P call LF F bdy nx nxb .ret (frB x) (Hk pre) H2))
    (hdone : ∀ (d : Nat) (xs : List Nat) (W : World) (D2 : Nat → Prop) (ρ2 : Nat → Pl), w.heap.size ≤ d → S xs → J xs → T (szP P) D1 ρ1 (hget (Hk [])) w D2 ρ2 (hget (Hk xs)) W → (∀ b, D2 b → b < nxb) → (∀ b, D2 b → D1 b ∨ nx ≤ b) → W.heap[d]? = some (.deferred (some [])) →
      Q .normal { a with defers := { target := .collected d, args := #[] } :: a.defers } W) : (Code.rangeFunc gop ps asg bdy).wp P Q a w := by
  have hw0 : WR (szP P) D1 ρ1 (hget (Hk [])) w := hw.less hsub
  refine wpIn_wide.1 (wpIn_rangeFunc_ownF (n := 3) (F := Fence.wide) (α := Nat) rfl (by decide) hg trivial eg hseq ?_ ?_ (Below.refl _ _) (fun x => by simp [hps])
    (fun pre W => J pre ∧ ∃ D2 ρ2, T (szP P) D1 ρ1 (hget (Hk [])) w D2 ρ2 (hget (Hk pre)) W ∧ (∀ b, D2 b → b < nxb) ∧ ∀ b, D2 b → D1 b ∨ nx ≤ b)
    (fun c pre W => ¬ Sp pre) ?_ ?_ ⟨hJ0, D1, ρ1, T.refl hw0, fun b hb => Nat.lt_of_lt_of_le (hlt b hb) hnx, fun b hb => .inl hb⟩ a₁ hassign ?_ ?_ ?_)
  · exact KeepX.trans
  · intro W l o o' hl ho _ _
    refine ⟨by simp, fun k hk => World.putObj_heap_other ?_⟩
    have := (hX k hk).1
    omega
  · rintro s A B row ⟨hJ, D2, ρ2, ht, h1, h2⟩ hg hr
    exact ⟨hJ, D2, ρ2, ht.grown hg hr, h1, h2⟩
  · intro c s A B row hs _ _
    exact hs
  · rintro l pre x W ⟨hJ, D2, ρ2, ht, h1, h2⟩ hlen
    have hf2 : FR [] D2 ρ2 (frB x) (a₁ x) := (hfr x).mono ht.sub ht.same
    have others : ∀ {W' : World} {D3 : Nat → Prop} {ρ3 : Nat → Pl} {h3 : HF}, T (szP P) D2 ρ2 (hget (Hk pre)) W D3 ρ3 h3 W' → KeepsOthers W W' := by
      intro W' D3 ρ3 h3 t3
      refine ⟨t3.size, fun k o hk ho => ?_⟩
      rw [t3.keep k (Array.getElem?_eq_some_iff.1 hk).1 ?_]
      · exact hk
      · intro hi
        obtain ⟨cs, el, fz, h4⟩ := img_cells ht.wr hi
        rw [hk] at h4
        cases h4
        cases ho
    rcases hround l pre x hJ hlen with ⟨hJ2, ω, K, S, o1, r1, r2, r3, r4, r5, r6⟩ | ⟨hn, H2, ω, K, S, o1, r1, r2, r3, r4, r5, r6⟩
    · refine wpIn_mono (code_specR hc F bdy _ _ _ _ r1 r2 D2 ρ2 (a₁ x) W h1 hf2 ht.wr) ?_
      rintro e a2 W2 ⟨rfl, l2, D3, ρ3, t3, f3, b3, c3⟩
      rw [r3]
      have hall := ht.trans t3
      obtain ⟨D4, ρ4, t4, b4, c4⟩ := norm_heap hw0 hlt hall (fun b hb => by
        rcases c3 b hb with h | h
        · exact h2 b h
        · exact .inr (by omega)) r4 r5
      refine ⟨others t3, ⟨t3.size, fun k hk => ?_⟩, hJ2, D4, ρ4, t4, fun b hb => by have := b4 b hb; omega, c4⟩
      obtain ⟨k1, k2⟩ := hX k hk
      refine t3.keep k (Nat.lt_of_lt_of_le k1 ht.size) fun hi => ?_
      rcases ht.img k hi with h | h
      · exact k2 h
      · omega
    · refine wpIn_mono (code_specR hc F bdy _ _ _ _ r1 r2 D2 ρ2 (a₁ x) W h1 hf2 ht.wr) ?_
      rintro e a2 W2 ⟨rfl, l2, D3, ρ3, t3, f3, b3, c3⟩
      rw [r3]
      exact ⟨others t3, hn⟩
  · rintro d xs W hd hs ⟨hJ, D2, ρ2, ht, h1, h2⟩ hk
    exact hdone d xs W D2 ρ2 hd hs hJ ht h1 h2 hk
  · rintro d c pre W hd hsp hn _
    exact absurd hsp hn
/-- Codes one behind the other. -/
def chain : List Code → Code → Code
  | [], y => y
  | x :: r, y => .seq x (chain r y)
def aChain (P : Program) (call : CallF) (ω : Orc) (LF F : Nat) : List Code → List Value → Heap → Nat → Option Out
  | [], fr, H, nx => some ⟨.normal, fr, H, nx, []⟩
  | x :: r, fr, H, nx => match aCode P call ω LF F x fr H nx with
    | some ⟨.normal, fr', H', nx', ps⟩ => (aChain P call ω LF F r fr' H' nx').map fun o => o.owe ps
    | _ => none
theorem chain_wp (hc : CallSpec P call) (hm : P.follows .mixedOrders = true) {ω : Orc} {LF F : Nat} {ds : List Deferred} {y : Code} {Q : Exit → Act → World → Prop} : ∀ (l : List Code) (fr : List Value) (H : Heap) (nx : Nat) (o : Out) (D : Nat → Prop) (ρ : Nat → Pl) (a : Act) (w : World),
    aChain P call ω LF F l fr H nx = some o → Ob o.ob → (∀ b, D b → b < nx) → FR ds D ρ fr a → WR (szP P) D ρ (hget H) w → (∀ a' w', CP ds P D ρ H w nx o a' w' → y.wp P Q a' w') → (chain l y).wp P Q a w
  | [], fr, H, nx, o, D, ρ, a, w, h, hob, hlt, hf, hw, hy => by
    cases h
    exact hy a w ⟨Nat.le_refl _, D, ρ, T.refl hw, hf, hlt, fun b hb => .inl hb⟩
  | x :: r, fr, H, nx, o, D, ρ, a, w, h, hob, hlt, hf, hw, hy => by
    simp only [aChain] at h
    split at h
    · rename_i fr' H' nx' ps hx
      obtain ⟨o2, h2, rfl⟩ := Option.map_eq_some_iff.1 h
      refine wp_seq (wp_mono (code_spec hc hm F x _ _ _ _ hx hob.left D ρ a w hlt hf hw) ?_)
      rintro e a1 w1 ⟨rfl, l1, D1, ρ1, t1, f1, b1, c1⟩
      show (chain r y).wp P Q a1 w1
      refine chain_wp hc hm r fr' H' nx' o2 D1 ρ1 a1 w1 h2 hob.right b1 f1 t1.wr fun a2 w2 ⟨l2, D2, ρ2, t2, f2, b2, c2⟩ => hy a2 w2 ⟨Nat.le_trans l1 l2, D2, ρ2, t1.trans t2, f2, b2, fun b hb => ?_⟩
      rcases c2 b hb with h | h
      · exact c1 b h
      · exact .inr (Nat.le_trans l1 h)
    · cases h
end
end Go.Proofs.Ytpdfpnfnlikjfaa
