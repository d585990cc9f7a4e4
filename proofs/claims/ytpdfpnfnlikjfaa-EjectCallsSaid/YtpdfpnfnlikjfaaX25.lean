/- Eject: what the iterator of those that are in promises, from what the engine knows. -/
import Derived.Test.YtpdfpnfnlikjfaaX24
namespace Go.Proofs.Ytpdfpnfnlikjfaa
open Go.RowKit
set_option linter.unusedSectionVars false
set_option linter.unusedVariables false
set_option maxRecDepth 100000
theorem in_stops2 (n : Nat) (hn : 1 ≤ n) (Bl Bt : Nat) (v : Value) (es : List EjT) (now : Int) (hlen : es.length ≤ 9223372036854775806) (w : World) (hBl : Bl < w.heap.size) (hBt : Bt < w.heap.size)
    (hcl : w.cell? ⟨Bl, 0, none⟩ = some v) (hct : w.cell? ⟨Bt, 0, none⟩ = some (.int .i64 now)) (hv : EjHold w v es) :
    SeqStopsK Fence.wide n Try.prog 27 #[.pointer (some ⟨Bl, 0, none⟩), .pointer (some ⟨Bt, 0, none⟩)] (fun x : Nat => #[Value.int .i64 (x : Int)]) (KeepX fun k => k = Bl ∨ k = Bt ∨ blkOf v k)
      (fun ys => ys = inUpto es now es.length) (fun pre => ∃ k, k ≤ es.length ∧ pre = inUpto es now k) es.length w := by
  intro l J Jx W hW hJ hJx hY h0
  have hl := (hW.cell (p := ⟨Bl, 0, none⟩) hBl).trans hcl
  have ht := (hW.cell (p := ⟨Bt, 0, none⟩) hBt).trans hct
  rcases hv with ⟨b, o, c, rfl, hc, hp, hE⟩ | ⟨rfl, a, c, rfl⟩
  · have hb : b < w.heap.size := by obtain ⟨cs, el, fz, h1, _⟩ := hE; exact (Array.getElem?_eq_some_iff.1 h1).1
    refine (in1_in n hn l Bl Bt b o c es now _ (.inl rfl) (.inr (.inl rfl)) (.inr (.inr ⟨b, o, es.length, c, rfl, hp, rfl⟩)) hc hlen J Jx (fun s A B hs hAB => hJ s A B none hs (grownBy_of_below hAB) (fun r e => by cases e)) hY W hl ht (fun _ => hE.of_heap (hW.block b hb)) ?_ h0).mono ?_
    · intro k hk
      have := hW.size
      rcases hk with rfl | rfl | ⟨b', o', l', c', e, _, rfl⟩
      · omega
      · omega
      · cases e; omega
    · rintro e W' ⟨he, ⟨ys, rfl, hj⟩ | ⟨pre, hp2, hj⟩⟩
      · exact ⟨he, .inl ⟨_, rfl, hj⟩⟩
      · exact ⟨he, .inr ⟨_, hp2, hj⟩⟩
  · exact (in1_nil n l Bl Bt c a J W hl h0).mono fun e W' ⟨he, hj⟩ => ⟨he, .inl ⟨_, rfl, hj⟩⟩
section
variable [Inhabited RawG] {D : Nat → Prop} {ρ : Nat → Pl} {H Hr : Heap} {w : World}
theorem box_cell (hw : WR (szP Try.prog) D ρ (hget H) w) {b : Nat} {el : TypeId} {v : Value} (hb : hget H b = some ⟨el, [v], 0⟩) : (ρ b).off = 0 ∧ (ρ b).blk < w.heap.size ∧ ∃ u, w.cell? ⟨(ρ b).blk, 0, none⟩ = some u ∧ VR D ρ v u := by
  obtain ⟨cs, fz, h1, h2, h3, _⟩ := (hw.here b _ hb).has
  obtain ⟨o, _⟩ := h3 rfl
  obtain ⟨u, hu, hV⟩ := h2 0 v rfl
  rw [o] at hu
  exact ⟨o, (Array.getElem?_eq_some_iff.1 h1).1, u, by simp only [World.cell?, h1]; simpa using hu, hV⟩
theorem far_img (hw : WR (szP Try.prog) D ρ (hget H) w) {b : Nat} {k : ABlk} (hb : hget H b = some k) (hr : ∀ c l, hget Hr c = some l → hget H c = some l ∧ c ≠ b ∧ l.mode ≠ 2) : ¬ Img ρ (hget Hr) (ρ b).blk := by
  rintro ⟨c, l, hc, hm, he⟩
  obtain ⟨h1, h2, h3⟩ := hr c l hc
  exact hw.sep c b l k h1 hb h2 (.inl h3) he
/-- The iterator, from what the engine knows of it. -/
theorem seq_ok (hw : WR (szP Try.prog) D ρ (hget H) w) {bl bt el1 el2 : Nat} {vl : Value} {now : Int} {es : List EjT} (hBl : hget H bl = some ⟨el1, [vl], 0⟩) (hBt : hget H bt = some ⟨el2, [.int .i64 now], 0⟩)
    (hlen : es.length ≤ 9223372036854775806) (hr : ∀ c l, hget Hr c = some l → hget H c = some l ∧ c ≠ bl ∧ c ≠ bt ∧ l.mode ≠ 2)
    (hold : ∀ v, VR D ρ vl v → EjHold w v es ∧ ∀ k, blkOf v k → k < w.heap.size ∧ ¬ Img ρ (hget Hr) k) :
    ∃ (lb : Array Value) (X : Nat → Prop), (∀ u, VR D ρ (.func (.func 27) #[] #[.pointer (some ⟨bl, 0, none⟩), .pointer (some ⟨bt, 0, none⟩)]) u → u = .func (.func 27) #[] lb) ∧
      SeqStopsK Fence.wide 2 Try.prog 27 lb (fun x : Nat => #[Value.int .i64 (x : Int)]) (KeepX X) (fun ys => ys = inUpto es now es.length) (fun pre => ∃ k, k ≤ es.length ∧ pre = inUpto es now k) es.length w ∧ ∀ k, X k → k < w.heap.size ∧ ¬ Img ρ (hget Hr) k := by
  obtain ⟨o1, s1, v, c1, V1⟩ := box_cell hw hBl
  obtain ⟨o2, s2, u2, c2, V2⟩ := box_cell hw hBt
  have e2 := V2.int_inv
  subst e2
  obtain ⟨h1, h2⟩ := hold v V1
  refine ⟨_, _, ?_, in_stops2 2 (by decide) _ _ v es now hlen w s1 s2 c1 c2 h1, ?_⟩
  · intro u hu
    obtain ⟨f', c', rfl, f1, f2, g1, g2⟩ := hu.func_inv
    have hf' : f' = #[] := Array.eq_empty_of_size_eq_zero f1.symm
    subst hf'
    have q0 := g2 0
    have q1 := g2 1
    have hs : c'.size = 2 := f2.symm
    obtain ⟨_, p0⟩ := q0.ptr_inv
    obtain ⟨_, p1⟩ := q1.ptr_inv
    rw [o1] at p0
    rw [o2] at p1
    congr 1
    apply Array.ext
    · simpa using hs
    · intro i hi1 hi2
      rcases (show i = 0 ∨ i = 1 by omega) with rfl | rfl
      · simpa [Array.getD, hs] using p0
      · simpa [Array.getD, hs] using p1
  · rintro k (rfl | rfl | hk)
    · exact ⟨s1, far_img hw hBl fun c l hc => ⟨(hr c l hc).1, (hr c l hc).2.1, (hr c l hc).2.2.2⟩⟩
    · exact ⟨s2, far_img hw hBt fun c l hc => ⟨(hr c l hc).1, (hr c l hc).2.2.1, (hr c l hc).2.2.2⟩⟩
    · exact h2 k hk
theorem wpChain_mono {P : Program} {K K' : Act → World → Prop} (h : ∀ a w, K a w → K' a w) : ∀ (l : List Code) {a : Act} {w : World}, wpChain P l K a w → wpChain P l K' a w
  | [], a, w, hk => h a w hk
  | x :: r, a, w, hk => wp_mono hk (by rintro e a' w' ⟨rfl, h'⟩; exact ⟨rfl, wpChain_mono h r h'⟩)
theorem fr_undef {n : Nat} : FR [] D ρ (List.replicate n undef) { tmps := #[] ++ Array.replicate (n - 0) undef, defers := [] } := by
  refine ⟨by simp, fun t ht => ?_, rfl⟩
  rw [List.getD_eq_getElem?_getD, Array.getD_eq_getD_getElem?]
  by_cases h : t < n
  · simp [h, List.getElem?_replicate, Array.getElem?_replicate]; exact .und
  · simp [h, List.getElem?_replicate, Array.getElem?_replicate]; exact .und
theorem below_of_t {D1 : Nat → Prop} {ρ1 : Nat → Pl} {h1 : HF} {w1 : World} (ht : T (szP Try.prog) D ρ (hget []) w D1 ρ1 h1 w1) : Below w.heap.size w w1 :=
  ⟨ht.os, ht.tape, ht.output, ht.size, fun k hk => ht.keep k hk (by rintro ⟨b, l, hb, _⟩; cases hb)⟩
end
theorem zip_put (p : Tmp) (v : Value) (t : Array Value) : ((#[p] : Array Tmp).zip #[v]).foldl (fun t (p, v) => t.setIfInBounds p v) t = t.setIfInBounds p v := by
  have : ((#[p] : Array Tmp).zip #[v]) = #[(p, v)] := by simp
  rw [this]; simp
/-- A region that is one assignment of a slot. -/
def asgOf : Code → Option (Tmp × Tmp)
  | .region _ ops false => match ops.toList with
    | [o] => match o.op, o.dst, o.guard with
      | .assign (.tmp p), some q, none => some (p, q)
      | _, _, _ => none
    | _ => none
  | _ => none
theorem asg_wp {F : Fence} {n : Nat} {P : Program} {c : Code} {p q : Tmp} (h : asgOf c = some (p, q)) {K : Act → World → Prop} {Q : Exit → Act → World → Prop} {a : Act} {W : World} (hK : K (a.put (some q) (a.tmps.getD p undef)) W) : c.wpIn F n P (Exit.then K Q) a W := by
  unfold asgOf at h
  split at h
  · rename_i id ops
    split at h
    · rename_i o ho
      obtain ⟨l⟩ := ops
      simp only at ho
      subst ho
      split at h
      · rename_i p' q' h1 h2 h3
        cases h
        refine wpIn_region ?_
        have hr : List.range (#[o] : Array Oper).size = [0] := rfl
        rw [hr]
        simp only [wpOpsIn, List.getElem?_toArray, List.getElem?_cons_zero, Region.wanted, h3, if_true]
        refine ⟨?_, ?_⟩
        · intro f hf
          simp [Oper.about, h1] at hf
        · rw [Oper.semAt_eq _ _ _ (fun c hc => by rw [h1] at hc; cases hc)]
          simp only [execOp, h1, Sem.run_pure, Oper.uponIn_value, h2]
          exact hK
      · cases h
    · cases h
  · cases h
end Go.Proofs.Ytpdfpnfnlikjfaa
