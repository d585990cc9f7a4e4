/- Weigh: Pick, Gathered, Len as a whole; printed by a program of mine. -/
import Derived.Test.YtbjfckcgpbejkaaP7
import Derived.KernelRfl
namespace Go.Proofs.Ytbjfckcgpbejkaa
open Go.RowKit
set_option linter.unusedSimpArgs false
set_option linter.unusedVariables false
set_option maxRecDepth 100000
set_option linter.unusedSectionVars false
variable [Inhabited RawG]
theorem pick0_ok {ns g ls : List Int} {q n : Nat} (hl : CQ q ls) (hs : Small ns g n) (hz : plE ls n = 0) (hp : 0 < ls.length) (h80 : ls.length ≤ 1000) : CallOK Try.prog 16 [.pointer (some ⟨0, 0, none⟩), .slice (some ⟨2 + q, 0, some 2⟩) ls.length 0] [(0, ⟨57, [.slice (some ⟨2, 0, none⟩) n n, .slice (some ⟨1, 0, none⟩) n n], 0⟩), (1, ⟨25, (g.map encI).map fun e : Nat => Value.float .f64 e, 3⟩), (2, ⟨25, (ns.map encI).map fun e : Nat => Value.float .f64 e, 3⟩)] 3 (.tuple #[.int .i64 (pkB ns g ls), .int .i64 0]) [(0, ⟨57, [.slice (some ⟨2, 0, none⟩) n n, .slice (some ⟨1, 0, none⟩) n n], 0⟩), (1, ⟨25, ((pkG ns g ls).map encI).map fun e : Nat => Value.float .f64 e, 3⟩), (2, ⟨25, (ns.map encI).map fun e : Nat => Value.float .f64 e, 3⟩)] := by
  have ha := plE_asc hz
  obtain ⟨b1, b2, b3⟩ := pk_bnd (ls := ls) (A := 1000000) (by omega) hs.gb hs.nb ls.length
  obtain ⟨y, hy1, hy2⟩ := pk_mem (ns := ns) (gs := g) hp ls.length (Nat.le_refl _)
  have hbr := ha.rng y hy1
  rw [← hy2] at hbr
  have hlen : (pkSt ns g ls ls.length).1.length = n := by rw [pk_len]; exact hs.gl
  have h53 : (2 : Nat) ^ 53 = 9007199254740992 := rfl
  have hbb := b1 (pkSt ns g ls ls.length).2.2.toNat
  have hsb := sub_enc (A := (pkSt ns g ls ls.length).1.getD (pkSt ns g ls ls.length).2.2.toNat 0) (B := (pkSt ns g ls ls.length).2.1) (by omega) (by omega) (by omega)
  rw [← getD_enc (pkSt ns g ls ls.length).1] at hsb
  have h := pick0_a (pe := 0) hl hp rfl (by have h := pn_ok (n := n) hl h80; rw [hz] at h; exact h) (pk0_loop hl hs ha hp h80) (by rw [List.length_map]; exact hlen) hbr hsb
  unfold pkG pkB
  rw [List.map_set]
  exact h
theorem pick1_ok {ns g ls : List Int} {n : Nat} (hs : Small ns g n) (ha : Asc ls n) (hp : 0 < ls.length) (h80 : ls.length ≤ 1000) : CallOK Try.prog 16 [.pointer (some ⟨0, 0, none⟩), .slice (some ⟨3, 0, none⟩) ls.length ls.length] [(0, ⟨57, [.slice (some ⟨2, 0, none⟩) n n, .slice (some ⟨1, 0, none⟩) n n], 0⟩), (1, ⟨25, (g.map encI).map fun e : Nat => Value.float .f64 e, 3⟩), (2, ⟨25, (ns.map encI).map fun e : Nat => Value.float .f64 e, 3⟩), (3, ⟨3, ls.map fun e : Int => Value.int .i64 e, 3⟩)] 4 (.tuple #[.int .i64 (pkB ns g ls), .int .i64 0]) [(0, ⟨57, [.slice (some ⟨2, 0, none⟩) n n, .slice (some ⟨1, 0, none⟩) n n], 0⟩), (1, ⟨25, ((pkG ns g ls).map encI).map fun e : Nat => Value.float .f64 e, 3⟩), (2, ⟨25, (ns.map encI).map fun e : Nat => Value.float .f64 e, 3⟩)] := by
  skip
  obtain ⟨b1, b2, b3⟩ := pk_bnd (ls := ls) (A := 1000000) (by omega) hs.gb hs.nb ls.length
  obtain ⟨y, hy1, hy2⟩ := pk_mem (ns := ns) (gs := g) hp ls.length (Nat.le_refl _)
  have hbr := ha.rng y hy1
  rw [← hy2] at hbr
  have hlen : (pkSt ns g ls ls.length).1.length = n := by rw [pk_len]; exact hs.gl
  have h53 : (2 : Nat) ^ 53 = 9007199254740992 := rfl
  have hbb := b1 (pkSt ns g ls ls.length).2.2.toNat
  have hsb := sub_enc (A := (pkSt ns g ls ls.length).1.getD (pkSt ns g ls ls.length).2.2.toNat 0) (B := (pkSt ns g ls ls.length).2.1) (by omega) (by omega) (by omega)
  rw [← getD_enc (pkSt ns g ls ls.length).1] at hsb
  have h := pick1_a (pe := 0) hp rfl (places_ok ha h80) (pk1_loop hs ha hp h80) (by rw [List.length_map]; exact hlen) hbr hsb
  unfold pkG pkB
  rw [List.map_set]
  exact h
theorem pickq_err {ns g ls : List Int} {q n : Nat} (hl : CQ q ls) (hz : plE ls n ≠ 0) (h80 : ls.length ≤ 1000) : CallOK Try.prog 16 [.pointer (some ⟨0, 0, none⟩), .slice (some ⟨2 + q, 0, some 2⟩) ls.length 0] [(0, ⟨57, [.slice (some ⟨2, 0, none⟩) n n, .slice (some ⟨1, 0, none⟩) n n], 0⟩), (1, ⟨25, (g.map encI).map fun e : Nat => Value.float .f64 e, 3⟩), (2, ⟨25, (ns.map encI).map fun e : Nat => Value.float .f64 e, 3⟩)] 3 (.tuple #[.int .i64 0, .int .i64 (plE ls n)]) [(0, ⟨57, [.slice (some ⟨2, 0, none⟩) n n, .slice (some ⟨1, 0, none⟩) n n], 0⟩), (1, ⟨25, (g.map encI).map fun e : Nat => Value.float .f64 e, 3⟩), (2, ⟨25, (ns.map encI).map fun e : Nat => Value.float .f64 e, 3⟩)] :=
  pick_e (g2 := []) (bb := 0) (sm := 0) (r3 := 0) (by rw [bne_iff_ne]; exact hz) (pn_ok hl h80)
theorem pickq_none {ns g ls : List Int} {q n : Nat} (hl : CQ q ls) (h0 : ls.length = 0) (h80 : ls.length ≤ 1000) : CallOK Try.prog 16 [.pointer (some ⟨0, 0, none⟩), .slice (some ⟨2 + q, 0, some 2⟩) ls.length 0] [(0, ⟨57, [.slice (some ⟨2, 0, none⟩) n n, .slice (some ⟨1, 0, none⟩) n n], 0⟩), (1, ⟨25, (g.map encI).map fun e : Nat => Value.float .f64 e, 3⟩), (2, ⟨25, (ns.map encI).map fun e : Nat => Value.float .f64 e, 3⟩)] 3 (.tuple #[.int .i64 0, .int .i64 5]) [(0, ⟨57, [.slice (some ⟨2, 0, none⟩) n n, .slice (some ⟨1, 0, none⟩) n n], 0⟩), (1, ⟨25, (g.map encI).map fun e : Nat => Value.float .f64 e, 3⟩), (2, ⟨25, (ns.map encI).map fun e : Nat => Value.float .f64 e, 3⟩)] := by
  have hz : plE ls n = 0 := by unfold plE; rw [h0]; rfl
  refine pick_n (pe := 0) (g2 := []) (bb := 0) (sm := 0) (r3 := 0) h0 rfl ?_
  have h := pn_ok (n := n) hl h80
  rw [hz] at h
  exact h
theorem gath_a {ws gs : List Nat} {n : Nat} (h29 : CallOK Try.prog 29 [Value.slice (some { block := 0, off := 0 }) n n] [(0, { elem := 25, cells := List.map (fun e => Value.float FloatKind.f64 e) gs, mode := 3 })] 1 (Value.slice (some { block := 1, off := 0 }) n n) [(0, { elem := 25, cells := List.map (fun e => Value.float FloatKind.f64 e) gs, mode := 3 }), (1, { elem := 25, cells := List.map (fun e => Value.float FloatKind.f64 e) gs, mode := 3 })]) : CallOK Try.prog 13 [.pointer (some ⟨0, 0, none⟩)] [(0, ⟨57, [.slice (some ⟨2, 0, none⟩) n n, .slice (some ⟨1, 0, none⟩) n n], 0⟩), (1, ⟨25, (gs).map fun e : Nat => Value.float .f64 e, 3⟩), (2, ⟨25, ws.map fun e : Nat => Value.float .f64 e, 3⟩)] 3 (.slice (some ⟨3, 0, none⟩) n n) [(0, ⟨57, [.slice (some ⟨2, 0, none⟩) n n, .slice (some ⟨1, 0, none⟩) n n], 0⟩), (1, ⟨25, (gs).map fun e : Nat => Value.float .f64 e, 3⟩), (2, ⟨25, ws.map fun e : Nat => Value.float .f64 e, 3⟩), (3, ⟨25, gs.map fun e : Nat => Value.float .f64 e, 3⟩)] := by
  have hc := callOK_ren (v2 := Value.slice (some { block := 3, off := 0 }) n n) (H2 := [(0, ⟨57, [Value.slice (some { block := 2, off := 0 }) n n, Value.slice (some { block := 1, off := 0 }) n n], 0⟩), (1, ⟨25, List.map (fun e => Value.float FloatKind.f64 e) gs, 3⟩), (2, ⟨25, List.map (fun e => Value.float FloatKind.f64 e) ws, 3⟩), (3, ⟨25, List.map (fun e => Value.float FloatKind.f64 e) gs, 3⟩)]) [451] (callOK_keep (call := callW) [0, 1, 2, 451] callW_spec mixed (P := Try.prog) (g := 13) (av := [.pointer (some ⟨0, 0, none⟩)]) (Hs := [(0, ⟨57, [.slice (some ⟨2, 0, none⟩) n n, .slice (some ⟨1, 0, none⟩) n n], 0⟩), (1, ⟨25, (gs).map fun e : Nat => Value.float .f64 e, 3⟩), (2, ⟨25, ws.map fun e : Nat => Value.float .f64 e, 3⟩)]) (lo := 3) (ω := [(451, OV.call (Value.slice (some { block := 1, off := 0 }) n n) [(0, { elem := 25, cells := List.map (fun e => Value.float FloatKind.f64 e) gs, mode := 3 }), (1, { elem := 25, cells := List.map (fun e => Value.float FloatKind.f64 e) gs, mode := 3 })])]) (LF := 10) (F := 100) (v := Value.slice (some { block := 451, off := 0 }) n n) (H1 := [(0, ⟨57, [Value.slice (some { block := 2, off := 0 }) n n, Value.slice (some { block := 1, off := 0 }) n n], 0⟩), (1, ⟨25, List.map (fun e => Value.float FloatKind.f64 e) gs, 3⟩), (2, ⟨25, List.map (fun e => Value.float FloatKind.f64 e) ws, 3⟩), (451, ⟨25, List.map (fun e => Value.float FloatKind.f64 e) gs, 3⟩)]) (ps := [CallOK Try.prog 29 [Value.slice (some { block := 0, off := 0 }) n n] [(0, { elem := 25, cells := List.map (fun e => Value.float FloatKind.f64 e) gs, mode := 3 })] 1 (Value.slice (some { block := 1, off := 0 }) n n) [(0, { elem := 25, cells := List.map (fun e => Value.float FloatKind.f64 e) gs, mode := 3 }), (1, { elem := 25, cells := List.map (fun e => Value.float FloatKind.f64 e) gs, mode := 3 })]]) (by kernel_rfl) (ob_cons h29 ob_nil)) rfl (by kernel_rfl)
  exact hc

theorem gath_ok {ws gs : List Nat} {n : Nat} (hg : gs.length = n) (hp : 0 < n) (h80 : n ≤ 1000) : CallOK Try.prog 13 [.pointer (some ⟨0, 0, none⟩)] [(0, ⟨57, [.slice (some ⟨2, 0, none⟩) n n, .slice (some ⟨1, 0, none⟩) n n], 0⟩), (1, ⟨25, (gs).map fun e : Nat => Value.float .f64 e, 3⟩), (2, ⟨25, ws.map fun e : Nat => Value.float .f64 e, 3⟩)] 3 (.slice (some ⟨3, 0, none⟩) n n) [(0, ⟨57, [.slice (some ⟨2, 0, none⟩) n n, .slice (some ⟨1, 0, none⟩) n n], 0⟩), (1, ⟨25, (gs).map fun e : Nat => Value.float .f64 e, 3⟩), (2, ⟨25, ws.map fun e : Nat => Value.float .f64 e, 3⟩), (3, ⟨25, gs.map fun e : Nat => Value.float .f64 e, 3⟩)] := by
  subst hg
  exact gath_a (clone_f hp h80)
theorem len_ok {ws gs : List Nat} {n : Nat}  : CallOK Try.prog 27 [.pointer (some ⟨0, 0, none⟩)] [(0, ⟨57, [.slice (some ⟨2, 0, none⟩) n n, .slice (some ⟨1, 0, none⟩) n n], 0⟩), (1, ⟨25, (gs).map fun e : Nat => Value.float .f64 e, 3⟩), (2, ⟨25, ws.map fun e : Nat => Value.float .f64 e, 3⟩)] 3 (.int .i64 (n : Int)) [(0, ⟨57, [.slice (some ⟨2, 0, none⟩) n n, .slice (some ⟨1, 0, none⟩) n n], 0⟩), (1, ⟨25, (gs).map fun e : Nat => Value.float .f64 e, 3⟩), (2, ⟨25, ws.map fun e : Nat => Value.float .f64 e, 3⟩)] := by
  exact (callOK_keep (call := callW) [0, 1, 2] callW_spec mixed (ω := []) (LF := 10) (F := 100) (ps := []) (by kernel_rfl) ob_nil)

end Go.Proofs.Ytbjfckcgpbejkaa
