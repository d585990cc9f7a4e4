/- ProbeEvery: the whole, for slices of every shape. -/
import Derived.Test.YtbmgigbcilgieaaE2
namespace Go.Proofs.Ytbmgigbcilgieaa
open Go.RowKit
set_option linter.unusedVariables false
set_option maxRecDepth 100000
def eD : Nat → Prop := fun b => b < 2
def eR (p0 p1 : Pl) : Nat → Pl := fun b => if b = 0 then p0 else p1
abbrev eC (ce cw cr cf : Int) : Value := .agg #[.int .i64 ce, .int .i64 cw, .int .i64 cr, .int .i64 cf]
theorem every_of {w : World} {p0 p1 : Pl} {H : Heap} (hH : ∀ b k, hget H b = some k → eD b ∧ BR eD (eR p0 p1) (eR p0 p1 b) k (szP Try.prog) w ∧ k.mode = 2) {ω : Orc} {LF : Nat} {ps : List Prop} {ce cw cr cf : Int} {e1 e2 v1 v2 : Value}
    (h : resVO (aFuncO Try.prog callE ω LF 100 6 [eC ce cw cr cf, e1, e2] H 2) = some (.bool true, ps)) (hp : Ob ps) (hv1 : VR eD (eR p0 p1) e1 v1) (hv2 : VR eD (eR p0 p1) e2 v2) :
    Calls Try.prog 6 #[eC ce cw cr cf, v1, v2] w (fun e w1 => e = .returned (.bool true) ∧ Below w.heap.size w w1) :=
  calls_args callE_spec mixed h hp rfl (D := eD) (ρ := eR p0 p1) (fun b hb => hb) rfl (fun i => match i with
    | 0 => .of_flat (by kernel_rfl)
    | 1 => hv1
    | 2 => hv2
    | i + 3 => .und) (wr_args hH) (fun b k hk => (hH b k hk).2.2)
/-- A slice whose elements are data of one cell. -/
def Sh {T : Type} (w : World) (f : T → Value) (v : Value) : Prop :=
  v = .slice none 0 0 ∨ (∃ a c, v = .slice (some a) 0 c) ∨
    ∃ (l : List T) (b o c el : Nat) (cs : Array Value) (fz : Nat × Nat), 0 < l.length ∧ l.length ≤ c ∧ v = .slice (some ⟨b, o, none⟩) l.length c ∧ w.heap[b]? = some (.cells cs el fz) ∧ ∀ (i : Nat) (u : Value), (l.map f)[i]? = some u → cs[o + i]? = some u
theorem hget0 (b : Nat) (k : ABlk) : hget [] b = some k → False := by intro h; cases h
theorem blk1 {T : Type} {w : World} {f : T → Value} (hf : ∀ t, flat0 (f t) = true) {l : List T} {b o el : Nat} {cs : Array Value} {fz : Nat × Nat} (hh : w.heap[b]? = some (.cells cs el fz)) (hx : ∀ (i : Nat) (u : Value), (l.map f)[i]? = some u → cs[o + i]? = some u) (D : Nat → Prop) (ρ : Nat → Pl) :
    BR D ρ ⟨b, o, none⟩ ⟨el, l.map f, 2⟩ (szP Try.prog) w :=
  br_arg (p := ⟨b, o, none⟩) rfl hh hx (fun u hu => by obtain ⟨t, _, rfl⟩ := List.mem_map.1 hu; exact hf t)
theorem vr_slice {p0 p1 : Pl} {i : Nat} (hi : eD i) {b o n c : Nat} (hp : eR p0 p1 i = ⟨b, o, none⟩) (hn : n ≤ c) : VR eD (eR p0 p1) (.slice (some ⟨i, 0, none⟩) n c) (.slice (some ⟨b, o, none⟩) n c) := by
  have h := VR.slice (D := eD) (ρ := eR p0 p1) i 0 n c c hi hn (fun _ => rfl) (fun c' h _ => by rw [hp] at h; cases h)
  rw [hp] at h
  simpa using h
theorem check_ne (ce cw cr cf : Int) : (check_0 ce cw cr cf != 0) = true ∨ ((check_0 ce cw cr cf != 0) = false ∧ check_0 ce cw cr cf = 0) := by
  by_cases h : check_0 ce cw cr cf = 0
  · exact .inr ⟨by simp [h], h⟩
  · exact .inl (by simp [h])
theorem nil_nil (ce cw cr cf : Int) (w : World) : Calls Try.prog 6 #[eC ce cw cr cf, .slice none 0 0, .slice none 0 0] w (fun e w1 => e = .returned (.bool true) ∧ Below w.heap.size w w1) := by
  rcases check_ne ce cw cr cf with h | ⟨h, _⟩
  · exact every_of (p0 := default) (p1 := default) (H := []) (fun b k h => (hget0 b k h).elim) (ω := [(1090, .soft (.bool true))]) (LF := 10) (ps := [(check_0 ce cw cr cf != 0) = true]) (e1 := .slice none 0 0) (e2 := .slice none 0 0) (by kernel_rfl) (ob_cons h ob_nil) (.of_flat rfl) (.of_flat rfl)
  · exact every_of (p0 := default) (p1 := default) (H := []) (fun b k h => (hget0 b k h).elim) (ω := [(1090, .soft (.bool false))]) (LF := 10) (ps := [(check_0 ce cw cr cf != 0) = false]) (e1 := .slice none 0 0) (e2 := .slice none 0 0) (by kernel_rfl) (ob_cons h ob_nil) (.of_flat rfl) (.of_flat rfl)
theorem nil_hol (ce cw cr cf : Int) (w : World) (a : Addr) (c : Nat) : Calls Try.prog 6 #[eC ce cw cr cf, .slice none 0 0, .slice (some a) 0 c] w (fun e w1 => e = .returned (.bool true) ∧ Below w.heap.size w w1) := by
  rcases check_ne ce cw cr cf with h | ⟨h, _⟩
  · exact every_of (p0 := default) (p1 := default) (H := []) (fun b k h => (hget0 b k h).elim) (ω := [(1090, .soft (.bool true))]) (LF := 10) (ps := [(check_0 ce cw cr cf != 0) = true]) (e1 := .slice none 0 0) (e2 := .slice (some ⟨1, 0, some 0⟩) 0 0) (by kernel_rfl) (ob_cons h ob_nil) (.of_flat rfl) (.hollow _ _ _ _ _)
  · exact every_of (p0 := default) (p1 := default) (H := []) (fun b k h => (hget0 b k h).elim) (ω := [(1090, .soft (.bool false))]) (LF := 10) (ps := [(check_0 ce cw cr cf != 0) = false]) (e1 := .slice none 0 0) (e2 := .slice (some ⟨1, 0, some 0⟩) 0 0) (by kernel_rfl) (ob_cons h ob_nil) (.of_flat rfl) (.hollow _ _ _ _ _)
theorem hol_nil (ce cw cr cf : Int) (w : World) (a : Addr) (c : Nat) : Calls Try.prog 6 #[eC ce cw cr cf, .slice (some a) 0 c, .slice none 0 0] w (fun e w1 => e = .returned (.bool true) ∧ Below w.heap.size w w1) := by
  rcases check_ne ce cw cr cf with h | ⟨h, _⟩
  · exact every_of (p0 := default) (p1 := default) (H := []) (fun b k h => (hget0 b k h).elim) (ω := [(1090, .soft (.bool true))]) (LF := 10) (ps := [(check_0 ce cw cr cf != 0) = true]) (e1 := .slice (some ⟨0, 0, some 0⟩) 0 0) (e2 := .slice none 0 0) (by kernel_rfl) (ob_cons h ob_nil) (.hollow _ _ _ _ _) (.of_flat rfl)
  · exact every_of (p0 := default) (p1 := default) (H := []) (fun b k h => (hget0 b k h).elim) (ω := [(1090, .soft (.bool false))]) (LF := 10) (ps := [(check_0 ce cw cr cf != 0) = false]) (e1 := .slice (some ⟨0, 0, some 0⟩) 0 0) (e2 := .slice none 0 0) (by kernel_rfl) (ob_cons h ob_nil) (.hollow _ _ _ _ _) (.of_flat rfl)
theorem hol_hol (ce cw cr cf : Int) (w : World) (a : Addr) (c : Nat) (a' : Addr) (c' : Nat) : Calls Try.prog 6 #[eC ce cw cr cf, .slice (some a) 0 c, .slice (some a') 0 c'] w (fun e w1 => e = .returned (.bool true) ∧ Below w.heap.size w w1) := by
  rcases check_ne ce cw cr cf with h | ⟨h, _⟩
  · exact every_of (p0 := default) (p1 := default) (H := []) (fun b k h => (hget0 b k h).elim) (ω := [(1090, .soft (.bool true))]) (LF := 10) (ps := [(check_0 ce cw cr cf != 0) = true]) (e1 := .slice (some ⟨0, 0, some 0⟩) 0 0) (e2 := .slice (some ⟨1, 0, some 0⟩) 0 0) (by kernel_rfl) (ob_cons h ob_nil) (.hollow _ _ _ _ _) (.hollow _ _ _ _ _)
  · exact every_of (p0 := default) (p1 := default) (H := []) (fun b k h => (hget0 b k h).elim) (ω := [(1090, .soft (.bool false))]) (LF := 10) (ps := [(check_0 ce cw cr cf != 0) = false]) (e1 := .slice (some ⟨0, 0, some 0⟩) 0 0) (e2 := .slice (some ⟨1, 0, some 0⟩) 0 0) (by kernel_rfl) (ob_cons h ob_nil) (.hollow _ _ _ _ _) (.hollow _ _ _ _ _)
theorem hget1 {i : Nat} {k0 : ABlk} {b : Nat} {k : ABlk} (h : hget [(i, k0)] b = some k) : b = i ∧ k = k0 := by
  simp only [hget] at h
  split at h
  · rename_i hb; cases h; exact ⟨by simpa using Eq.symm (by simpa using hb), rfl⟩
  · cases h
theorem hget2 {k0 k1 : ABlk} {b : Nat} {k : ABlk} (h : hget [(0, k0), (1, k1)] b = some k) : (b = 0 ∧ k = k0) ∨ (b = 1 ∧ k = k1) := by
  simp only [hget] at h
  split at h
  · rename_i hb; cases h; exact .inl ⟨by simpa using Eq.symm (by simpa using hb), rfl⟩
  · exact .inr (hget1 h)
abbrev GoodE (ce cw cr cf : Int) (v1 v2 : Value) (w : World) : Prop := Calls Try.prog 6 #[eC ce cw cr cf, v1, v2] w (fun e w1 => e = .returned (.bool true) ∧ Below w.heap.size w w1)
section
variable (ce cw cr cf : Int) {w : World} {l : List Int} {lb : List Bool} {b0 o0 c0 el0 b1 o1 c1 el1 : Nat} {cs0 cs1 : Array Value} {fz0 fz1 : Nat × Nat}
theorem nil_blk (hc : lb.length ≤ c1) (hh : w.heap[b1]? = some (.cells cs1 el1 fz1)) (hx : ∀ (i : Nat) (u : Value), (ysE lb)[i]? = some u → cs1[o1 + i]? = some u) : GoodE ce cw cr cf (.slice none 0 0) (.slice (some ⟨b1, o1, none⟩) lb.length c1) w := by
  have hH : ∀ b k, hget [(1, ⟨el1, ysE lb, 2⟩)] b = some k → eD b ∧ BR eD (eR default ⟨b1, o1, none⟩) (eR default ⟨b1, o1, none⟩ b) k (szP Try.prog) w ∧ k.mode = 2 := by
    intro b k h
    obtain ⟨rfl, rfl⟩ := hget1 h
    exact ⟨by unfold eD; decide, blk1 (fun _ => rfl) hh hx _ _, rfl⟩
  have hv : VR eD (eR default ⟨b1, o1, none⟩) (.slice (some ⟨1, 0, none⟩) lb.length c1) (.slice (some ⟨b1, o1, none⟩) lb.length c1) := vr_slice (by unfold eD; decide) rfl hc
  rcases check_ne ce cw cr cf with h | ⟨h, _⟩
  · exact every_of hH (ω := [(1090, .soft (.bool true))]) (LF := 10) (ps := [(check_0 ce cw cr cf != 0) = true]) (e1 := .slice none 0 0) (by kernel_rfl) (ob_cons h ob_nil) (.of_flat rfl) hv
  · exact every_of hH (ω := [(1090, .soft (.bool false))]) (LF := 10) (ps := [(check_0 ce cw cr cf != 0) = false]) (e1 := .slice none 0 0) (by kernel_rfl) (ob_cons h ob_nil) (.of_flat rfl) hv
theorem hol_blk (a : Addr) (c : Nat) (hc : lb.length ≤ c1) (hh : w.heap[b1]? = some (.cells cs1 el1 fz1)) (hx : ∀ (i : Nat) (u : Value), (ysE lb)[i]? = some u → cs1[o1 + i]? = some u) : GoodE ce cw cr cf (.slice (some a) 0 c) (.slice (some ⟨b1, o1, none⟩) lb.length c1) w := by
  have hH : ∀ b k, hget [(1, ⟨el1, ysE lb, 2⟩)] b = some k → eD b ∧ BR eD (eR default ⟨b1, o1, none⟩) (eR default ⟨b1, o1, none⟩ b) k (szP Try.prog) w ∧ k.mode = 2 := by
    intro b k h
    obtain ⟨rfl, rfl⟩ := hget1 h
    exact ⟨by unfold eD; decide, blk1 (fun _ => rfl) hh hx _ _, rfl⟩
  have hv : VR eD (eR default ⟨b1, o1, none⟩) (.slice (some ⟨1, 0, none⟩) lb.length c1) (.slice (some ⟨b1, o1, none⟩) lb.length c1) := vr_slice (by unfold eD; decide) rfl hc
  rcases check_ne ce cw cr cf with h | ⟨h, _⟩
  · exact every_of hH (ω := [(1090, .soft (.bool true))]) (LF := 10) (ps := [(check_0 ce cw cr cf != 0) = true]) (e1 := .slice (some ⟨0, 0, some 0⟩) 0 0) (by kernel_rfl) (ob_cons h ob_nil) (.hollow _ _ _ _ _) hv
  · exact every_of hH (ω := [(1090, .soft (.bool false))]) (LF := 10) (ps := [(check_0 ce cw cr cf != 0) = false]) (e1 := .slice (some ⟨0, 0, some 0⟩) 0 0) (by kernel_rfl) (ob_cons h ob_nil) (.hollow _ _ _ _ _) hv
theorem blk_nil (hl : 0 < l.length) (hc : l.length ≤ c0) (hh : w.heap[b0]? = some (.cells cs0 el0 fz0)) (hx : ∀ (i : Nat) (u : Value), (xsE l)[i]? = some u → cs0[o0 + i]? = some u) : GoodE ce cw cr cf (.slice (some ⟨b0, o0, none⟩) l.length c0) (.slice none 0 0) w := by
  have hH : ∀ b k, hget [(0, ⟨el0, xsE l, 2⟩)] b = some k → eD b ∧ BR eD (eR ⟨b0, o0, none⟩ default) (eR ⟨b0, o0, none⟩ default b) k (szP Try.prog) w ∧ k.mode = 2 := by
    intro b k h
    obtain ⟨rfl, rfl⟩ := hget1 h
    exact ⟨by unfold eD; decide, blk1 (fun _ => rfl) hh hx _ _, rfl⟩
  have hv : VR eD (eR ⟨b0, o0, none⟩ default) (.slice (some ⟨0, 0, none⟩) l.length c0) (.slice (some ⟨b0, o0, none⟩) l.length c0) := vr_slice (by unfold eD; decide) rfl hc
  by_cases h : 80 < l.length
  · exact every_of hH (ω := [(386, .soft (.bool true))]) (LF := 10) (ps := [decide ((l.length : Int) > 80) = true]) (e2 := .slice none 0 0) (by kernel_rfl) (ob_cons (by simp; omega) ob_nil) hv (.of_flat rfl)
  · exact every_of hH (ω := [(386, .soft (.bool false)), (770, .soft (.bool true))]) (LF := 10) (ps := [decide ((l.length : Int) > 80) = false, decide ((0 : Int) < (l.length : Int)) = true]) (e2 := .slice none 0 0) (by kernel_rfl) (ob_cons (by simp; omega) (ob_cons (by simp; omega) ob_nil)) hv (.of_flat rfl)
theorem blk_hol (a : Addr) (c : Nat) (hl : 0 < l.length) (hc : l.length ≤ c0) (hh : w.heap[b0]? = some (.cells cs0 el0 fz0)) (hx : ∀ (i : Nat) (u : Value), (xsE l)[i]? = some u → cs0[o0 + i]? = some u) : GoodE ce cw cr cf (.slice (some ⟨b0, o0, none⟩) l.length c0) (.slice (some a) 0 c) w := by
  have hH : ∀ b k, hget [(0, ⟨el0, xsE l, 2⟩)] b = some k → eD b ∧ BR eD (eR ⟨b0, o0, none⟩ default) (eR ⟨b0, o0, none⟩ default b) k (szP Try.prog) w ∧ k.mode = 2 := by
    intro b k h
    obtain ⟨rfl, rfl⟩ := hget1 h
    exact ⟨by unfold eD; decide, blk1 (fun _ => rfl) hh hx _ _, rfl⟩
  have hv : VR eD (eR ⟨b0, o0, none⟩ default) (.slice (some ⟨0, 0, none⟩) l.length c0) (.slice (some ⟨b0, o0, none⟩) l.length c0) := vr_slice (by unfold eD; decide) rfl hc
  by_cases h : 80 < l.length
  · exact every_of hH (ω := [(386, .soft (.bool true))]) (LF := 10) (ps := [decide ((l.length : Int) > 80) = true]) (e2 := .slice (some ⟨1, 0, some 0⟩) 0 0) (by kernel_rfl) (ob_cons (by simp; omega) ob_nil) hv (.hollow _ _ _ _ _)
  · exact every_of hH (ω := [(386, .soft (.bool false)), (770, .soft (.bool true))]) (LF := 10) (ps := [decide ((l.length : Int) > 80) = false, decide ((0 : Int) < (l.length : Int)) = true]) (e2 := .slice (some ⟨1, 0, some 0⟩) 0 0) (by kernel_rfl) (ob_cons (by simp; omega) (ob_cons (by simp; omega) ob_nil)) hv (.hollow _ _ _ _ _)
theorem blk_blk (hc : l.length ≤ c0) (hh : w.heap[b0]? = some (.cells cs0 el0 fz0)) (hx : ∀ (i : Nat) (u : Value), (xsE l)[i]? = some u → cs0[o0 + i]? = some u)
    (hc1 : lb.length ≤ c1) (hh1 : w.heap[b1]? = some (.cells cs1 el1 fz1)) (hx1 : ∀ (i : Nat) (u : Value), (ysE lb)[i]? = some u → cs1[o1 + i]? = some u) : GoodE ce cw cr cf (.slice (some ⟨b0, o0, none⟩) l.length c0) (.slice (some ⟨b1, o1, none⟩) lb.length c1) w := by
  have hH : ∀ b k, hget [(0, ⟨el0, xsE l, 2⟩), (1, ⟨el1, ysE lb, 2⟩)] b = some k → eD b ∧ BR eD (eR ⟨b0, o0, none⟩ ⟨b1, o1, none⟩) (eR ⟨b0, o0, none⟩ ⟨b1, o1, none⟩ b) k (szP Try.prog) w ∧ k.mode = 2 := by
    intro b k h
    rcases hget2 h with ⟨rfl, rfl⟩ | ⟨rfl, rfl⟩
    · exact ⟨by unfold eD; decide, blk1 (fun _ => rfl) hh hx _ _, rfl⟩
    · exact ⟨by unfold eD; decide, blk1 (fun _ => rfl) hh1 hx1 _ _, rfl⟩
  have hv : VR eD (eR ⟨b0, o0, none⟩ ⟨b1, o1, none⟩) (.slice (some ⟨0, 0, none⟩) l.length c0) (.slice (some ⟨b0, o0, none⟩) l.length c0) := vr_slice (by unfold eD; decide) rfl hc
  have hv1 : VR eD (eR ⟨b0, o0, none⟩ ⟨b1, o1, none⟩) (.slice (some ⟨1, 0, none⟩) lb.length c1) (.slice (some ⟨b1, o1, none⟩) lb.length c1) := vr_slice (by unfold eD; decide) rfl hc1
  by_cases h : 80 < l.length
  · exact every_of hH (ω := [(386, .soft (.bool true))]) (LF := 10) (ps := [decide ((l.length : Int) > 80) = true]) (by kernel_rfl) (ob_cons (by simp; omega) ob_nil) hv hv1
  have e1 : decide ((l.length : Int) > 80) = false := by simp; omega
  by_cases h2 : lb.length < l.length
  · exact every_of hH (ω := [(386, .soft (.bool false)), (770, .soft (.bool true))]) (LF := 10) (ps := [decide ((l.length : Int) > 80) = false, decide ((lb.length : Int) < (l.length : Int)) = true]) (by kernel_rfl) (ob_cons e1 (ob_cons (by simp; omega) ob_nil)) hv hv1
  have e2 : decide ((lb.length : Int) < (l.length : Int)) = false := by simp; omega
  rcases check_ne ce cw cr cf with h3 | ⟨h3, h4⟩
  · exact every_of hH (ω := [(386, .soft (.bool false)), (770, .soft (.bool false)), (1090, .soft (.bool true))]) (LF := 10) (ps := [decide ((l.length : Int) > 80) = false, decide ((lb.length : Int) < (l.length : Int)) = false, (check_0 ce cw cr cf != 0) = true]) (by kernel_rfl) (ob_cons e1 (ob_cons e2 (ob_cons h3 ob_nil))) hv hv1
  have hL := es_loop h4 el0 el1 l lb c0 c1 (by omega) (by omega)
  exact every_of hH (ω := [(386, .soft (.bool false)), (770, .soft (.bool false)), (1090, .soft (.bool false)), (1667, .loop eKeys (.exit 0) (esF ce cw cr cf l lb c0 c1 l.length) (esH el0 el1 ce cw cr cf l lb l.length) 1922)]) (LF := 0)
    (ps := [decide ((l.length : Int) > 80) = false, decide ((lb.length : Int) < (l.length : Int)) = false, (check_0 ce cw cr cf != 0) = false,
      LoopOK Try.prog (loopN Try.prog 6 0) (esF ce cw cr cf l lb c0 c1 0) (esH el0 el1 ce cw cr cf l lb 0) 1666 ⟨.exit 0, esF ce cw cr cf l lb c0 c1 l.length, esH el0 el1 ce cw cr cf l lb l.length, 1922, []⟩])
    (by kernel_rfl) (ob_cons e1 (ob_cons e2 (ob_cons h3 (ob_cons hL ob_nil)))) hv hv1
theorem every_any {v1 v2 : Value} (h1 : Sh w (fun x : Int => Value.int .i64 x) v1) (h2 : Sh w (fun x : Bool => Value.bool x) v2) : GoodE ce cw cr cf v1 v2 w := by
  rcases h1 with rfl | ⟨a, c, rfl⟩ | ⟨l, b0, o0, c0, el0, cs0, fz0, hl, hc, rfl, hh, hx⟩ <;> rcases h2 with rfl | ⟨a', c', rfl⟩ | ⟨lb, b1, o1, c1, el1, cs1, fz1, hl1, hc1, rfl, hh1, hx1⟩
  · exact nil_nil ce cw cr cf w
  · exact nil_hol ce cw cr cf w a' c'
  · exact nil_blk ce cw cr cf hc1 hh1 hx1
  · exact hol_nil ce cw cr cf w a c
  · exact hol_hol ce cw cr cf w a c a' c'
  · exact hol_blk ce cw cr cf a c hc1 hh1 hx1
  · exact blk_nil ce cw cr cf hl hc hh hx
  · exact blk_hol ce cw cr cf a' c' hl hc hh hx
  · exact blk_blk ce cw cr cf hc hh hx hc1 hh1 hx1
end
end Go.Proofs.Ytbmgigbcilgieaa
