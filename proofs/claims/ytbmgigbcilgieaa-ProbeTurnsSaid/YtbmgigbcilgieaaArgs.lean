/- Arguments of the probe laws, opened. -/
import Derived.Test.YtbmgigbcilgieaaRows
import Derived.WalkKit
import Derived.ProofKit
import Derived.OpenShut
import Derived.ShutString
import Derived.ChangeOld
import Derived.Below
import Derived.Test.YtbmgigbcilgieaaI
import Derived.Test.YtbmgigbcilgieaaO
namespace Go.Proofs.Ytbmgigbcilgieaa
open Go.RowKit Go.ChangeShapes Go.WideShapes Go.ChangeAt Go.Deep Go.Joins
theorem own : ownKnob Try.prog.godebug = none := by kernel_rfl
theorem laidOut : laidOutB Try.prog = true := by kernel_rfl
/-- A configuration that came in. -/
theorem conf_of_trod {H : Type} {enc : TypeId × Value → H} {w : World} {v : Value} {d : DataW H} {p : List MemPlace} {r : Reach} {b0 : Nat} (hv : Value.okWide Try.prog w r b0 23 v) (h : DataW.Trod enc Try.prog w 0 (fun _ => true) true 23 v d p) :
    ∃ c : PC, v = c.v := by
  obtain ⟨c0, c1, c2, c3, y0, y1, y2, y3, n', rfl, _, _, t0, t1, t2, t3⟩ := open_agg4 Try.underlying23 (by kernel_rfl) (by kernel_rfl) hv h
  obtain ⟨a, e0, _, _⟩ := DataW.trod_int Try.underlying2 t0
  obtain ⟨b, e1, _, _⟩ := DataW.trod_int Try.underlying2 t1
  obtain ⟨r, e2, _, _⟩ := DataW.trod_int Try.underlying3 t2
  obtain ⟨f, e3, _, _⟩ := DataW.trod_int Try.underlying3 t3
  simp at e0 e1 e2 e3
  subst e0 e1 e2 e3
  exact ⟨⟨a, b, r, f⟩, rfl⟩
/-- A slice of bools that came in. -/
theorem bools_of_trod {H : Type} {enc : TypeId × Value → H} {w : World} {A : Option Addr} {n c : Nat} {d : DataW H} {p : List MemPlace} (h : DataW.Trod enc Try.prog w 0 (fun _ => true) true 24 (.slice A n c) d p) :
    ∃ l : List Bool, VAt w w.heap.size A n (l.map .bool) := by
  obtain ⟨fuel, h⟩ := h
  obtain ⟨xs, hx, hp⟩ := vat_of_trod Try.underlying24 (by kernel_rfl) h (P := fun v => ∃ b, v = .bool b) (fun fu v y ht => by obtain ⟨b, e, _⟩ := DataW.trod_bool Try.underlying4 ht; exact ⟨b, by simpa using e⟩)
  obtain ⟨l, rfl⟩ : ∃ l : List Bool, xs = l.map .bool := by
    clear hx h
    induction xs with
    | nil => exact ⟨[], rfl⟩
    | cons x xs ih =>
      obtain ⟨b, rfl⟩ := hp x (by simp)
      obtain ⟨l, rfl⟩ := ih (fun v hv => hp v (by simp [hv]))
      exact ⟨b :: l, rfl⟩
  exact ⟨l, hx⟩
end Go.Proofs.Ytbmgigbcilgieaa
