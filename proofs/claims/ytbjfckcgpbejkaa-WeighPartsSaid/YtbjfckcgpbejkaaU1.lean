/- Weigh: hashes, in plain words. -/
import Derived.Test.YtbjfckcgpbejkaaS3
namespace Go.Proofs.Ytbjfckcgpbejkaa
set_option linter.unusedSectionVars false
open Go.RowKit
set_option linter.unusedSimpArgs false
set_option linter.unusedVariables false
variable [Inhabited RawG]
def byteE (s : ByteArray) (x : Nat) : Int := ((s.data.toList.getD x 0).toNat : Int)
theorem byte_at {s : ByteArray} {x : Nat} (h : x < s.size) : (byteCells s)[0 + x * 1]? = some (Value.int .u8 (byteE s x)) := by
  have h' : x < s.data.toList.length := by simpa using h
  unfold byteCells byteE
  exact map_at (f := fun b : UInt8 => Value.int .u8 (b.toNat : Int)) h'
def xorE (h c : Int) : Int := IntKind.u64.wrap (((BitVec.ofInt 64 h ^^^ BitVec.ofInt 64 (IntKind.u64.wrap c)).toNat : Nat) : Int)
def addS (s : ByteArray) (h : Int) : Nat → Int
  | 0 => h
  | x + 1 => IntKind.u64.wrap (xorE (addS s h x) (byteE s x) * 1099511628211)
def addE (h : Int) (s : ByteArray) : Int := addS s h s.size
theorem flat_bytes (s : ByteArray) : FlatL (byteCells s) := fun v hv => by
  obtain ⟨b, _, rfl⟩ := List.mem_map.1 hv
  exact ⟨rfl, rfl⟩
/-- A text that came in. -/
abbrev NS := { s : ByteArray // s.size ≤ 9223372036854775807 }
instance : Inhabited NS := ⟨⟨⟨#[]⟩, by decide⟩⟩
def nsV : NS → Value := fun t => Value.string t.1
end Go.Proofs.Ytbjfckcgpbejkaa
