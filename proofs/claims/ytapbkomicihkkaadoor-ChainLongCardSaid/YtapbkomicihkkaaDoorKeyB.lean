/- A key made of bytes. -/
import Derived.Test.YtapbkomicihkkaaDoorBytes3
import Derived.Laws.CopyOwn
import Derived.Deep.MidRow
namespace Go.Proofs.YtapbkomicihkkaaDoor
open Go.RowKit
set_option linter.unusedVariables false
set_option linter.unusedSimpArgs false

/-- The key that is made of bytes: the first sixteen, then zeros. -/
def keyOf (k : List UInt8) : List UInt8 := k.take 16 ++ List.replicate (16 - min 16 k.length) 0
theorem keyOf_length (k : List UInt8) : (keyOf k).length = 16 := by simp [keyOf]; omega
def zeros16 : List Value := [.int .u8 0, .int .u8 0, .int .u8 0, .int .u8 0, .int .u8 0, .int .u8 0, .int .u8 0, .int .u8 0, .int .u8 0, .int .u8 0, .int .u8 0, .int .u8 0, .int .u8 0, .int .u8 0, .int .u8 0, .int .u8 0]
theorem key_splice (k : List UInt8) : splice zeros16 0 (byts (k.take 16)) = byts (keyOf k) := by
  have hz : zeros16 = List.replicate 16 (.int .u8 0) := rfl
  rw [hz]
  unfold splice keyOf
  rw [byts_length, List.take_zero, List.nil_append, List.drop_replicate, List.length_take, Nat.zero_add]
  simp [byts]
theorem Blk.range {w : World} {g : Nat} {xs : List Value} {t : TypeId} (h : Blk w g xs.toArray t) : w.rangeAt g 0 xs := fun j v hv => by
  rw [Nat.zero_add, h.cell]; simpa using hv
theorem range_below {w w1 : World} {g : Nat} {xs : List Value} (h : w.rangeAt g 0 xs) (hb : Below w.heap.size w w1) : w1.rangeAt g 0 xs := fun j v hv => cell_below hb (h j v hv)
end Go.Proofs.YtapbkomicihkkaaDoor
