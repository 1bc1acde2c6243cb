/- The reference's numbers of bytes, and its round. -/
import Derived.Test.YtapbkomicihkkaaDoorSip2
namespace Go.Proofs.YtapbkomicihkkaaDoor
open Go.RowKit
set_option linter.unusedVariables false
set_option linter.unusedSimpArgs false

/-- Eight bytes as a number, the least first: from the last one on. -/
def refStep (c : UInt8) (n : Int) : Int := bits .or .u64 (IntKind.u64.wrap (n * 256)) (c.toNat : Int)
def refNum (l : List UInt8) : Int := l.foldr refStep 0
theorem isU_refNum (l : List UInt8) : isU (refNum l) := by
  cases l with
  | nil => exact ⟨by decide, by decide⟩
  | cons c l => exact isU_bits .or _ _

end Go.Proofs.YtapbkomicihkkaaDoor
