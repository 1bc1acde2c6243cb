/- One byte, as a string. -/
import Derived.Test.YtnekcijganhknaaGreatDoorOwn
import Derived.Laws.IdiomStrings
namespace Go.Proofs.YtnekcijganhknaaGreatDoor
open Go.RowKit
set_option linter.unusedVariables false
set_option linter.unusedSimpArgs false

theorem one_back (u : Nat) (hu : u < 256) (W : World) (b : Nat) (hc : W.cell? ⟨b, 0, none⟩ = some (.int .u8 (u : Int))) :
    (convert 134 9 (.slice (some ⟨b, 0, none⟩) 1 1)).run Tryz.prog W = .ok (.string ⟨#[UInt8.ofNat u]⟩) W := by
  refine run_convert_bytes_back W _ _ 5 ⟨b, 0, none⟩ 1 [UInt8.ofNat u] (by kernel_rfl) (by kernel_rfl) (by kernel_rfl) ?_
  intro j hj
  have : j = 0 := by simpa using hj
  subst this
  simp only [Addr.add, if_true, List.getElem_cons_zero]
  rw [hc]
  simp
  omega
end Go.Proofs.YtnekcijganhknaaGreatDoor
