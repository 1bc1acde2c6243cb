/- The example of chapter 11. -/
import Derived.Test.YtgcglongjjpkbaaDoorEvent3
namespace Go.Proofs.YtgcglongjjpkbaaDoor
open Go.RowKit

def noS : ByteArray := ⟨#[]⟩
def passE : Ev := ⟨1, noS, noS, noS, noS, 0, 0, .odd .nilIface⟩
def zeroE : Ev := ⟨0, noS, noS, noS, noS, 0, 0, .odd .nilIface⟩
theorem passE_ok : passE.ok := ⟨by unfold IsInt64; decide, by unfold IsInt64; decide, by unfold IsInt64; decide, .inl rfl⟩
theorem zeroE_ok : zeroE.ok := ⟨by unfold IsInt64; decide, by unfold IsInt64; decide, by unfold IsInt64; decide, .inl rfl⟩
theorem passE_check : passE.check = 0 := by decide +kernel
theorem zeroE_check : zeroE.check = 1 := by decide +kernel
set_option maxRecDepth 100000 in
set_option maxHeartbeats 1000000 in
theorem wakes11_calls (w : World) (ht : TabOk w) :
    Calls Tryd.prog 27 #[] w fun e w' => e = .returned (.bool true) ∧ Below w.heap.size w w' := by
  have h1 := echeck_calls passE passE_ok (by decide) w ht
  have h2 := fun w ht => echeck_calls zeroE zeroE_ok (by decide) w ht
  rw [passE_check] at h1
  rw [zeroE_check] at h2
  go_enter Tryd.func27, Tryd.ntmps27
  go_wp2_with fail
  refine (h1).mono ?_
  rintro e w1 ⟨rfl, hb1⟩
  have ht1 := ht.below hb1
  go_wp2_with fail
  refine (h2 _ ht1).mono ?_
  rintro e w2 ⟨rfl, hb2⟩
  go_wp2_with fail
  go_ret
  exact ⟨rfl, bl_step hb2 hb1⟩
end Go.Proofs.YtgcglongjjpkbaaDoor
