/- The example of chapter 6. -/
import Derived.Test.YtgcglongjjpkbaaDoorWrite3
import Derived.Test.YtgcglongjjpkbaaDoorKeep
namespace Go.Proofs.YtgcglongjjpkbaaDoor
open Go.RowKit

def usdS : ByteArray := ⟨#[117, 115, 100]⟩
def exTm : Tm := .scale (.const 100) (.one usdS)
theorem itoa_100 : itoaS 100 = ⟨#[49, 48, 48]⟩ := by
  unfold itoaS
  rw [show Lib.itoa 100 = [49, 48, 48] by simp [Lib.itoa, Lib.decDigits]]
theorem ex_text : exTm.text = ⟨#[115, 99, 97, 108, 101, 40, 49, 48, 48, 44, 111, 110, 101, 40, 117, 115, 100, 41, 41]⟩ := by
  unfold exTm Tm.text Ob.text Tm.text
  rw [itoa_100]
  rfl
theorem ex_check : exTm.check = 0 := by decide +kernel
theorem ex_write : exTm.write = (⟨#[115, 99, 97, 108, 101, 40, 49, 48, 48, 44, 111, 110, 101, 40, 117, 115, 100, 41, 41]⟩, 0) := by
  unfold Tm.write
  rw [if_pos ex_check, ex_text]
  rfl
set_option maxRecDepth 100000 in
set_option maxHeartbeats 1000000 in
theorem wakes6_calls (w : World) (ht : TabOk w) :
    Calls Tryd.prog 12 #[] w fun e w' => e = .returned (.bool true) ∧ Below w.heap.size w w' := by
  have hw := twrite_calls exTm (by simp [exTm, Tm.ok, Ob.ok]; decide) (by decide) w ht
  rw [ex_write] at hw
  have HW := Lib.hid hw
  clear hw
  go_enter Tryd.func12, Tryd.ntmps12
  go_wp2_with fail
  refine (HW.out).mono ?_
  rintro e w1 ⟨rfl, hb1⟩
  go_wp2_with fail
  go_ret
  exact ⟨rfl, hb1⟩
end Go.Proofs.YtgcglongjjpkbaaDoor
