/- The example of chapter 6. -/
import Derived.Test.YtapbkomicihkkaaDoorWriteG
import Derived.Test.YtapbkomicihkkaaDoorKeep
namespace Go.Proofs.YtapbkomicihkkaaDoor
open Go.RowKit
set_option linter.unusedVariables false
set_option linter.unusedSimpArgs false

set_option maxRecDepth 100000 in
set_option maxHeartbeats 1000000 in
theorem owrite_calls (o : Ob) (ho : o.ok) (hm : o.meas ≤ 1099511627776) (w : World) (ht : TabOk w) :
    Calls Tryd.prog 14 #[o.val] w fun e w' => e = .returned (.tuple #[.string o.write.1, .int .i64 o.write.2]) ∧ Below w.heap.size w w' := by
  have hck := check_calls o ho (by omega)
  by_cases h : o.check = 0
  · have e : o.write = toldS o.text := if_pos h
    have hz := o.check_zero h
    have hts := o.text_size ho hz.1
    have hcc := number_calls o ho (o.form_plain hz.1) (by omega)
    have htd := told_calls o.text (by omega)
    rw [h] at hck
    rw [e]
    generalize toldS o.text = ts at *
    generalize o.text = s at *
    clear e h hz
    go_enter Tryd.func14, Tryd.ntmps14
    go_wp2_with fail
    refine (hck _).mono ?_
    rintro e w1 ⟨rfl, hb1⟩
    go_wp2_with fail
    refine (hcc _ (ht.below hb1)).mono ?_
    rintro e w2 ⟨rfl, hb2⟩
    go_wp2_with fail
    refine (htd _).mono ?_
    rintro e w3 ⟨rfl, rfl⟩
    go_wp2_with fail
    go_ret2
    exact ⟨rfl, bl_step hb2 hb1⟩
  · have e : o.write = (⟨#[]⟩, o.check) := if_neg h
    have h' : (o.check != 0) = true := by simp [h]
    rw [e]
    clear e
    generalize o.check = c at *
    clear h
    go_enter Tryd.func14, Tryd.ntmps14
    go_wp2_with fail
    refine (hck _).mono ?_
    rintro e w1 ⟨rfl, hb1⟩
    go_wp2_with fail
    go_ret2
    exact ⟨rfl, hb1⟩
def usdS : ByteArray := ⟨#[117, 115, 100]⟩
def exTm : Tm := .scale (.const 100) (.one usdS)
theorem itoa_100 : itoaS 100 = ⟨#[49, 48, 48]⟩ := by
  unfold itoaS
  rw [show Lib.itoa 100 = [49, 48, 48] by simp [Lib.itoa, Lib.decDigits]]
theorem ex_text : exTm.text = ⟨#[115, 99, 97, 108, 101, 40, 49, 48, 48, 44, 111, 110, 101, 40, 117, 115, 100, 41, 41]⟩ := by
  unfold exTm Tm.text Ob.text Tm.text
  rw [itoa_100]
  rfl
theorem ex_check : exTm.check = 0 := by decide +kernel
theorem ex_write : exTm.write = (⟨#[115, 99, 97, 108, 101, 40, 49, 48, 48, 44, 111, 110, 101, 40, 117, 115, 100, 41, 41]⟩, 0) := by
  unfold Tm.write
  rw [if_pos ex_check, ex_text]
  rfl
set_option maxRecDepth 100000 in
set_option maxHeartbeats 1000000 in
theorem wakes6_calls (w : World) (ht : TabOk w) :
    Calls Tryd.prog 10 #[] w fun e w' => e = .returned (.bool true) ∧ Below w.heap.size w w' := by
  have hw := twrite_calls exTm (by simp [exTm, Tm.ok, Ob.ok]; decide) (by decide) w ht
  rw [ex_write] at hw
  have HW := Lib.hid hw
  clear hw
  go_enter Tryd.func10, Tryd.ntmps10
  go_wp2_with fail
  refine (HW.out).mono ?_
  rintro e w1 ⟨rfl, hb1⟩
  go_wp2_with fail
  go_ret
  exact ⟨rfl, hb1⟩
end Go.Proofs.YtapbkomicihkkaaDoor
