/- The statements' helps: cuts. -/
import Derived.Test.YtapbkomicihkkaaGreatDoorOwn
namespace Go.Proofs.YtapbkomicihkkaaGreatDoor
open Go.RowKit
set_option linter.unusedVariables false
set_option linter.unusedSimpArgs false

theorem within_calls (v n : Int) (w : World) (hv : -9223372036854775808 ≤ v ∧ v ≤ 9223372036854775807) (hn : 1 ≤ n ∧ n ≤ 140737488355328) :
    Calls Tryz.prog 10 #[.int .i64 v, .int .i64 n] w fun e w' => e = .returned (.int .i64 (v % n)) ∧ w' = w := by
  go_enter Tryz.func10, Tryz.ntmps10
  obtain ⟨hv0, hv1⟩ := hv
  obtain ⟨hn0, hn1⟩ := hn
  have h1 : v.tmod n < n := Int.tmod_lt_of_pos _ (by omega)
  have h2 : -n < v.tmod n := by have := Int.lt_tmod_of_pos v (show 0 < n by omega); exact this
  have h3 := Lib.hid (Int.tmod_eq_emod (a := v) (b := n))
  have h4 := Int.emod_nonneg v (show n ≠ 0 by omega)
  have h5 := Int.emod_lt_of_pos v (show 0 < n by omega)
  go_wp2
  · go_ret
    refine ⟨?_, rfl⟩
    have h6 : v.tmod n < 0 := by assumption
    have h7 := h3.out
    split at h7
    · omega
    · show Ending.returned (.int .i64 (v.tmod n + n)) = _
      rw [show v.tmod n + n = v % n by omega]
  · go_ret
    refine ⟨?_, rfl⟩
    have h6 : 0 ≤ v.tmod n := by assumption
    have h7 := h3.out
    split at h7
    · show Ending.returned (.int .i64 (v.tmod n)) = _
      rw [show v.tmod n = v % n by omega]
    · omega
end Go.Proofs.YtapbkomicihkkaaGreatDoor
