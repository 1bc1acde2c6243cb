/- Things that are no terms. -/
import Derived.Test.YtapbkomicihkkaaDoorKeep
import Derived.Test.YtapbkomicihkkaaDoorTreeG
import Derived.Test.YtapbkomicihkkaaDoorBuild
import Derived.Deep.DeepCutAuto
import Derived.Deep.CutBlock
import Derived.Carry
namespace Go.Proofs.YtapbkomicihkkaaDoor
open Go.RowKit
set_option linter.unusedVariables false
set_option linter.unusedSimpArgs false

theorem OddT.mk {t : TypeId} {x : Value} (h : ([46, 49, 51, 53, 55, 59, 57, 63].contains t) = false) : OddT (.iface t x) := by
  simp at h
  exact .inr ⟨t, x, rfl, by simp [*]⟩
set_option maxRecDepth 100000 in
set_option maxHeartbeats 4000000 in
theorem odd_calls (n : Int) (hn : -9223372036854775808 ≤ n ∧ n ≤ 9223372036854775807) (w : World) :
    Calls Tryd.prog 29 #[.int .i64 n] w fun e w' => ∃ v, e = .returned v ∧ OddT v ∧ Below w.heap.size w w' := by
  have hwi := fun W => within_calls n 9 W hn (by omega)
  obtain ⟨m, hm⟩ : ∃ m : Nat, n % 9 = (m : Int) := ⟨(n % 9).toNat, by have := Int.emod_nonneg n (show (9 : Int) ≠ 0 by omega); omega⟩
  have hm9 : m < 9 := by have := Int.emod_lt_of_pos n (show (0 : Int) < 9 by omega); omega
  rw [hm] at hwi
  have HWI := Lib.hid hwi
  clear hwi hm
  have hmm := @run_makeMap Tryd.prog
  obtain rfl | rfl | rfl | rfl | rfl | rfl | rfl | rfl | rfl : m = 0 ∨ m = 1 ∨ m = 2 ∨ m = 3 ∨ m = 4 ∨ m = 5 ∨ m = 6 ∨ m = 7 ∨ m = 8 := by omega
  all_goals
    go_enter Tryd.func29, Tryd.ntmps29
    go_wp2_with fail
    refine (HWI.out _).mono ?_
    rintro en w1 ⟨rfl, rfl⟩
    go_wp2_with fail
    go_ret
    refine ⟨_, rfl, ?_, ?_⟩
    · first | exact .inl rfl | exact OddT.mk (by decide)
    · exact bl_alloc (bl_alloc (bl_alloc (bl_alloc (bl_alloc (bl_refl _) _) _) _) _) _
end Go.Proofs.YtapbkomicihkkaaDoor
