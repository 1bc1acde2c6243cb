/- Things that are no terms: nor numbers, but for one. -/
import Derived.Test.YtapbkomicihkkaaDoorOdd
import Derived.Test.YtapbkomicihkkaaDoorConvG
namespace Go.Proofs.YtapbkomicihkkaaDoor
open Go.RowKit
set_option linter.unusedVariables false
set_option linter.unusedSimpArgs false

theorem OddO.mk {t : TypeId} {x : Value} (h : ([39, 37, 60, 42, 44, 61].contains t) = false) : OddO (.iface t x) := by
  simp at h
  exact .inr ⟨t, x, rfl, by simp [*]⟩
theorem odd_num {v : Value} (h : OddO v ∨ v = (Ob.const 1).val) : ∃ o : Ob, v = o.val ∧ o.nice 1 := by
  rcases h with h | rfl
  · exact ⟨.odd v, rfl, ⟨h, by unfold Ob.tr Tr.ok; exact ⟨nodeOk_nil _ (by omega), Tr.okAll_nil⟩, by simp [Ob.tr, Tr.size, Tr.sizeAll], by simp [Ob.meas]⟩⟩
  · exact ⟨.const 1, rfl, ⟨by unfold Ob.ok; omega, by unfold Ob.tr Tr.ok; exact ⟨⟨by omega, by decide, by omega⟩, Tr.okAll_nil⟩, by simp [Ob.tr, Tr.size, Tr.sizeAll], by simp [Ob.meas]⟩⟩
theorem odd_term {v : Value} (h : OddT v) : (Tm.odd v).nice 1 := ⟨h, by unfold Tm.tr Tr.ok; exact ⟨nodeOk_nil _ (by omega), Tr.okAll_nil⟩, by simp [Tm.tr, Tr.size, Tr.sizeAll], by simp [Tm.meas]⟩
set_option maxRecDepth 100000 in
set_option maxHeartbeats 4000000 in
theorem odd2_calls (n : Int) (hn : -9223372036854775808 ≤ n ∧ n ≤ 9223372036854775807) (w : World) :
    Calls Tryd.prog 29 #[.int .i64 n] w fun e w' => ∃ v, e = .returned v ∧ OddT v ∧ (OddO v ∨ v = (Ob.const 1).val) ∧ Below w.heap.size w w' := by
  have hwi := fun W => within_calls n 9 W hn (by omega)
  obtain ⟨m, hm⟩ : ∃ m : Nat, n % 9 = (m : Int) := ⟨(n % 9).toNat, by have := Int.emod_nonneg n (show (9 : Int) ≠ 0 by omega); omega⟩
  have hm9 : m < 9 := by have := Int.emod_lt_of_pos n (show (0 : Int) < 9 by omega); omega
  rw [hm] at hwi
  have HWI := Lib.hid hwi
  clear hwi hm
  have hmm := @run_makeMap Tryd.prog
  obtain rfl | rfl | rfl | rfl | rfl | rfl | rfl | rfl | rfl : m = 0 ∨ m = 1 ∨ m = 2 ∨ m = 3 ∨ m = 4 ∨ m = 5 ∨ m = 6 ∨ m = 7 ∨ m = 8 := by omega
  all_goals
    go_enter Tryd.func29, Tryd.ntmps29
    go_wp2_with fail
    refine (HWI.out _).mono ?_
    rintro en w1 ⟨rfl, rfl⟩
    go_wp2_with fail
    go_ret
    refine ⟨_, rfl, ?_, ?_, ?_⟩
    · first | exact .inl rfl | exact OddT.mk (by decide)
    · first | exact .inl (.inl rfl) | exact .inl (OddO.mk (by decide)) | exact .inr rfl
    · exact bl_alloc (bl_alloc (bl_alloc (bl_alloc (bl_alloc (bl_refl _) _) _) _) _) _
end Go.Proofs.YtapbkomicihkkaaDoor
