/- A plan's contract as a tree. -/
import Derived.Test.YtapbkomicihkkaaDoorPtA
import Derived.Test.YtapbkomicihkkaaDoorPtB
import Derived.Test.YtapbkomicihkkaaDoorPtC
import Derived.Test.YtapbkomicihkkaaDoorPtD
import Derived.Test.YtapbkomicihkkaaDoorPtE
import Derived.Test.YtapbkomicihkkaaDoorPtF
namespace Go.Proofs.YtapbkomicihkkaaDoor
open Go.RowKit
set_option linter.unusedVariables false
set_option linter.unusedSimpArgs false

theorem qOf_range (w0 : World) (vN : Value) (i : Nat) (l : Int) (d : Nat) : 0 ≤ qOf w0 vN i l d 13 ∧ qOf w0 vN i l d 13 < 13 := by
  unfold qOf
  split <;> omega
theorem pterm_calls (w0 : World) (g : Nat) (vN vW : Value) : ∀ (d : Nat), d ≤ 10 → ∀ (w : World) (i : Nat) (l : Int) (b : Nat), Mk w0 g vN vW i l b w → i + cot d ≤ 1000000000 → b + cot d ≤ 1000000000 → -100 ≤ l → l ≤ 100 →
    Calls Tryd.prog 39 #[.pointer (some ⟨g, 0, none⟩), .int .i64 d] w (TmPost w0 g vN vW i l b d w) := by
  intro d
  induction d using Nat.strongRecOn with
  | _ d ih =>
    intro hd w i l b hm hi hb hl0 hl1
    obtain ⟨h0, h1⟩ := qOf_range w0 vN i l d
    have hih : PtIh w0 g vN vW d := ih
    by_cases ha : qOf w0 vN i l d 13 ≤ 2
    · exact pterm_a w0 g vN vW d hih hd w i l b hm hi hb hl0 hl1 (by omega)
    by_cases hb' : qOf w0 vN i l d 13 = 3 ∨ qOf w0 vN i l d 13 = 4 ∨ qOf w0 vN i l d 13 = 11
    · exact pterm_b w0 g vN vW d hih hd w i l b hm hi hb hl0 hl1 hb'
    by_cases hc : qOf w0 vN i l d 13 = 5 ∨ qOf w0 vN i l d 13 = 6
    · exact pterm_c w0 g vN vW d hih hd w i l b hm hi hb hl0 hl1 hc
    by_cases hdd : qOf w0 vN i l d 13 = 7 ∨ qOf w0 vN i l d 13 = 8
    · exact pterm_d w0 g vN vW d hih hd w i l b hm hi hb hl0 hl1 hdd
    by_cases he : qOf w0 vN i l d 13 = 9 ∨ qOf w0 vN i l d 13 = 10
    · exact pterm_e w0 g vN vW d hih hd w i l b hm hi hb hl0 hl1 he
    exact pterm_f w0 g vN vW d hih hd w i l b hm hi hb hl0 hl1 (by omega)
end Go.Proofs.YtapbkomicihkkaaDoor
