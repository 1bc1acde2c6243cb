/- Rows of memory that a loop fills, cell by cell. -/
import Derived.Test.YtapbkomicihkkaaDoorBase
namespace Go.Proofs.YtapbkomicihkkaaDoor
open Go.RowKit
set_option linter.unusedVariables false
set_option linter.unusedSimpArgs false

/-- Of n cells the first k are filled by f; the others hold z. -/
def filled (n k : Nat) (f : Nat → Value) (z : Value) : Array Value := ((List.range n).map fun j => if j < k then f j else z).toArray
theorem filled_size (n k : Nat) (f : Nat → Value) (z : Value) : (filled n k f z).size = n := by simp [filled]
theorem filled_get (n k : Nat) (f : Nat → Value) (z : Value) (j : Nat) (h : j < n) : (filled n k f z)[j]? = some (if j < k then f j else z) := by
  simp [filled, h]
theorem filled_set (n k : Nat) (f : Nat → Value) (z : Value) : (filled n k f z).setIfInBounds k (f k) = filled n (k + 1) f z := by
  apply Array.ext_getElem?
  intro j
  rw [Array.getElem?_setIfInBounds]
  by_cases hj : j < n
  · rw [filled_get n k f z j hj, filled_get n (k + 1) f z j hj, filled_size]
    by_cases hk : k = j
    · subst hk; simp [hj]
    · rw [if_neg hk]
      congr 1
      by_cases h2 : j < k
      · rw [if_pos h2, if_pos (by omega)]
      · rw [if_neg h2, if_neg (by omega)]
  · have h1 : (filled n k f z)[j]? = none := by rw [Array.getElem?_eq_none]; rw [filled_size]; omega
    have h2 : (filled n (k + 1) f z)[j]? = none := by rw [Array.getElem?_eq_none]; rw [filled_size]; omega
    rw [h1, h2, filled_size]
    simp
    intro e; omega
theorem filled_zero (n : Nat) (f : Nat → Value) (z : Value) : filled n 0 f z = Array.replicate n z := by
  apply Array.ext_getElem?
  intro j
  by_cases hj : j < n
  · rw [filled_get n 0 f z j hj]; simp [hj]
  · rw [Array.getElem?_eq_none (by rw [filled_size]; omega), Array.getElem?_eq_none (by simp; omega)]
theorem filled_all (n : Nat) (f : Nat → Value) (z : Value) : filled n n f z = ((List.range n).map f).toArray := by
  unfold filled
  congr 1
  apply List.map_congr_left
  intro j hj
  rw [if_pos (List.mem_range.1 hj)]
end Go.Proofs.YtapbkomicihkkaaDoor
