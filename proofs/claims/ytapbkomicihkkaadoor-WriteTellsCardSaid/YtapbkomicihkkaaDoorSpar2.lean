/- Guarded operations of a drawn region, over a frame of which few slots are known. -/
import Derived.Test.YtapbkomicihkkaaDoorSpar
import Derived.Deep.RegionWith
namespace Go.Proofs.YtapbkomicihkkaaDoor
open Go.RowKit
set_option linter.unusedVariables false
set_option linter.unusedSimpArgs false

theorem wpAnyH_lst {P : Program} {ops : Array Oper} {Q : Exit → Act → World → Prop} {md : Region.Mode} {S : World → Prop} {fuel : Nat} {listed : Array Bool} {a : Act} {w : World} (l2 : Array Bool) (e : listed = l2) (h : wpAnyH P md ops Q S fuel l2 a w) : wpAnyH P md ops Q S fuel listed a w := e ▸ h
theorem yielded_kn {ops : Array Oper} {A : Act} {l : List (Nat × Value)} {j d : Nat} {b : Bool} (hN : Kn A l) (hd : (ops[j]?).bind (·.dst) = some d) (hl : atK d l = some (.bool b)) : yielded ops A.tmps j = some b := by
  have h := hN.get d hl
  unfold yielded
  rw [hd]
  cases e : A.tmps[d]? with
  | none => rw [e] at h; cases h
  | some v =>
    rw [e] at h
    obtain rfl : v = .bool b := h
    simp [e]
theorem wanted_yes {ops : Array Oper} {o : Oper} {A : Act} {l : List (Nat × Value)} {j d : Nat} {b : Bool} (hN : Kn A l) (hg : o.guard = some (j, b)) (hd : (ops[j]?).bind (·.dst) = some d) (hl : atK d l = some (.bool b)) : Region.wanted o (yielded ops A.tmps) = true := by
  unfold Region.wanted
  rw [hg]
  simp [yielded_kn hN hd hl]
theorem wanted_no {ops : Array Oper} {o : Oper} {A : Act} {l : List (Nat × Value)} {j d : Nat} {b : Bool} (hN : Kn A l) (hg : o.guard = some (j, b)) (hd : (ops[j]?).bind (·.dst) = some d) (hl : atK d l = some (.bool (!b))) : Region.wanted o (yielded ops A.tmps) = false := by
  unfold Region.wanted
  rw [hg]
  simp [yielded_kn hN hd hl]
end Go.Proofs.YtapbkomicihkkaaDoor
