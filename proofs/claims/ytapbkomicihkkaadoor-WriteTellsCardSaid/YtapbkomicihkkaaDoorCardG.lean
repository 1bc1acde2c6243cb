/- A plan as an argument: what its data say of the memory. -/
import Derived.Test.YtapbkomicihkkaaDoorWriteG
import Derived.Test.YtapbkomicihkkaaDoorCards
import Derived.ProofKit
import Derived.LaidMore
import Derived.LaidHandle
import Derived.MakeChecks
import Derived.Lib.LaidTab
import Derived.Stop.LaidErr
import Derived.Stop.Joined
import Derived.OpenShut
import Derived.Test.YtapbkomicihkkaaDoorPlan1
import Derived.SizedLaws
import Derived.SliceStrings
import Derived.ChangeSame
namespace Go.Proofs.YtapbkomicihkkaaDoor
open Go.ChangeShapes Go.WideShapes Go.ChangeAt Go.RowKit
set_option linter.unusedVariables false
set_option linter.unusedSimpArgs false

theorem own : ownKnob Tryd.prog.godebug = none := by kernel_rfl
/-- The list of the rows of this seat. -/
def laidL : List (String × DataW Unit) := [("math/bits.deBruijn32tab", Rows.laid_math_bits_deBruijn32tab), ("math/bits.deBruijn64tab", Rows.laid_math_bits_deBruijn64tab), ("internal/strconv.uint64pow10", Rows.laid_internal_strconv_uint64pow10)]
theorem laidL_plain (w : World) : laidMetH Tryd.prog laidL w = laidMet Tryd.prog laidL w := MakeChecks.laidMetH_plain _ _ _ (by kernel_rfl)
/-- The door's own heap meets the condition. -/
theorem door_met (os : Os) (args : Array Value) : laidMetH Tryd.prog laidL ((World.doorLaid Tryd.prog 400 os).forCall (fun _ _ => 0) ⟨#[], args, []⟩).memory :=
  laidMetH_of_parts3 (fuel := 8) (laidMet_of_run' 8 (by kernel_rfl) (by kernel_rfl)) (by kernel_rfl) (by kernel_rfl)
theorem tab_of_laid {W : World} (h : laidMetH Tryd.prog laidL W) : TabOk W := by
  rw [laidL_plain] at h
  have h2 := laidMet.tail (laidMet.tail h)
  have e : (Rows.laid_internal_strconv_uint64pow10 : DataW Unit) = Lib.tabData .u64 Lib.pow10Tab := by kernel_rfl
  rw [e] at h2
  exact Lib.tabIs_of_head (g := 0) (t := 210) (e := 80) (n := 20) (by kernel_rfl) (by kernel_rfl) Tryd.underlying210 Tryd.underlying80 (by kernel_rfl) (by kernel_rfl) h2
end Go.Proofs.YtapbkomicihkkaaDoor
namespace Go.Proofs.YtapbkomicihkkaaDoor
open Go.ChangeShapes Go.WideShapes Go.ChangeAt Go.RowKit
set_option linter.unusedVariables false
set_option linter.unusedSimpArgs false

theorem Rd.of_all {w : World} {x : Addr} (xs : List Value) (h : ∀ i, i < xs.length → w.cell? (x.add i) = xs[i]?) : Rd w (some x) xs := by
  intro j v hv
  refine ⟨x, rfl, ?_⟩
  have hj : j < xs.length := (List.getElem?_eq_some_iff.1 hv).1
  rw [h j hj, hv]
theorem bytesOf_int : Tryd.prog.bytesOf 3 = 8 := by kernel_rfl
theorem bytesOf_string : Tryd.prog.bytesOf 9 = 16 := by kernel_rfl
section
variable {H : Type} {enc : TypeId × Value → H} {W : World}
theorem open_nums {fuel : Nat} {cs : List Value} {x : DataW H × List MemPlace} (h : DataW.trod enc Tryd.prog W 0 (fun _ => true) true fuel 22 cs = some x) (hs : (DataW.weights Tryd.prog 22 x.1).all (· ≤ reachBytes) = true) :
    ∃ (A : Option Addr) (n c : Nat) (xs : List Value), cs = [.slice A n c] ∧ Rd W A xs ∧ xs.length = n ∧ n ≤ 140737488355328 ∧ ∀ (j : Nat) (v : Value), xs[j]? = some v → ∃ i : Int, v = .int .i64 i ∧ -9223372036854775808 ≤ i ∧ i ≤ 9223372036854775807 := by
  rcases open_ints Tryd.underlying22 Tryd.underlying3 (by kernel_rfl) h with ⟨rfl, _⟩ | ⟨a, len, cap, zs, rfl, _, hl, hm, hz, rfl, hcell, hwz⟩
  · exact ⟨none, 0, 0, [], rfl, Rd.nil _ _, rfl, by omega, fun j v hv => by simp at hv⟩
  · have hz' : zs.length = cap := by simpa using hz
    have hw : cap * 8 ≤ reachBytes := by
      have hmem : ((lits .i64 (zs.take len) : List (DataW H)).length + (lits .i64 (zs.drop len) : List (DataW H)).length) * Tryd.prog.bytesOf 3 ∈ DataW.weights Tryd.prog 22 (DataW.slice (H := H) (lits .i64 (zs.take len)) (lits .i64 (zs.drop len))) := by
        unfold DataW.weights
        rw [Tryd.underlying22]
        exact List.mem_cons_self
      have h2 := List.all_eq_true.1 hs _ hmem
      have h3 : ((lits .i64 (zs.take len) : List (DataW H)).length + (lits .i64 (zs.drop len) : List (DataW H)).length) = cap := by simp [lits, ChangeShapes.strs, List.length_take, List.length_drop]; omega
      rw [h3, bytesOf_int] at h2
      exact of_decide_eq_true h2
    have hr : reachBytes = 140737488351232 := rfl
    refine ⟨some a, len, cap, (zs.take len).map (Value.int .i64), rfl, Rd.of_all _ fun i hi => ?_, by rw [List.length_map, List.length_take]; omega, by omega, fun j v hv => ?_⟩
    · rw [List.length_map, List.length_take] at hi
      have h1 : i < zs.length := by omega
      rw [hcell i h1, List.getElem?_map, List.getElem?_take, if_pos (by omega), List.getElem?_eq_getElem h1]
      simp [List.getD, List.getElem?_eq_getElem h1]
    · rw [List.getElem?_map] at hv
      cases hzj : (zs.take len)[j]? with
      | none => rw [hzj] at hv; cases hv
      | some z =>
        rw [hzj] at hv
        have hmem : z ∈ zs := List.mem_of_mem_take (List.mem_of_getElem? hzj)
        have hb := bounds_i64 (hwz z hmem)
        exact ⟨z, by simpa using hv.symm, hb.1, by omega⟩
theorem open_words {fuel : Nat} {cs : List Value} {x : DataW H × List MemPlace} (h : DataW.trod enc Tryd.prog W 0 (fun _ => true) true fuel 23 cs = some x) (hs : (DataW.weights Tryd.prog 23 x.1).all (· ≤ reachBytes) = true) :
    ∃ (A : Option Addr) (n c : Nat) (xs : List Value), cs = [.slice A n c] ∧ Rd W A xs ∧ xs.length = n ∧ n ≤ 140737488355328 ∧ ∀ (j : Nat) (v : Value), xs[j]? = some v → ∃ s : ByteArray, v = .string s ∧ s.size ≤ 9223372036854775807 := by
  rcases open_strings Tryd.underlying23 Tryd.underlying9 (by kernel_rfl) h with ⟨rfl, _⟩ | ⟨a, len, cap, zs, rfl, _, hl, hm, hz, rfl, hcell, hwz⟩
  · exact ⟨none, 0, 0, [], rfl, Rd.nil _ _, rfl, by omega, fun j v hv => by simp at hv⟩
  · have hz' : zs.length = cap := by simpa using hz
    have hw : cap * 16 ≤ reachBytes := by
      have hmem : ((ChangeShapes.strs (zs.take len) : List (DataW H)).length + (ChangeShapes.strs (zs.drop len) : List (DataW H)).length) * Tryd.prog.bytesOf 9 ∈ DataW.weights Tryd.prog 23 (DataW.slice (H := H) (ChangeShapes.strs (zs.take len)) (ChangeShapes.strs (zs.drop len))) := by
        unfold DataW.weights
        rw [Tryd.underlying23]
        exact List.mem_cons_self
      have h2 := List.all_eq_true.1 hs _ hmem
      have h3 : ((ChangeShapes.strs (zs.take len) : List (DataW H)).length + (ChangeShapes.strs (zs.drop len) : List (DataW H)).length) = cap := by simp [lits, ChangeShapes.strs, List.length_take, List.length_drop]; omega
      rw [h3, bytesOf_string] at h2
      exact of_decide_eq_true h2
    have hr : reachBytes = 140737488351232 := rfl
    refine ⟨some a, len, cap, (zs.take len).map Value.string, rfl, Rd.of_all _ fun i hi => ?_, by rw [List.length_map, List.length_take]; omega, by omega, fun j v hv => ?_⟩
    · rw [List.length_map, List.length_take] at hi
      have h1 : i < zs.length := by omega
      rw [hcell i h1, List.getElem?_map, List.getElem?_take, if_pos (by omega), List.getElem?_eq_getElem h1]
      simp [List.getD, List.getElem?_eq_getElem h1]
    · rw [List.getElem?_map] at hv
      cases hzj : (zs.take len)[j]? with
      | none => rw [hzj] at hv; cases hv
      | some z =>
        rw [hzj] at hv
        have hmem : z ∈ zs := List.mem_of_mem_take (List.mem_of_getElem? hzj)
        have hb := hwz z hmem
        have hM : maxLen = 9223372036854775807 := by decide
        exact ⟨z, by simpa using hv.symm, by omega⟩
set_option maxRecDepth 100000 in
theorem open_plan {base : Nat} {v : Value} {d : DataW H} {ps : List MemPlace} {ts : List TypeId} {ds : List (DataW H)} {j : Nat} (hval : Value.okWide Tryd.prog W .any base 25 v) (h : DataW.Trod enc Tryd.prog W 0 (fun _ => true) true 25 v d ps)
    (hsz : (DataW.weightsEach Tryd.prog ts ds).all (· ≤ reachBytes) = true) (ht : ts[j]? = some 25) (hd : ds[j]? = some d) : ∃ vN vW : Value, v = .agg #[vN, vW] ∧ PlanAt W vN vW := by
  obtain ⟨cs, rfl, hcs⟩ := okWide_struct Tryd.underlying25 hval
  obtain ⟨fuel, hf⟩ := h
  obtain ⟨y0, y1, n, hx, hlen, h0, h1⟩ := trod_struct2 Tryd.underlying25 hf
  have hC : Tryd.prog.cellsOf 25 = 2 := by kernel_rfl
  rw [hC] at hcs
  obtain ⟨c0, c1, rfl⟩ : ∃ c0 c1, cs = #[c0, c1] := by
    obtain ⟨l⟩ := cs
    match l, hcs with
    | [a, b], _ => exact ⟨a, b, rfl⟩
  have hC0 : Tryd.prog.cellsOf 22 = 1 := by kernel_rfl
  have hC1 : Tryd.prog.cellsOf 23 = 1 := by kernel_rfl
  simp only [hC0, hC1] at h0 h1
  have hd' : d = .agg [y0.1, y1.1] := congrArg Prod.fst hx
  have hw : ∀ k, k ∈ DataW.weights Tryd.prog 22 y0.1 ++ DataW.weights Tryd.prog 23 y1.1 → (decide (k ≤ reachBytes)) = true := fun k hk =>
    List.all_eq_true.1 hsz k (DataW.weights_mem_each ht hd k (by rw [hd']; simpa [DataW.weights, DataW.weightsEach, Tryd.underlying25] using hk))
  obtain ⟨A, n1, c, xs, e0, r0⟩ := open_nums h0 (List.all_eq_true.2 fun k hk => hw k (List.mem_append_left _ hk))
  obtain ⟨A', n', c', xs', e1, r1⟩ := open_words h1 (List.all_eq_true.2 fun k hk => hw k (List.mem_append_right _ hk))
  obtain rfl : c0 = .slice A n1 c := by simpa [Value.cells] using e0
  obtain rfl : c1 = .slice A' n' c' := by simpa [Value.cells] using e1
  exact ⟨_, _, rfl, ⟨⟨A, n1, c, xs, rfl, r0⟩, ⟨A', n', c', xs', rfl, r1⟩⟩⟩
end
end Go.Proofs.YtapbkomicihkkaaDoor
