/- Commands in a row: the argument as a card hands it. -/
import Derived.Test.YtapbkomicihkkaaGreatDoorWriteG
import Derived.Test.YtapbkomicihkkaaGreatDoorCards
import Derived.ProofKit
import Derived.LaidMore
import Derived.LaidHandle
import Derived.MakeChecks
import Derived.Lib.LaidTab
import Derived.Stop.LaidErr
import Derived.Stop.Joined
import Derived.OpenShut
import Derived.Test.YtapbkomicihkkaaGreatDoorPlan1
import Derived.SizedLaws
import Derived.SliceStrings
import Derived.ChangeSame
import Derived.Test.YtapbkomicihkkaaGreatDoorDoAG
import Derived.Test.YtapbkomicihkkaaGreatDoorOwn
namespace Go.Proofs.YtapbkomicihkkaaGreatDoor
open Go.ChangeShapes Go.WideShapes Go.ChangeAt Go.RowKit
set_option linter.unusedVariables false
set_option linter.unusedSimpArgs false

theorem own : ownKnob Tryz.prog.godebug = none := by kernel_rfl
/-- The list of the rows of this seat. -/
def laidL : List (String × DataW Unit) := [("math/bits.deBruijn32tab", Rows.laid_math_bits_deBruijn32tab), ("math/bits.deBruijn64tab", Rows.laid_math_bits_deBruijn64tab), ("internal/strconv.uint64pow10", Rows.laid_internal_strconv_uint64pow10)]
theorem laidL_plain (w : World) : laidMetH Tryz.prog laidL w = laidMet Tryz.prog laidL w := MakeChecks.laidMetH_plain _ _ _ (by kernel_rfl)
/-- The door's own heap meets the condition. -/
theorem door_met (os : Os) (args : Array Value) : laidMetH Tryz.prog laidL ((World.doorLaid Tryz.prog 400 os).forCall (fun _ _ => 0) ⟨#[], args, []⟩).memory :=
 laidMetH_of_parts3 (fuel := 8) (laidMet_of_run' 8 (by kernel_rfl) (by kernel_rfl)) (by kernel_rfl) (by kernel_rfl)
theorem tab_of_laid {W : World} (h : laidMetH Tryz.prog laidL W) : TabOk W := by
 rw [laidL_plain] at h
 have h2 := laidMet.tail (laidMet.tail h)
 have e : (Rows.laid_internal_strconv_uint64pow10 : DataW Unit) = Lib.tabData .u64 Lib.pow10Tab := by kernel_rfl
 rw [e] at h2
 exact Lib.tabIs_of_head (g := 1) (t := 292) (e := 62) (n := 20) (by kernel_rfl) (by kernel_rfl) Tryz.underlying292 Tryz.underlying62 (by kernel_rfl) (by kernel_rfl) h2
theorem Rd.of_all {w : World} {x : Addr} (xs : List Value) (h : ∀ i, i < xs.length → w.cell? (x.add i) = xs[i]?) : Rd w (some x) xs := by
 intro j v hv
 refine ⟨x, rfl, ?_⟩
 have hj : j < xs.length := (List.getElem?_eq_some_iff.1 hv).1
 rw [h j hj, hv]
theorem bytesOf_int : Tryz.prog.bytesOf 3 = 8 := by kernel_rfl
theorem bytesOf_string : Tryz.prog.bytesOf 9 = 16 := by kernel_rfl
section
variable {H : Type} {enc : TypeId × Value → H} {W : World}
theorem open_nums {fuel : Nat} {cs : List Value} {x : DataW H × List MemPlace} (h : DataW.trod enc Tryz.prog W 0 (fun _ => true) true fuel 22 cs = some x) (hs : (DataW.weights Tryz.prog 22 x.1).all (· ≤ reachBytes) = true) :
  ∃ (A : Option Addr) (n c : Nat) (xs : List Value), cs = [.slice A n c] ∧ Rd W A xs ∧ xs.length = n ∧ n ≤ 140737488355328 ∧ ∀ (j : Nat) (v : Value), xs[j]? = some v → ∃ i : Int, v = .int .i64 i ∧ -9223372036854775808 ≤ i ∧ i ≤ 9223372036854775807 := by
 rcases open_ints Tryz.underlying22 Tryz.underlying3 (by kernel_rfl) h with ⟨rfl, _⟩ | ⟨a, len, cap, zs, rfl, _, hl, hm, hz, rfl, hcell, hwz⟩
 ·exact ⟨none, 0, 0, [], rfl, Rd.nil _ _, rfl, by omega, fun j v hv => by simp at hv⟩
 ·have hz' : zs.length = cap := by simpa using hz
  have hw : cap * 8 ≤ reachBytes := by
   have hmem : ((lits .i64 (zs.take len) : List (DataW H)).length + (lits .i64 (zs.drop len) : List (DataW H)).length) * Tryz.prog.bytesOf 3 ∈ DataW.weights Tryz.prog 22 (DataW.slice (H := H) (lits .i64 (zs.take len)) (lits .i64 (zs.drop len))) := by
    unfold DataW.weights
    rw [Tryz.underlying22]
    exact List.mem_cons_self
   have h2 := List.all_eq_true.1 hs _ hmem
   have h3 : ((lits .i64 (zs.take len) : List (DataW H)).length + (lits .i64 (zs.drop len) : List (DataW H)).length) = cap := by simp [lits, ChangeShapes.strs, List.length_take, List.length_drop]; omega
   rw [h3, bytesOf_int] at h2
   exact of_decide_eq_true h2
  have hr : reachBytes = 140737488351232 := rfl
  refine ⟨some a, len, cap, (zs.take len).map (Value.int .i64), rfl, Rd.of_all _ fun i hi => ?_, by rw [List.length_map, List.length_take]; omega, by omega, fun j v hv => ?_⟩
  ·rw [List.length_map, List.length_take] at hi
   have h1 : i < zs.length := by omega
   rw [hcell i h1, List.getElem?_map, List.getElem?_take, if_pos (by omega), List.getElem?_eq_getElem h1]
   simp [List.getD, List.getElem?_eq_getElem h1]
  ·rw [List.getElem?_map] at hv
   cases hzj : (zs.take len)[j]? with
   | none => rw [hzj] at hv; cases hv
   | some z =>
    rw [hzj] at hv
    have hmem : z ∈ zs := List.mem_of_mem_take (List.mem_of_getElem? hzj)
    have hb := bounds_i64 (hwz z hmem)
    exact ⟨z, by simpa using hv.symm, hb.1, by omega⟩
theorem open_words {fuel : Nat} {cs : List Value} {x : DataW H × List MemPlace} (h : DataW.trod enc Tryz.prog W 0 (fun _ => true) true fuel 23 cs = some x) (hs : (DataW.weights Tryz.prog 23 x.1).all (· ≤ reachBytes) = true) :
  ∃ (A : Option Addr) (n c : Nat) (xs : List Value), cs = [.slice A n c] ∧ Rd W A xs ∧ xs.length = n ∧ n ≤ 140737488355328 ∧ ∀ (j : Nat) (v : Value), xs[j]? = some v → ∃ s : ByteArray, v = .string s ∧ s.size ≤ 9223372036854775807 := by
 rcases open_strings Tryz.underlying23 Tryz.underlying9 (by kernel_rfl) h with ⟨rfl, _⟩ | ⟨a, len, cap, zs, rfl, _, hl, hm, hz, rfl, hcell, hwz⟩
 ·exact ⟨none, 0, 0, [], rfl, Rd.nil _ _, rfl, by omega, fun j v hv => by simp at hv⟩
 ·have hz' : zs.length = cap := by simpa using hz
  have hw : cap * 16 ≤ reachBytes := by
   have hmem : ((ChangeShapes.strs (zs.take len) : List (DataW H)).length + (ChangeShapes.strs (zs.drop len) : List (DataW H)).length) * Tryz.prog.bytesOf 9 ∈ DataW.weights Tryz.prog 23 (DataW.slice (H := H) (ChangeShapes.strs (zs.take len)) (ChangeShapes.strs (zs.drop len))) := by
    unfold DataW.weights
    rw [Tryz.underlying23]
    exact List.mem_cons_self
   have h2 := List.all_eq_true.1 hs _ hmem
   have h3 : ((ChangeShapes.strs (zs.take len) : List (DataW H)).length + (ChangeShapes.strs (zs.drop len) : List (DataW H)).length) = cap := by simp [lits, ChangeShapes.strs, List.length_take, List.length_drop]; omega
   rw [h3, bytesOf_string] at h2
   exact of_decide_eq_true h2
  have hr : reachBytes = 140737488351232 := rfl
  refine ⟨some a, len, cap, (zs.take len).map Value.string, rfl, Rd.of_all _ fun i hi => ?_, by rw [List.length_map, List.length_take]; omega, by omega, fun j v hv => ?_⟩
  ·rw [List.length_map, List.length_take] at hi
   have h1 : i < zs.length := by omega
   rw [hcell i h1, List.getElem?_map, List.getElem?_take, if_pos (by omega), List.getElem?_eq_getElem h1]
   simp [List.getD, List.getElem?_eq_getElem h1]
  ·rw [List.getElem?_map] at hv
   cases hzj : (zs.take len)[j]? with
   | none => rw [hzj] at hv; cases hv
   | some z =>
    rw [hzj] at hv
    have hmem : z ∈ zs := List.mem_of_mem_take (List.mem_of_getElem? hzj)
    have hb := hwz z hmem
    have hM : maxLen = 9223372036854775807 := by decide
    exact ⟨z, by simpa using hv.symm, by omega⟩
end
theorem in64 {n : Int} (h : -9223372036854775808 ≤ n ∧ n ≤ 9223372036854775807) : IsInt64 n := by unfold IsInt64; omega
section
variable {H : Type} {enc : TypeId × Value → H} {W : World}
set_option maxRecDepth 100000 in
theorem open_plan_cells {fuel : Nat} {cs : List Value} {x : DataW H × List MemPlace} (h : DataW.trod enc Tryz.prog W 0 (fun _ => true) true fuel 25 cs = some x) (hs : (DataW.weights Tryz.prog 25 x.1).all (· ≤ reachBytes) = true) :
  ∃ vN vW : Value, cs = [vN, vW] ∧ PlanAt W vN vW := by
 obtain ⟨y0, y1, n, hx, hlen, h0, h1⟩ := trod_struct2 Tryz.underlying25 h
 have hC : Tryz.prog.cellsOf 25 = 2 := by kernel_rfl
 rw [hC] at hlen
 obtain ⟨c0, c1, rfl⟩ : ∃ c0 c1, cs = [c0, c1] := by
  match cs, hlen with
  | [a, b], _ => exact ⟨a, b, rfl⟩
 have hC0 : Tryz.prog.cellsOf 22 = 1 := by kernel_rfl
 have hC1 : Tryz.prog.cellsOf 23 = 1 := by kernel_rfl
 simp only [hC0, hC1] at h0 h1
 have hd' : x.1 = .agg [y0.1, y1.1] := congrArg Prod.fst hx
 have hw : ∀ k, k ∈ DataW.weights Tryz.prog 22 y0.1 ++ DataW.weights Tryz.prog 23 y1.1 → (decide (k ≤ reachBytes)) = true := fun k hk =>
  List.all_eq_true.1 hs k (by rw [hd']; simpa [DataW.weights, DataW.weightsEach, Tryz.underlying25] using hk)
 obtain ⟨A, n1, c, xs, e0, r0⟩ := open_nums h0 (List.all_eq_true.2 fun k hk => hw k (List.mem_append_left _ hk))
 obtain ⟨A', n', c', xs', e1, r1⟩ := open_words h1 (List.all_eq_true.2 fun k hk => hw k (List.mem_append_right _ hk))
 obtain rfl : c0 = .slice A n1 c := by simpa using e0
 obtain rfl : c1 = .slice A' n' c' := by simpa using e1
 exact ⟨_, _, rfl, ⟨⟨A, n1, c, xs, rfl, r0⟩, ⟨A', n', c', xs', rfl, r1⟩⟩⟩
end
/-- A command with its plan's values. -/
structure Cv where
 c : Cm
 vN : Value
 vW : Value
def Cv.row (x : Cv) : List Value := [.int .i64 x.c.kind, .int .i64 x.c.a, .int .i64 x.c.b, .int .i64 x.c.day, .int .i64 x.c.value, .string x.c.word, x.vN, x.vW]
def rowsC (l : List Cv) : List Value := l.flatMap Cv.row
theorem rowsC_get : ∀ (l : List Cv) (m j : Nat) (x : Cv), l[m]? = some x → j < 8 → (rowsC l)[m * 8 + j]? = x.row[j]?
 | [], m, j, x, h, _ => by simp at h
 | y :: l, 0, j, x, h, hj => by
  obtain rfl : y = x := by simpa using h
  unfold rowsC
  rw [List.flatMap_cons, Nat.zero_mul, Nat.zero_add, List.getElem?_append_left (by show j < 8; exact hj)]
 | y :: l, m + 1, j, x, h, hj => by
  have h8 : y.row.length = 8 := rfl
  unfold rowsC
  rw [List.flatMap_cons, List.getElem?_append_right (by rw [h8]; omega), h8, show (m + 1) * 8 + j - 8 = m * 8 + j by omega]
  exact rowsC_get l m j x (by simpa using h) hj
theorem rowsC_length (l : List Cv) : (rowsC l).length = l.length * 8 := by
 induction l with
 | nil => rfl
 | cons x l ih => unfold rowsC at ih ⊢; rw [List.flatMap_cons, List.length_append, ih, List.length_cons]; show 8 + _ = _; omega
theorem list_choice {α : Type} {P : Nat → α → Prop} : ∀ {n : Nat}, (∀ i, i < n → ∃ y, P i y) → ∃ l : List α, l.length = n ∧ ∀ i y, l[i]? = some y → P i y
 | 0, _ => ⟨[], rfl, fun i y h => by simp at h⟩
 | n + 1, h => by
  obtain ⟨l, hl, hp⟩ := list_choice (n := n) (fun i hi => h i (by omega))
  obtain ⟨z, hz⟩ := h n (by omega)
  refine ⟨l ++ [z], by simp [hl], fun i y hy => ?_⟩
  by_cases hi : i < n
  ·rw [List.getElem?_append_left (by omega)] at hy
   exact hp i y hy
  ·rw [List.getElem?_append_right (by omega), hl] at hy
   have : i = n := by
    have := (List.getElem?_eq_some_iff.1 hy).1
    simp at this
    omega
   subst this
   obtain rfl : z = y := by simpa using hy
   exact hz
section
variable {H : Type} {enc : TypeId × Value → H} {W : World}
set_option maxRecDepth 100000 in
theorem open_cmd_cells {fuel : Nat} {cs : List Value} {x : DataW H × List MemPlace} (h : DataW.trod enc Tryz.prog W 0 (fun _ => true) true fuel 27 cs = some x) (hs : (DataW.weights Tryz.prog 27 x.1).all (· ≤ reachBytes) = true) :
  ∃ y : Cv, cs = y.row ∧ y.c.ok ∧ PlanAt W y.vN y.vW := by
 obtain ⟨xs, n, _, hx, hl, hlen, hfs⟩ := DataW.trod_struct Tryz.underlying27 h
 have hC : Tryz.prog.cellsOf 27 = 8 := by kernel_rfl
 rw [hC] at hl
 obtain ⟨c0, c1, c2, c3, c4, c5, c6, c7, rfl⟩ : ∃ c0 c1 c2 c3 c4 c5 c6 c7, cs = [c0, c1, c2, c3, c4, c5, c6, c7] := by
  match cs, hl with
  | [a, b, c, d, e, f, g, h], _ => exact ⟨a, b, c, d, e, f, g, h, rfl⟩
 obtain ⟨y0, y1, y2, y3, y4, y5, y6, rfl⟩ : ∃ y0 y1 y2 y3 y4 y5 y6, xs = [y0, y1, y2, y3, y4, y5, y6] := by
  match xs, hlen with
  | [a, b, c, d, e, f, g], _ => exact ⟨a, b, c, d, e, f, g, rfl⟩
 have hCi : Tryz.prog.cellsOf 3 = 1 := by kernel_rfl
 have hCs : Tryz.prog.cellsOf 9 = 1 := by kernel_rfl
 have hCp : Tryz.prog.cellsOf 25 = 2 := by kernel_rfl
 have h0 : DataW.trod enc Tryz.prog W 0 (fun _ => true) true n 3 (([c0, c1, c2, c3, c4, c5, c6, c7].drop 0).take (Tryz.prog.cellsOf 3)) = some y0 := hfs 0 _ rfl
 have h1 : DataW.trod enc Tryz.prog W 0 (fun _ => true) true n 3 (([c0, c1, c2, c3, c4, c5, c6, c7].drop 1).take (Tryz.prog.cellsOf 3)) = some y1 := hfs 1 _ rfl
 have h2 : DataW.trod enc Tryz.prog W 0 (fun _ => true) true n 3 (([c0, c1, c2, c3, c4, c5, c6, c7].drop 2).take (Tryz.prog.cellsOf 3)) = some y2 := hfs 2 _ rfl
 have h3 : DataW.trod enc Tryz.prog W 0 (fun _ => true) true n 3 (([c0, c1, c2, c3, c4, c5, c6, c7].drop 3).take (Tryz.prog.cellsOf 3)) = some y3 := hfs 3 _ rfl
 have h4 : DataW.trod enc Tryz.prog W 0 (fun _ => true) true n 3 (([c0, c1, c2, c3, c4, c5, c6, c7].drop 4).take (Tryz.prog.cellsOf 3)) = some y4 := hfs 4 _ rfl
 have h5 : DataW.trod enc Tryz.prog W 0 (fun _ => true) true n 9 (([c0, c1, c2, c3, c4, c5, c6, c7].drop 5).take (Tryz.prog.cellsOf 9)) = some y5 := hfs 5 _ rfl
 have h6 : DataW.trod enc Tryz.prog W 0 (fun _ => true) true n 25 (([c0, c1, c2, c3, c4, c5, c6, c7].drop 6).take (Tryz.prog.cellsOf 25)) = some y6 := hfs 6 _ rfl
 rw [hCi] at h0 h1 h2 h3 h4
 rw [hCs] at h5
 rw [hCp] at h6
 simp only [List.drop_zero, List.drop_succ_cons, List.take_succ_cons, List.take_zero] at h0 h1 h2 h3 h4 h5 h6
 obtain ⟨a0, e0, -, w0⟩ := DataW.trod_int Tryz.underlying3 h0
 obtain ⟨a1, e1, -, w1⟩ := DataW.trod_int Tryz.underlying3 h1
 obtain ⟨a2, e2, -, w2⟩ := DataW.trod_int Tryz.underlying3 h2
 obtain ⟨a3, e3, -, w3⟩ := DataW.trod_int Tryz.underlying3 h3
 obtain ⟨a4, e4, -, w4⟩ := DataW.trod_int Tryz.underlying3 h4
 obtain ⟨s5, e5, -, w5⟩ := DataW.trod_string Tryz.underlying9 h5
 have hd' : x.1 = .agg [y0.1, y1.1, y2.1, y3.1, y4.1, y5.1, y6.1] := congrArg Prod.fst hx
 have hw : ∀ k, k ∈ DataW.weights Tryz.prog 25 y6.1 → (decide (k ≤ reachBytes)) = true := fun k hk =>
  List.all_eq_true.1 hs k (by rw [hd']; simp [DataW.weights, DataW.weightsEach, Tryz.underlying27]; simp [hk])
 obtain ⟨vN, vW, e6, hp⟩ := open_plan_cells h6 (List.all_eq_true.2 fun k hk => hw k hk)
 simp at e0 e1 e2 e3 e4 e5 e6
 obtain ⟨rfl, rfl⟩ := e6
 subst e0 e1 e2 e3 e4 e5
 have b0 := bounds_i64 w0; have b1 := bounds_i64 w1; have b2 := bounds_i64 w2; have b3 := bounds_i64 w3; have b4 := bounds_i64 w4
 have hM : maxLen = 9223372036854775807 := by decide
 exact ⟨⟨⟨a0, a1, a2, a3, a4, s5⟩, _, _⟩, rfl, ⟨in64 b0, in64 b1, in64 b2, in64 b3, in64 b4, by show s5.size ≤ _; omega⟩, hp⟩
theorem weights_mem_all {P : Program} {e : TypeId} {k : Nat} : ∀ {l : List (DataW H)} {y : DataW H}, y ∈ l → k ∈ DataW.weights P e y → k ∈ DataW.weightsAll P e l
 | z :: l, y, hy, hk => by
  unfold DataW.weightsAll
  rcases List.mem_cons.1 hy with rfl | h
  ·exact List.mem_append_left _ hk
  ·exact List.mem_append_right _ (weights_mem_all h hk)
theorem bytesOf_cmd : Tryz.prog.bytesOf 27 = 104 := by kernel_rfl
set_option maxRecDepth 100000 in
theorem open_cmds {fuel : Nat} {cs : List Value} {x : DataW H × List MemPlace} (h : DataW.trod enc Tryz.prog W 0 (fun _ => true) true fuel 52 cs = some x) (hs : (DataW.weights Tryz.prog 52 x.1).all (· ≤ reachBytes) = true) :
  ∃ (A : Option Addr) (n c : Nat) (ms : List Cv), cs = [.slice A n c] ∧ ms.length = n ∧ n ≤ 140737488355328 ∧ (∀ m ∈ ms, m.c.ok ∧ PlanAt W m.vN m.vW) ∧ Rd W A (rowsC ms) := by
 rcases DataW.trod_slice Tryz.underlying52 h with ⟨rfl, _⟩ | ⟨a, len, cap, elems, rest, n, _, rfl, hx, _, hlc, _, hel, hget, _, _⟩
 ·exact ⟨none, 0, 0, [], rfl, rfl, by omega, fun m hm => (by cases hm), Rd.nil _ _⟩
 ·have hC : Tryz.prog.cellsOf 27 = 8 := by kernel_rfl
  rw [hC] at hget
  have hx1 : x.1 = .slice (elems.map (·.1)) (rest.map (·.1)) := congrArg Prod.fst hx
  have hel2 : ∀ y ∈ elems, (DataW.weights Tryz.prog 27 y.1).all (· ≤ reachBytes) = true := fun y hy => by
   refine List.all_eq_true.2 fun k hk => List.all_eq_true.1 hs k ?_
   rw [hx1]
   unfold DataW.weights
   rw [Tryz.underlying52]
   exact List.mem_cons_of_mem _ (List.mem_append_left _ (weights_mem_all (List.mem_map_of_mem hy) hk))
  have hn : len ≤ 140737488355328 := by
   have hm : ((elems.map (·.1)).length + (rest.map (·.1)).length) * Tryz.prog.bytesOf 27 ∈ DataW.weights Tryz.prog 52 x.1 := by
    rw [hx1]
    unfold DataW.weights
    rw [Tryz.underlying52]
    exact List.mem_cons_self
   have h2 := of_decide_eq_true (List.all_eq_true.1 hs _ hm)
   rw [bytesOf_cmd, List.length_map, hel] at h2
   have hr : reachBytes = 140737488351232 := rfl
   omega
  have hall : ∀ i, i < len → ∃ y : Cv, (∀ j v, y.row[j]? = some v → W.cell? ((a.add (i * 8)).add j) = some v) ∧ y.c.ok ∧ PlanAt W y.vN y.vW := fun i hi => by
   have hg := hget i hi
   rw [List.getElem?_eq_getElem (by omega)] at hg
   obtain ⟨cs, hcs, htr⟩ := Option.bind_eq_some_iff.1 hg
   obtain ⟨y, rfl, hok, hp⟩ := open_cmd_cells htr (hel2 _ (List.getElem_mem _))
   obtain ⟨_, h8, hc⟩ := World.cells?_some hcs
   refine ⟨y, fun j v hv => ?_, hok, hp⟩
   have hj : j < 8 := by
    have := (List.getElem?_eq_some_iff.1 hv).1
    exact this
   rw [hc j hj]
   exact hv
  obtain ⟨ms, hml, hm⟩ := list_choice hall
  refine ⟨some a, len, cap, ms, rfl, hml, hn, fun m hmm => ?_, fun j v hv => ⟨a, rfl, ?_⟩⟩
  ·obtain ⟨i, hi, rfl⟩ := List.getElem_of_mem hmm
   exact (hm i _ (List.getElem?_eq_getElem hi)).2
  ·have hjl := (List.getElem?_eq_some_iff.1 hv).1
   rw [rowsC_length, hml] at hjl
   have h1 : j / 8 < ms.length := by omega
   have h2 := rowsC_get ms (j / 8) (j % 8) ms[j / 8] (List.getElem?_eq_getElem h1) (by omega)
   rw [show j / 8 * 8 + j % 8 = j by omega, hv] at h2
   have h3 := (hm (j / 8) _ (List.getElem?_eq_getElem h1)).1 (j % 8) v h2.symm
   rw [addr_add_add, show j / 8 * 8 + j % 8 = j by omega] at h3
   exact h3
end
def bools (l : List Bool) : List Value := l.map (.bool ·)
theorem bools_get (l : List Bool) (m : Nat) (b : Bool) (h : l[m]? = some b) : (bools l)[m]? = some (.bool b) := by unfold bools; rw [List.getElem?_map, h]; rfl
theorem bytesOf_bool : Tryz.prog.bytesOf 4 = 1 := by kernel_rfl
section
variable {H : Type} {enc : TypeId × Value → H} {W : World}
set_option maxRecDepth 100000 in
theorem open_bools {base : Nat} {v : Value} {d : DataW H} {ps : List MemPlace} {ts : List TypeId} {ds : List (DataW H)} {j : Nat} (hval : Value.okWide Tryz.prog W .any base 53 v) (h : DataW.Trod enc Tryz.prog W 0 (fun _ => true) true 53 v d ps)
  (hsz : (DataW.weightsEach Tryz.prog ts ds).all (· ≤ reachBytes) = true) (ht : ts[j]? = some 53) (hd : ds[j]? = some d) :
  ∃ (A : Option Addr) (n c : Nat) (bs : List Bool), v = .slice A n c ∧ bs.length = n ∧ n ≤ 140737488355328 ∧ Rd W A (bools bs) := by
 obtain ⟨A, len, cap, rfl⟩ := okWide_slice Tryz.underlying53 hval
 obtain ⟨fuel, hf⟩ := h
 have hs : (DataW.weights Tryz.prog 53 d).all (· ≤ reachBytes) = true := List.all_eq_true.2 fun k hk => List.all_eq_true.1 hsz k (DataW.weights_mem_each ht hd k hk)
 rcases DataW.trod_slice Tryz.underlying53 hf with ⟨e, _⟩ | ⟨a, len', cap', elems, rest, n, _, e, hx, _, hlc, _, hel, hget, _, _⟩
 ·simp [Value.cells] at e
  obtain ⟨rfl, rfl, rfl⟩ := e
  exact ⟨none, 0, 0, [], rfl, rfl, by omega, Rd.nil _ _⟩
 ·simp [Value.cells] at e
  obtain ⟨rfl, rfl, rfl⟩ := e
  have hC : Tryz.prog.cellsOf 4 = 1 := by kernel_rfl
  rw [hC] at hget
  have hx1 : d = .slice (elems.map (·.1)) (rest.map (·.1)) := congrArg Prod.fst hx
  have hn : len ≤ 140737488355328 := by
   have hm : ((elems.map (·.1)).length + (rest.map (·.1)).length) * Tryz.prog.bytesOf 4 ∈ DataW.weights Tryz.prog 53 d := by
    rw [hx1]
    unfold DataW.weights
    rw [Tryz.underlying53]
    exact List.mem_cons_self
   have h2 := of_decide_eq_true (List.all_eq_true.1 hs _ hm)
   rw [bytesOf_bool, List.length_map, hel] at h2
   have hr : reachBytes = 140737488351232 := rfl
   omega
  have hall : ∀ i, i < len → ∃ y : Bool, W.cell? (a.add i) = some (.bool y) := fun i hi => by
   have hg := hget i hi
   rw [List.getElem?_eq_getElem (by omega)] at hg
   obtain ⟨cs, hcs, htr⟩ := Option.bind_eq_some_iff.1 hg
   obtain ⟨y, rfl, -⟩ := DataW.trod_bool Tryz.underlying4 htr
   obtain ⟨_, h8, hc⟩ := World.cells?_some hcs
   have := hc 0 (by omega)
   rw [addr_add_add, Nat.add_zero, Nat.mul_one] at this
   exact ⟨y, this⟩
  obtain ⟨bs, hbl, hb⟩ := list_choice hall
  refine ⟨some a, len, cap, bs, rfl, hbl, hn, fun j v hv => ⟨a, rfl, ?_⟩⟩
  unfold bools at hv
  rw [List.getElem?_map] at hv
  cases hbj : bs[j]? with
  | none => rw [hbj] at hv; cases hv
  | some b =>
   rw [hbj] at hv
   obtain rfl : Value.bool b = v := by simpa using hv
   exact hb j b hbj
end
section
variable {H : Type} {enc : TypeId × Value → H} {W : World}
set_option maxRecDepth 100000 in
theorem open_nums_arg {base : Nat} {v : Value} {d : DataW H} {ps : List MemPlace} {ts : List TypeId} {ds : List (DataW H)} {j : Nat} (hval : Value.okWide Tryz.prog W .any base 22 v) (h : DataW.Trod enc Tryz.prog W 0 (fun _ => true) true 22 v d ps)
  (hsz : (DataW.weightsEach Tryz.prog ts ds).all (· ≤ reachBytes) = true) (ht : ts[j]? = some 22) (hd : ds[j]? = some d) :
  ∃ (A : Option Addr) (n c : Nat) (xs : List Value), v = .slice A n c ∧ xs.length = n ∧ n ≤ 140737488355328 ∧ Rd W A xs ∧ ∀ (j : Nat) (v : Value), xs[j]? = some v → ∃ i : Int, v = .int .i64 i ∧ -9223372036854775808 ≤ i ∧ i ≤ 9223372036854775807 := by
 obtain ⟨A, len, cap, rfl⟩ := okWide_slice Tryz.underlying22 hval
 obtain ⟨fuel, hf⟩ := h
 obtain ⟨A', n', c', xs, e, h1, h2, h3, h4⟩ := open_nums hf (List.all_eq_true.2 fun k hk => List.all_eq_true.1 hsz k (DataW.weights_mem_each ht hd k hk))
 simp [Value.cells] at e
 obtain ⟨rfl, rfl, rfl⟩ := e
 exact ⟨_, _, _, xs, rfl, h2, h3, h1, h4⟩
end
section
variable {H : Type} {enc : TypeId × Value → H} {W : World}
set_option maxRecDepth 100000 in
theorem open_cmds_arg {base : Nat} {v : Value} {d : DataW H} {ps : List MemPlace} {ts : List TypeId} {ds : List (DataW H)} {j : Nat} (hval : Value.okWide Tryz.prog W .any base 52 v) (h : DataW.Trod enc Tryz.prog W 0 (fun _ => true) true 52 v d ps)
  (hsz : (DataW.weightsEach Tryz.prog ts ds).all (· ≤ reachBytes) = true) (ht : ts[j]? = some 52) (hd : ds[j]? = some d) :
  ∃ (A : Option Addr) (n c : Nat) (ms : List Cv), v = .slice A n c ∧ ms.length = n ∧ n ≤ 140737488355328 ∧ (∀ m ∈ ms, m.c.ok ∧ PlanAt W m.vN m.vW) ∧ Rd W A (rowsC ms) := by
 obtain ⟨A, len, cap, rfl⟩ := okWide_slice Tryz.underlying52 hval
 obtain ⟨fuel, hf⟩ := h
 obtain ⟨A', n', c', ms, e, r⟩ := open_cmds hf (List.all_eq_true.2 fun k hk => List.all_eq_true.1 hsz k (DataW.weights_mem_each ht hd k hk))
 simp [Value.cells] at e
 obtain ⟨rfl, rfl, rfl⟩ := e
 exact ⟨_, _, _, ms, rfl, r⟩
end
end Go.Proofs.YtapbkomicihkkaaGreatDoor
