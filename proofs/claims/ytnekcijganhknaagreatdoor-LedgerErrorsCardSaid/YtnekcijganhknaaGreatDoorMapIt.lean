/- Ranging over a map, wherever its iterator lies. -/
import Derived.Test.YtnekcijganhknaaGreatDoorRd
import Derived.Laws.IdiomRangeMap
namespace Go.Proofs.YtnekcijganhknaaGreatDoor
open Go.RowKit
set_option linter.unusedVariables false
set_option linter.unusedSimpArgs false

/-- What one step of an iterator leaves: its block alone has turned, but for draws. -/
structure Stepped (r : Nat) (o : Obj) (w w1 : World) : Prop where
  os : w1.os = w.os
  tape : w1.tape = w.tape
  output : w1.output = w.output
  heap : w1.heap = w.heap.setIfInBounds r o
theorem Stepped.size {r : Nat} {o : Obj} {w w1 : World} (h : Stepped r o w w1) : w1.heap.size = w.heap.size := by rw [h.heap]; simp
theorem Stepped.at_ {r : Nat} {o : Obj} {w w1 : World} (h : Stepped r o w w1) (hr : r < w.heap.size) : w1.heap[r]? = some o := by rw [h.heap]; simp [hr]
theorem Stepped.far {r : Nat} {o : Obj} {w w1 : World} (h : Stepped r o w w1) {k : Nat} (hk : k ≠ r) : w1.heap[k]? = w.heap[k]? := by
  rw [h.heap, Array.getElem?_setIfInBounds_ne (Ne.symm hk)]
theorem Stepped.below {B r : Nat} {o : Obj} {w0 w w1 : World} (h : Stepped r o w w1) (hB : B ≤ r) (k : Below B w0 w) : Below B w0 w1 :=
  k.trans ⟨h.os, h.tape, h.output, Nat.le_of_eq h.size.symm, fun j hj => h.far (by omega)⟩
theorem Stepped.cell {r : Nat} {o : Obj} {w w1 : World} (h : Stepped r o w w1) {a : Addr} (ha : a.block ≠ r) : w1.cell? a = w.cell? a := by
  unfold World.cell?; rw [h.far ha]
theorem next_map_at {P : Program} (w : World) (ty : TypeId) (r bm since c0 : Nat) (seen : Array Nat) (es : Array MapEntry) (clock : Nat) (hr : w.heap[r]? = some (.mapIter (some bm) since seen c0)) (hb : w.heap[bm]? = some (.map es clock)) (hold : ∀ x ∈ es.toList, x.born < since) (hsc : since ≤ c0) :
    ((leftOf es seen).size = 0 ∧ (Instr.next (.pointer (some ⟨r, 0, none⟩)) false ty).run P w = .ok (.tuple #[.bool false]) w) ∨
    ∃ e ∈ (leftOf es seen).toList, ∃ w1 : World, Stepped r (.mapIter (some bm) since (seen.push e.born) clock) w w1 ∧ (Instr.next (.pointer (some ⟨r, 0, none⟩)) false ty).run P w = .ok (.tuple #[.bool true, e.key, e.val]) w1 := by
  simp only [Instr.next, getObj, Sem.run_bind, Sem.run, hr, hb, Result.andThen, next_test_false seen es since c0 hold hsc, Bool.false_eq_true, if_false]
  unfold leftOf
  have hmem : ∀ x ∈ (Array.filter (fun e => !seen.contains e.born) es).toList, x.born < since := fun x hx => hold x (by simp at hx ⊢; exact hx.1)
  generalize Array.filter (fun e => !seen.contains e.born) es = L at hmem ⊢
  have e1 : L.filter (fun x => decide (x.born < since)) = L := Array.filter_eq_self.2 (fun x hx => by simpa using hmem x (by simpa using hx))
  have e2 : L.filter (fun x => decide (x.born ≥ since)) = #[] := by
    rw [Array.filter_eq_empty_iff]
    intro x hx
    have := hmem x (by simpa using hx)
    simp
    omega
  simp only [e1, e2, Array.append_empty]
  by_cases h0 : L.size = 0
  · left
    have : L = #[] := Array.eq_empty_of_size_eq_zero h0
    subst this
    refine ⟨rfl, ?_⟩
    simp [choose, Sem.run, Question.forced]
  · right
    have hne : L.isEmpty = false := by simp [Array.isEmpty, h0]
    simp only [hne, Bool.false_eq_true, if_false, Array.empty_append, Array.size_map]
    have hch : ∃ (j : Nat) (w1 : World), j < L.size ∧ w1.heap = w.heap ∧ w1.os = w.os ∧ w1.tape = w.tape ∧ w1.output = w.output ∧ (choose (Question.mapNext L.size)).run P w = .ok j w1 := by
      by_cases hf : L.size ≤ 1
      · exact ⟨0, w, by omega, rfl, rfl, rfl, rfl, by simp [choose, Sem.run, Question.forced, hf]⟩
      · exact ⟨_, w.drew, Nat.mod_lt _ (by omega), rfl, rfl, rfl, rfl, by
          simp only [choose, Sem.run, Question.forced, decide_eq_true_eq, hf, if_false, Question.cut]
          rfl⟩
    obtain ⟨j, w1, hj, hh, ho, ht, hu, hrun⟩ := hch
    refine ⟨L[j], by simp, { w1 with heap := w1.heap.setIfInBounds r (.mapIter (some bm) since (seen.push L[j].born) clock) }, ⟨ho, ht, hu, by rw [hh]⟩, ?_⟩
    have hr1 : w1.heap[r]? = some (.mapIter (some bm) since seen c0) := by rw [hh]; exact hr
    simp only [hrun, Array.getElem?_map, Array.getElem?_eq_getElem hj, Option.map_some, Sem.run_bind, setObj, Sem.run, hr1, Result.andThen]
    rfl
theorem entry_map_at {P : Program} (w : World) (r bm since clock : Nat) (seen : Array Nat) (es : Array MapEntry) (e : MapEntry) (hr : w.heap[r]? = some (.mapIter (some bm) since (seen.push e.born) clock)) (hb : w.heap[bm]? = some (.map es clock)) (he : e ∈ es.toList) (hn : (es.toList.map (·.born)).Nodup) :
    (Instr.entry (.pointer (some ⟨r, 0, none⟩))).run P w = .ok (.tuple #[e.key, e.val]) w := by
  have hf : es.find? (·.born == e.born) = some e := by rw [← Array.find?_toList]; exact find_born e es.toList hn he
  simp only [Instr.entry, getObj, Sem.run_bind, Sem.run, hr, hb, Result.andThen, Array.back?_push, bne_self_eq_false, Bool.false_eq_true, if_false, hf]
  rfl
/-- How many are left for the iterator in block r. -/
def leftN (es : Array MapEntry) (r : Nat) (w : World) : Nat := (leftOf es (w.iterSeen r)).size
theorem leftN_at {es : Array MapEntry} {r : Nat} {w : World} {m : Option Nat} {b c : Nat} {s : Array Nat} (h : w.heap[r]? = some (.mapIter m b s c)) : leftN es r w = (leftOf es s).size := by
  unfold leftN World.iterSeen; rw [h]
theorem seen_all {es : Array MapEntry} {seen : Array Nat} (h : (leftOf es seen).size = 0) : ∀ x ∈ es.toList, seen.contains x.born = true := all_seen es seen h
theorem push_set (h : Array Obj) (x y : Obj) : (h.push x).setIfInBounds h.size y = h.push y := by
  apply Array.toList_inj.1
  simp
theorem heap_alloc_last (w : World) (o : Obj) : (w.alloc o).heap[w.heap.size]? = some o := by
  show (w.heap.push o)[w.heap.size]? = _
  simp
/-- A store under a new key into the map that was made last. -/
theorem ins_alloc {P : Program} (w : World) (M kt et : TypeId) (hM : P.underlying M = some (.map kt et)) (hk : P.underlying kt = some .string) (es : Array MapEntry) (clock : Nat) (key : ByteArray) (v : Value)
    (hf : Instr.findNow .string (.string key) es.toList 0 = some none) :
    (Instr.mapUpdate M (.map (some w.heap.size)) (.string key) v).run P (w.alloc (.map es clock)) = .ok () (w.alloc (.map (es.push ⟨.string key, v, clock⟩) (clock + 1))) := by
  have hck0 : ∀ (n : Nat), (Instr.checkKey false (n + 1) kt (.string key)).run P (w.alloc (.map es clock)) = .ok () (w.alloc (.map es clock)) := by
    intro n
    unfold Instr.checkKey
    simp only [Sem.run_bind, run_underlying hk, Result.andThen]
    rfl
  have hck := hck0 9999
  have hfk := MapKept.run_findKey (w := w.alloc (.map es clock)) hk hf
  simp only [Instr.mapUpdate, getObj, setObj, Sem.run_bind, run_underlying hM, Sem.run, heap_alloc_last, Result.andThen, hck, hfk]
  show Result.ok () ({ w.alloc (.map es clock) with heap := (w.heap.push (.map es clock)).setIfInBounds w.heap.size _ } : World) = _
  rw [push_set]
  rfl
end Go.Proofs.YtnekcijganhknaaGreatDoor
