/- A command's event, the first kinds. -/
import Derived.Test.YtapbkomicihkkaaDoorDo0
import Derived.Test.YtapbkomicihkkaaDoorSets
import Derived.Test.YtapbkomicihkkaaDoorPlan5
import Derived.Deep.RegionWith
namespace Go.Proofs.YtapbkomicihkkaaDoor
open Go.RowKit
set_option linter.unusedVariables false
set_option linter.unusedSimpArgs false

theorem do_blocks (w : World) (cs : Array Value) (t : TypeId) (zs : Array Value) (u : TypeId) :
    Blk (((w.alloc (.cells cs t)).alloc (.cells zs u)).alloc (.cells zs u)) w.heap.size cs t ∧ Blk (((w.alloc (.cells cs t)).alloc (.cells zs u)).alloc (.cells zs u)) (w.heap.size + 1) zs u ∧ Blk (((w.alloc (.cells cs t)).alloc (.cells zs u)).alloc (.cells zs u)) (w.heap.size + 1 + 1) zs u ∧ (((w.alloc (.cells cs t)).alloc (.cells zs u)).alloc (.cells zs u)).heap.size = w.heap.size + 3 := by
  have s1 := alloc_size w (.cells cs t)
  have s2 := alloc_size (w.alloc (.cells cs t)) (.cells zs u)
  have s3 := alloc_size ((w.alloc (.cells cs t)).alloc (.cells zs u)) (.cells zs u)
  exact ⟨((Blk.new w cs t).below (bl_alloc (bl_refl _) _)).below (bl_alloc (bl_refl _) _), (Blk_new (w.alloc (.cells cs t)) zs u (w.heap.size + 1) (by omega)).below (bl_alloc (bl_refl _) _), Blk_new _ zs u (w.heap.size + 1 + 1) (by omega), by omega⟩
theorem Blk.eight {w : World} {r : Nat} {a0 a1 a2 a3 a4 a5 a6 a7 : Value} {t : TypeId} (h : Blk w r #[a0, a1, a2, a3, a4, a5, a6, a7] t) : w.cell? ⟨r, 0, none⟩ = some a0 ∧ w.cell? ⟨r, 1, none⟩ = some a1 ∧ w.cell? ⟨r, 2, none⟩ = some a2 ∧ w.cell? ⟨r, 3, none⟩ = some a3 ∧ w.cell? ⟨r, 4, none⟩ = some a4 ∧ w.cell? ⟨r, 5, none⟩ = some a5 ∧ w.cell? ⟨r, 6, none⟩ = some a6 ∧ w.cell? ⟨r, 7, none⟩ = some a7 :=
  ⟨h.cell 0, h.cell 1, h.cell 2, h.cell 3, h.cell 4, h.cell 5, h.cell 6, h.cell 7⟩
theorem Blk.eleven {w : World} {r : Nat} {a0 a1 a2 a3 a4 a5 a6 a7 a8 a9 a10 : Value} {t : TypeId} (h : Blk w r #[a0, a1, a2, a3, a4, a5, a6, a7, a8, a9, a10] t) : w.cell? ⟨r, 0, none⟩ = some a0 ∧ w.cell? ⟨r, 1, none⟩ = some a1 ∧ w.cell? ⟨r, 2, none⟩ = some a2 ∧ w.cell? ⟨r, 3, none⟩ = some a3 ∧ w.cell? ⟨r, 4, none⟩ = some a4 ∧ w.cell? ⟨r, 5, none⟩ = some a5 ∧ w.cell? ⟨r, 6, none⟩ = some a6 ∧ w.cell? ⟨r, 7, none⟩ = some a7 ∧ w.cell? ⟨r, 8, none⟩ = some a8 ∧ w.cell? ⟨r, 9, none⟩ = some a9 ∧ w.cell? ⟨r, 10, none⟩ = some a10 :=
  ⟨h.cell 0, h.cell 1, h.cell 2, h.cell 3, h.cell 4, h.cell 5, h.cell 6, h.cell 7, h.cell 8, h.cell 9, h.cell 10⟩
theorem Blk.set11 {w : World} {r : Nat} {a0 a1 a2 a3 a4 a5 a6 a7 a8 a9 a10 : Value} {t : TypeId} (h : Blk w r #[a0, a1, a2, a3, a4, a5, a6, a7, a8, a9, a10] t) (v0 v1 v2 v3 v4 v5 v6 v7 v8 v9 v10 : Value) : Blk (((((((((((w.setCell ⟨r, 0, none⟩ v0).setCell ⟨r, 1, none⟩ v1).setCell ⟨r, 2, none⟩ v2).setCell ⟨r, 3, none⟩ v3).setCell ⟨r, 4, none⟩ v4).setCell ⟨r, 5, none⟩ v5).setCell ⟨r, 6, none⟩ v6).setCell ⟨r, 7, none⟩ v7).setCell ⟨r, 8, none⟩ v8).setCell ⟨r, 9, none⟩ v9).setCell ⟨r, 10, none⟩ v10) r #[v0, v1, v2, v3, v4, v5, v6, v7, v8, v9, v10] t := by
  have h' := (((((((((((h.set 0 v0).set 1 v1).set 2 v2).set 3 v3).set 4 v4).set 5 v5).set 6 v6).set 7 v7).set 8 v8).set 9 v9).set 10 v10)
  simpa only [List.setIfInBounds_toArray, List.set_cons_zero, List.set_cons_succ] using h'
theorem gb_set11 (w : World) (r : Nat) (v0 v1 v2 v3 v4 v5 v6 v7 v8 v9 v10 : Value) : w.grownBy (((((((((((w.setCell ⟨r, 0, none⟩ v0).setCell ⟨r, 1, none⟩ v1).setCell ⟨r, 2, none⟩ v2).setCell ⟨r, 3, none⟩ v3).setCell ⟨r, 4, none⟩ v4).setCell ⟨r, 5, none⟩ v5).setCell ⟨r, 6, none⟩ v6).setCell ⟨r, 7, none⟩ v7).setCell ⟨r, 8, none⟩ v8).setCell ⟨r, 9, none⟩ v9).setCell ⟨r, 10, none⟩ v10) (some r) := gb_sets r [(0, v0), (1, v1), (2, v2), (3, v3), (4, v4), (5, v5), (6, v6), (7, v7), (8, v8), (9, v9), (10, v10)] w
theorem do_post {w W : World} {ev : Ev} {vk vd vv : Int} {si sn sl sc : ByteArray} {c0 c1 c2 c3 : Value} (hB : Below w.heap.size w W) (hT : TrAt (w.heap.size + 1 + 1) W ev.term.tr (.agg #[c0, c1, c2, c3])) (hS : w.heap.size + 1 + 1 < W.heap.size) (h : ev.fit ∧ vk = ev.kind ∧ si = ev.id ∧ sn = ev.name ∧ sl = ev.label ∧ sc = ev.cur ∧ vd = ev.day ∧ vv = ev.value) :
    ∃ (v : Ev) (x : Value), Ending.returned (.agg #[.int .i64 vk, .string si, .string sn, .string sl, .string sc, .int .i64 vd, .int .i64 vv, c0, c1, c2, c3]) = .returned x ∧ EvAt w.heap.size (((((((((((W.setCell ⟨w.heap.size + 1, 0, none⟩ (.int .i64 vk)).setCell ⟨w.heap.size + 1, 1, none⟩ (.string si)).setCell ⟨w.heap.size + 1, 2, none⟩ (.string sn)).setCell ⟨w.heap.size + 1, 3, none⟩ (.string sl)).setCell ⟨w.heap.size + 1, 4, none⟩ (.string sc)).setCell ⟨w.heap.size + 1, 5, none⟩ (.int .i64 vd)).setCell ⟨w.heap.size + 1, 6, none⟩ (.int .i64 vv)).setCell ⟨w.heap.size + 1, 7, none⟩ c0).setCell ⟨w.heap.size + 1, 8, none⟩ c1).setCell ⟨w.heap.size + 1, 9, none⟩ c2).setCell ⟨w.heap.size + 1, 10, none⟩ c3) v x ∧ v.fit ∧ Below w.heap.size w (((((((((((W.setCell ⟨w.heap.size + 1, 0, none⟩ (.int .i64 vk)).setCell ⟨w.heap.size + 1, 1, none⟩ (.string si)).setCell ⟨w.heap.size + 1, 2, none⟩ (.string sn)).setCell ⟨w.heap.size + 1, 3, none⟩ (.string sl)).setCell ⟨w.heap.size + 1, 4, none⟩ (.string sc)).setCell ⟨w.heap.size + 1, 5, none⟩ (.int .i64 vd)).setCell ⟨w.heap.size + 1, 6, none⟩ (.int .i64 vv)).setCell ⟨w.heap.size + 1, 7, none⟩ c0).setCell ⟨w.heap.size + 1, 8, none⟩ c1).setCell ⟨w.heap.size + 1, 9, none⟩ c2).setCell ⟨w.heap.size + 1, 10, none⟩ c3) := by
  obtain ⟨hf, rfl, rfl, rfl, rfl, rfl, rfl, rfl⟩ := h
  exact ⟨ev, _, rfl, ⟨c0, c1, c2, c3, rfl, (hT.grown (gb_set11 _ (w.heap.size + 1) _ _ _ _ _ _ _ _ _ _ _) (by omega)).mono (by omega)⟩, hf, bl_grown hB (gb_set11 _ (w.heap.size + 1) _ _ _ _ _ _ _ _ _ _ _) (by omega)⟩
def eS : ByteArray := ⟨#[]⟩
def passX : Ev := ⟨1, eS, eS, eS, eS, 0, 0, .odd .nilIface⟩
theorem passX_fit : passX.fit := ⟨by decide, by decide, by decide, by decide, by decide, by unfold IsInt64; decide, by unfold IsInt64; decide, .inl rfl⟩
end Go.Proofs.YtapbkomicihkkaaDoor
