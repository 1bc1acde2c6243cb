/- A chain in memory; what tells of it. -/
import Derived.Test.YtapbkomicihkkaaDoorChn1
namespace Go.Proofs.YtapbkomicihkkaaDoor
open Go.RowKit
set_option linter.unusedVariables false
set_option linter.unusedSimpArgs false

def zeroEn : Value := .agg #[.int .i64 0, .string ⟨#[]⟩, .string ⟨#[]⟩, .string ⟨#[]⟩, .string ⟨#[]⟩, .int .i64 0, .int .i64 0, .nilIface, .bool false]
theorem info_en : (Tryd.prog.info? 86).map (fun i => (i.zero, i.size, i.bytes)) = some (some zeroEn, 9, 112) := by kernel_rfl
theorem info_u64 : (Tryd.prog.info? 80).map (fun i => (i.zero, i.size, i.bytes)) = some (some (.int .u64 0), 1, 8) := by kernel_rfl
def En.row (x : En) : List Value := x.cells.toList
theorem En.row_length (x : En) : x.row.length = 9 := rfl
def rowsE (l : List En) : List Value := l.flatMap En.row
theorem rowsE_length (l : List En) : (rowsE l).length = l.length * 9 := by
  induction l with
  | nil => rfl
  | cons x l ih => unfold rowsE at ih ⊢; rw [List.flatMap_cons, List.length_append, ih, x.row_length, List.length_cons]; omega
theorem rowsE_snoc (l : List En) (x : En) : rowsE (l ++ [x]) = rowsE l ++ x.row := by unfold rowsE; simp
theorem En.row_one (x : En) (h : x.ev.ok) : ∀ u ∈ x.row, u.oneCell' = true := by
  intro u hu
  have ho := x.ev.term.one_ h.term
  simp only [En.row, En.cells, List.mem_cons, List.not_mem_nil, or_false] at hu
  rcases hu with rfl | rfl | rfl | rfl | rfl | rfl | rfl | rfl | rfl
  all_goals first | exact ho | rfl
theorem rowsE_one (l : List En) (h : ∀ x ∈ l, x.ev.ok) : ∀ u ∈ rowsE l, u.oneCell' = true := by
  intro u hu
  obtain ⟨x, hx, hu⟩ := List.mem_flatMap.1 hu
  exact x.row_one (h x hx) u hu
def u64s (l : List Int) : List Value := l.map (.int .u64 ·)
theorem u64s_length (l : List Int) : (u64s l).length = l.length := by simp [u64s]
theorem u64s_one (l : List Int) : ∀ u ∈ u64s l, u.oneCell' = true := by
  intro u hu
  obtain ⟨x, _, rfl⟩ := List.mem_map.1 hu
  rfl
set_option maxRecDepth 100000 in
set_option maxHeartbeats 2000000 in
theorem sclone_e (A : Option Addr) (n c : Nat) (xs : List Value) (hl : xs.length = n * 9) (h1 : ∀ u ∈ xs, u.oneCell' = true) (hn : n ≤ 1000000) (w : World) (hr : Rd w A xs) :
    Calls Tryd.prog 37 #[.slice A n c] w (RetOwn w 86 9 n xs) := by
  have HR := Lib.hid hr; have HL := Lib.hid hl; have H1 := Lib.hid h1
  clear hr hl h1
  cases A with
  | none =>
    have hx : xs = [] := by
      cases hxs : xs with
      | nil => rfl
      | cons y ys => obtain ⟨_, e, _⟩ := HR.out 0 y (by simp [hxs]); cases e
    have hn0 : n = 0 := by have := HL.out; rw [hx] at this; simp at this; omega
    have q22 : ∀ (w : World) (n c n' c' : Nat), (binOp .eql 90 (.slice none n c) (.slice none n' c')).run Tryd.prog w = .ok (.bool true) w := fun w n c n' c' => Lib.run_eql_slice_nil w _ _ none n c n' c' Tryd.underlying90
    subst hn0
    rw [hx]
    go_enter Tryd.func37, Tryd.ntmps37
    go_wp2_with fail
    go_ret
    exact ⟨_, rfl, Own.nil _ _ _ _, bl_refl _⟩
  | some ad =>
    have q22 : ∀ (w : World) (n c n' c' : Nat), (binOp .eql 90 (.slice (some ad) n c) (.slice none n' c')).run Tryd.prog w = .ok (.bool false) w := fun w n c n' c' => Lib.run_eql_slice_nil w _ _ (some ad) n c n' c' Tryd.underlying90
    have hO0 : Own w (w.alloc (.cells #[] 86)) 86 9 (.slice (some ⟨w.heap.size, 0, none⟩) 0 0) 0 [] := World.ownsRow_made w #[] 0 (Nat.le_refl _) (Nat.zero_le _) (by simp)
    have hR0 := HR.out.below (bl_alloc (bl_refl w) (.cells #[] 86))
    have hB0 := bl_alloc (bl_refl w) (.cells #[] 86)
    go_enter Tryd.func37, Tryd.ntmps37
    go_wp2_with (at_builtin; refine append_any (w0 := w) rfl _ _ 90 86 _ 9 112 rfl Tryd.underlying90 info_en rfl (by decide) _ 0 _ (some ad) n c xs hO0 hB0 hR0 rfl rfl HL.out H1.out (by omega) (by omega) ?_; intro v1 w6 HO6 HB6 HG6)
    go_ret
    exact ⟨_, rfl, by simpa using HO6, HB6⟩
set_option maxRecDepth 100000 in
set_option maxHeartbeats 2000000 in
theorem sclone_u (A : Option Addr) (n c : Nat) (xs : List Value) (hl : xs.length = n * 1) (h1 : ∀ u ∈ xs, u.oneCell' = true) (hn : n ≤ 1000000) (w : World) (hr : Rd w A xs) :
    Calls Tryd.prog 38 #[.slice A n c] w (RetOwn w 80 1 n xs) := by
  have HR := Lib.hid hr; have HL := Lib.hid hl; have H1 := Lib.hid h1
  clear hr hl h1
  cases A with
  | none =>
    have hx : xs = [] := by
      cases hxs : xs with
      | nil => rfl
      | cons y ys => obtain ⟨_, e, _⟩ := HR.out 0 y (by simp [hxs]); cases e
    have hn0 : n = 0 := by have := HL.out; rw [hx] at this; simp at this; omega
    have q22 : ∀ (w : World) (n c n' c' : Nat), (binOp .eql 79 (.slice none n c) (.slice none n' c')).run Tryd.prog w = .ok (.bool true) w := fun w n c n' c' => Lib.run_eql_slice_nil w _ _ none n c n' c' Tryd.underlying79
    subst hn0
    rw [hx]
    go_enter Tryd.func38, Tryd.ntmps38
    go_wp2_with fail
    go_ret
    exact ⟨_, rfl, Own.nil _ _ _ _, bl_refl _⟩
  | some ad =>
    have q22 : ∀ (w : World) (n c n' c' : Nat), (binOp .eql 79 (.slice (some ad) n c) (.slice none n' c')).run Tryd.prog w = .ok (.bool false) w := fun w n c n' c' => Lib.run_eql_slice_nil w _ _ (some ad) n c n' c' Tryd.underlying79
    have hO0 : Own w (w.alloc (.cells #[] 80)) 80 1 (.slice (some ⟨w.heap.size, 0, none⟩) 0 0) 0 [] := World.ownsRow_made w #[] 0 (Nat.le_refl _) (Nat.zero_le _) (by simp)
    have hR0 := HR.out.below (bl_alloc (bl_refl w) (.cells #[] 80))
    have hB0 := bl_alloc (bl_refl w) (.cells #[] 80)
    go_enter Tryd.func38, Tryd.ntmps38
    go_wp2_with (at_builtin; refine append_any (w0 := w) rfl _ _ 79 80 _ 1 8 rfl Tryd.underlying79 info_u64 rfl (by decide) _ 0 _ (some ad) n c xs hO0 hB0 hR0 rfl rfl HL.out H1.out (by omega) (by omega) ?_; intro v1 w6 HO6 HB6 HG6)
    go_ret
    exact ⟨_, rfl, by simpa using HO6, HB6⟩
end Go.Proofs.YtapbkomicihkkaaDoor
