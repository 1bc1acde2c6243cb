/- A chain in memory: its length, its heads, its entries. -/
import Derived.Test.YtapbkomicihkkaaDoorChn2
import Derived.BigQuiet
namespace Go.Proofs.YtapbkomicihkkaaDoor
open Go.RowKit
set_option linter.unusedVariables false
set_option linter.unusedSimpArgs false

structure Ch where
  key : List UInt8
  es : List En
  hs : List Int
structure Ch.ok (c : Ch) : Prop where
  key : c.key.length = 16
  len : c.hs.length = c.es.length + 1
  es : ∀ x ∈ c.es, x.ev.small
  hs : ∀ h ∈ c.hs, isU h
  max : c.es.length ≤ 64
/-- A chain in memory of the call's own. -/
def ChAt (w0 W : World) (g : Nat) (c : Ch) : Prop := ∃ vl vh, Blk W g (byts c.key ++ [vl, vh]).toArray 106 ∧ Own w0 W 86 9 vl c.es.length (rowsE c.es) ∧ Own w0 W 80 1 vh c.hs.length (u64s c.hs) ∧ w0.heap.size ≤ W.heap.size
theorem ChAt.below {w0 W W1 : World} {g : Nat} {c : Ch} (h : ChAt w0 W g c) (hb : Below W.heap.size W W1) : ChAt w0 W1 g c := by
  obtain ⟨vl, vh, h1, h2, h3, h4⟩ := h
  exact ⟨vl, vh, h1.below hb, h2.below hb, h3.below hb, Nat.le_trans h4 hb.size⟩
/-- Another chain's change leaves it. -/
theorem ChAt.grown {w0 W W1 : World} {g r : Nat} {c : Ch} {cs : Array Value} (h : ChAt w0 W g c) (hg : W.grownBy W1 (some r)) (hne : r ≠ g) (hr : Blk W r cs 106) : ChAt w0 W1 g c := by
  obtain ⟨vl, vh, h1, h2, h3, h4⟩ := h
  exact ⟨vl, vh, h1.grown hg (fun e => hne (by injection e)), h2.kept hg (.inr (h2.ne_blk hr (by decide))), h3.kept hg (.inr (h3.ne_blk hr (by decide))), Nat.le_trans h4 hg.size⟩
theorem chcells {key : List UInt8} (hk : key.length = 16) (vl vh : Value) : (byts key ++ [vl, vh]).toArray[16]? = some vl ∧ (byts key ++ [vl, vh]).toArray[17]? = some vh := by
  have h := byts_length key
  rw [hk] at h
  constructor
  · rw [List.getElem?_toArray, List.getElem?_append_right (by omega), h]; rfl
  · rw [List.getElem?_toArray, List.getElem?_append_right (by omega), h]; rfl
/-- What a method reads. -/
theorem ChAt.open_ {w0 W : World} {g : Nat} {c : Ch} (h : ChAt w0 W g c) (ho : c.ok) : ∃ A cl ad ch, W.cell? ⟨g, 16, none⟩ = some (.slice A c.es.length cl) ∧ W.cell? ⟨g, 17, none⟩ = some (.slice (some ad) (c.es.length + 1) ch) ∧ Rd W A (rowsE c.es) ∧ Rd W (some ad) (u64s c.hs) := by
  obtain ⟨vl, vh, h1, h2, h3, h4⟩ := h
  obtain ⟨A, cl, rfl, hA, -, -⟩ := h2.read
  obtain ⟨D, ch, rfl, hD, -, -⟩ := h3.read
  obtain ⟨e1, e2⟩ := chcells ho.key (.slice A c.es.length cl) (.slice D c.hs.length ch)
  have hl := ho.len
  obtain ⟨h0, hh⟩ : ∃ h0, (u64s c.hs)[0]? = some h0 := ⟨_, List.getElem?_eq_getElem (by rw [u64s_length]; omega)⟩
  obtain ⟨ad, rfl, -⟩ := hD 0 h0 hh
  rw [hl] at e2
  exact ⟨A, cl, ad, ch, (h1.cell 16).trans e1, (h1.cell 17).trans (by rw [hl]; exact e2), hA, hD⟩
/-- A chain's head. -/
def Ch.head (c : Ch) : Int := c.hs.getD c.es.length 0
theorem u64s_get (l : List Int) (j : Nat) (h : j < l.length) : (u64s l)[j]? = some (.int .u64 (l.getD j 0)) := by simp [u64s, h]
set_option maxRecDepth 100000 in
set_option maxHeartbeats 2000000 in
theorem chead_calls (w0 : World) (g : Nat) (c : Ch) (ho : c.ok) (w : World) (h : ChAt w0 w g c) :
    Calls Tryd.prog 16 #[.pointer (some ⟨g, 0, none⟩)] w fun e w' => e = .returned (.int .u64 c.head) ∧ Below w.heap.size w w' := by
  obtain ⟨A, cl, ad, ch, c16, c17, hA, hD⟩ := h.open_ ho
  have hl := ho.len
  obtain ⟨ad', e, hc⟩ := hD c.es.length _ (u64s_get c.hs c.es.length (by omega))
  cases e
  have HH : Hid (c.head = c.hs.getD c.es.length 0) := rfl
  rw [HH.out]
  generalize c.hs.getD c.es.length 0 = hd at *
  have hmx := ho.max
  generalize c.es.length = n at *
  have hz1 : (n : Int) < ((n + 1 : Nat) : Int) := by omega
  have hz0 : (0 : Int) ≤ (n : Int) := by omega
  have hz2 : ((n + 1 : Nat) : Int) - 1 = (n : Int) := by omega
  clear hA hD h ho
  go_enter Tryd.func16, Tryd.ntmps16
  go_wp2_with fail
  go_quiet (fail)
  go_wp2_with fail
  go_ret
  exact ⟨rfl, bl_drewN (bl_refl _) _⟩
set_option maxRecDepth 100000 in
set_option maxHeartbeats 2000000 in
theorem clen_calls (w0 : World) (g : Nat) (c : Ch) (ho : c.ok) (w : World) (h : ChAt w0 w g c) :
    Calls Tryd.prog 18 #[.pointer (some ⟨g, 0, none⟩)] w fun e w' => e = .returned (.int .i64 c.es.length) ∧ Below w.heap.size w w' := by
  obtain ⟨A, cl, ad, ch, c16, c17, hA, hD⟩ := h.open_ ho
  generalize c.es.length = n at *
  clear hA hD h ho
  go_enter Tryd.func18, Tryd.ntmps18
  go_wp2_with fail
  go_ret
  exact ⟨rfl, bl_refl _⟩
end Go.Proofs.YtapbkomicihkkaaDoor
