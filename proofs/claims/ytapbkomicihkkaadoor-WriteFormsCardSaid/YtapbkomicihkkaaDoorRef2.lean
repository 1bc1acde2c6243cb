/- The document's runes of a text. -/
import Derived.Test.YtapbkomicihkkaaDoorRef1
import Derived.Lib.OthersKept
namespace Go.Proofs.YtapbkomicihkkaaDoor
open Go.RowKit
set_option linter.unusedVariables false
set_option linter.unusedSimpArgs false

theorem gb_iterAt (W : World) (k : Nat) (s : ByteArray) (p : Nat) : W.grownBy (W.iterAt k s p) (some k) :=
  ⟨rfl, rfl, rfl, by simp [World.iterAt], fun i hi hne => by
    have hk : k ≠ i := fun e => hne (by rw [e])
    show (W.heap.setIfInBounds k _)[i]? = _
    rw [Array.getElem?_setIfInBounds_ne hk]⟩
theorem iterAt_self {W : World} {k : Nat} {o : Obj} (h : W.heap[k]? = some o) (s : ByteArray) (p : Nat) : (W.iterAt k s p).heap[k]? = some (.stringIter s p) := by
  have hk : k < W.heap.size := (Array.getElem?_eq_some_iff.1 h).1
  show (W.heap.setIfInBounds k _)[k]? = _
  rw [Array.getElem?_setIfInBounds_self_of_lt hk]
theorem Own.ne_iter {w0 W : World} {e size n g : Nat} {v : Value} {xs : List Value} {s : ByteArray} {p : Nat} (h : Own w0 W e size v n xs) (hb : W.heap[g]? = some (.stringIter s p)) : v.ownBlock ≠ some g := by
  intro hv
  rcases h.2 with ⟨h1, _⟩ | ⟨g', cap, cur, h1, _, hh, _⟩
  · rw [h1] at hv; simp [Value.ownBlock] at hv
  · rw [h1] at hv
    simp [Value.ownBlock] at hv
    subst hv
    rw [hb] at hh
    cases hh
theorem ints_snoc (l : List Int) (x : Int) : ints l ++ [.int .i32 x] = ints (l ++ [x]) := by simp [ints]
/-- It returns runes, in a row of its own. -/
def RetInts (w : World) (l : List Int) (e : Ending) (w' : World) : Prop := ∃ v, e = .returned v ∧ Own w w' 21 1 v l.length (ints l) ∧ Below w.heap.size w w'
set_option maxRecDepth 100000 in
set_option maxHeartbeats 1000000 in
theorem rrunes_calls (s : ByteArray) (hs : s.size ≤ 1000000) (w : World) :
    Calls Tryd.prog 83 #[.string s] w (RetInts w (runesL s)) := by
  have hb1 := bs_i32
  go_enter Tryd.func83, Tryd.ntmps83
  go_wp2_with fail
  go_loopw [3] (fun v wr => ∃ (pos b : Nat) (acc : List Int), Own w wr 21 1 v acc.length (ints acc) ∧ Below w.heap.size w wr ∧ wr.heap[w.heap.size]? = some (.stringIter s pos) ∧ acc ++ runesF s b pos = runesL s ∧ s.size ≤ pos + b) (fun _ wr => s.size - wr.iterPos w.heap.size)
  case atStart => exact ⟨0, s.size, [], Own.nil _ _ _ _, bl_alloc (bl_refl w) _, by rw [World.iter_heap], rfl, by omega⟩
  case round =>
    obtain ⟨pos, b, acc, HO, HB, HI, hc, hb⟩ := hrel
    have hlen : acc.length ≤ s.size := by
      have h1 := congrArg List.length hc
      rw [List.length_append] at h1
      have h2 := runesF_length s s.size 0
      unfold runesL at h1
      omega
    have HC := Lib.hid hc
    clear hc
    by_cases hp : pos < s.size
    · have hwd := width_pos s pos hp
      have hnx : ∀ ty, (Instr.next (.pointer (some ⟨w.heap.size, 0, none⟩)) true ty).run Tryd.prog wr = _ := fun ty => Lib.run_next_any_at wr w.heap.size s pos ty HI hp
      obtain ⟨b, rfl⟩ : ∃ c, b = c + 1 := ⟨b - 1, by omega⟩
      have hst := runesF_step s b pos hp
      have HS := Lib.hid hst
      clear hst
      have HO2 := HO.kept (gb_iterAt wr w.heap.size s (pos + (Utf8.decode s pos).2)) (.inr (HO.ne_iter HI))
      have HB2 := bl_grown HB (gb_iterAt wr w.heap.size s (pos + (Utf8.decode s pos).2)) (Nat.le_refl _)
      have HI2 := iterAt_self HI s (pos + (Utf8.decode s pos).2)
      have hIP : wr.iterPos w.heap.size = pos := by simp [World.iterPos, HI]
      clear HO HB HI
      generalize wr.iterAt w.heap.size s (pos + (Utf8.decode s pos).2) = wi at *
      have hll := ints_length acc
      generalize hr : ((Utf8.decode s pos).1 : Int) = r at *
      go_wp2_with (at_builtin; refine append_oneG (w0 := w) rfl _ _ 169 21 _ 4 rfl Tryd.underlying169 info_i32 rfl _ _ _ _ _ HO2 HB2 rfl rfl (by simp) rfl (by omega) (by omega) ?_; intro v1 w1 HO3 HB3 HG3)
      have hI3 : w1.heap[w.heap.size]? = some (.stringIter s (pos + (Utf8.decode s pos).2)) := (HG3.block _ (Array.getElem?_eq_some_iff.1 HI2).1 (fun h => HO2.ne_iter HI2 h.symm)).trans HI2
      go_roundw
      case rel =>
        refine ⟨pos + (Utf8.decode s pos).2, b, acc ++ [r], ?_, HB3, hI3, ?_, by omega⟩
        · rw [← ints_snoc, List.length_append]; exact HO3
        · rw [← HC.out, HS.out, ← hr]; simp
      case measure =>
        have h1 : w1.iterPos w.heap.size = pos + (Utf8.decode s pos).2 := by simp [World.iterPos, hI3]
        rw [h1, hIP]; omega
    · have hnx : ∀ ty, (Instr.next (.pointer (some ⟨w.heap.size, 0, none⟩)) true ty).run Tryd.prog wr = _ := fun ty => Lib.run_next_end_at wr w.heap.size s pos ty HI hp
      have hend := runesF_end s b pos hp
      have hc := HC.out
      rw [hend, List.append_nil] at hc
      subst hc
      clear HC hend
      have HOX := Lib.hid HO
      clear HO
      go_wp2_with fail
      go_ret
      exact ⟨_, rfl, HOX.out, HB⟩
end Go.Proofs.YtapbkomicihkkaaDoor
