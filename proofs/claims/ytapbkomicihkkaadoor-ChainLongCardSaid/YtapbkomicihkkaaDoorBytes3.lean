/- Numbers as bytes, and back: the walks. -/
import Derived.Test.YtapbkomicihkkaaDoorBytes2
import Derived.Test.YtapbkomicihkkaaDoorSip1
import Derived.Test.YtapbkomicihkkaaDoorSipLaw
namespace Go.Proofs.YtapbkomicihkkaaDoor
open Go.RowKit
set_option linter.unusedVariables false
set_option linter.unusedSimpArgs false

/-- A block as a slice of the call's own. -/
theorem Own.of_blk {w0 W : World} {g e n : Nat} {xs : List Value} (hb : Blk W g xs.toArray e) (hg : w0.heap.size ≤ g) (hn : xs.length = n) (hl : n ≤ maxLen) : Own w0 W e 1 (.slice (some ⟨g, 0, none⟩) n n) n xs :=
  ⟨by omega, .inr ⟨g, n, xs.toArray, rfl, hg, hb, Nat.le_refl _, hl, by simp [hn], by simp [← hn]⟩⟩
def byteAt (n : Int) (j : Nat) : Value := .int .u8 ((n / 2 ^ (8 * j)) % 256)
theorem byts_bytesI (n : Int) : byts (bytesI n) = (List.range 8).map (byteAt n) := by
  unfold byts bytesI
  rw [List.map_map]
  apply List.map_congr_left
  intro j _
  simp only [Function.comp, byteAt]
  generalize n / 2 ^ (8 * j) = q
  congr 1
  simp
  omega

set_option maxRecDepth 100000 in
set_option maxHeartbeats 1000000 in
theorem bytes_calls (n : Int) (hn : isU n) (w : World) :
    Calls Tryd.prog 58 #[.int .u64 n] w (RetOwn w 5 1 8 (byts (bytesI n))) := by
  have hmk : ∀ W : World, (Instr.makeSlice 74 (.int .i64 8) (.int .i64 8)).run Tryd.prog W = .ok (.slice (some ⟨W.heap.size, 0, none⟩) 8 8) (W.alloc (.cells (filled 8 0 (byteAt n) (.int .u8 0)) 5)) := fun _ => by kernel_rfl
  go_enter Tryd.func58, Tryd.ntmps58
  go_wp2_with fail
  clear hmk
  have hb := Blk.new w (filled 8 0 (byteAt n) (.int .u8 0)) 5
  have hB := bl_alloc (bl_refl w) (.cells (filled 8 0 (byteAt n) (.int .u8 0)) 5)
  generalize World.alloc _ _ = w1 at hb hB ⊢
  go_loopw [8] (fun i wr => ∃ k : Nat, k ≤ 8 ∧ i = .int .i64 k ∧ Blk wr w.heap.size (filled 8 k (byteAt n) (.int .u8 0)) 5 ∧ Below w.heap.size w wr) (fun i _ => 8 - (intOf i).toNat)
  case atStart => exact ⟨0, by omega, rfl, hb, hB⟩
  case round =>
    clear hb hB
    obtain ⟨k, hk, rfl, hb, hB⟩ := hrel
    by_cases hlt : k < 8
    · have hc := (hb.cell k).trans (filled_get 8 k _ _ k hlt)
      have hf := hb.frozen k
      rw [if_neg (Nat.lt_irrefl _)] at hc
      have hsh := fun w' => (run_shr Tryd.prog .u64 .i64 n (8 * (k : Int)) (by omega) w')
      rw [show min (8 * (k : Int)).toNat IntKind.u64.bits = 8 * k by rw [show (8 * (k : Int)).toNat = 8 * k by omega]; show min (8 * k) 64 = 8 * k; omega] at hsh
      go_wp2_with fail
      go_roundw
      case rel => exact ⟨k + 1, by omega, by go_num, by rw [← filled_set]; exact hb.set k _, hB.setCell (by simp) _⟩
      case measure => simp [intOf]; omega
    · obtain rfl : k = 8 := by omega
      rw [filled_all, ← byts_bytesI] at hb
      go_wp2_with fail
      go_ret
      exact ⟨_, rfl, Own.of_blk hb (Nat.le_refl _) (by rw [byts_length, bytesI_length]) (by decide), hB⟩

theorem range_snoc_map {α : Type} (f : Nat → α) (k : Nat) : (List.range (k + 1)).map f = (List.range k).map f ++ [f k] := by rw [List.range_succ, List.map_append]; rfl
end Go.Proofs.YtapbkomicihkkaaDoor
