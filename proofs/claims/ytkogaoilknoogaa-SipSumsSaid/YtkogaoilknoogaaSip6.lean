/- The document's example of a sum, as the code checks it. -/
import Derived.Test.YtkogaoilknoogaaSip5
namespace Go.Proofs.Ytkogaoilknoogaa
open Go.RowKit

theorem wakes_sum : sipSum (upto 16) (upto 15) = 11613035633349379557 := by decide +kernel
theorem upto_length (n : Nat) : (upto n).length = n := by simp [upto]
theorem byts_upto (n : Nat) (hn : n ≤ 256) : byts (upto n) = (List.range n).map fun j => .int .u8 (j : Int) := by
  unfold byts upto
  rw [List.map_map]
  apply List.map_congr_left
  intro j hj
  have := List.mem_range.1 hj
  simp
  omega

set_option maxRecDepth 100000 in
set_option maxHeartbeats 4000000 in
theorem wakes_calls (w : World) :
    Calls Try.prog 11 #[] w fun e w' => e = .returned (.bool true) ∧ Below w.heap.size w w' := by
  have hmk : ∀ W : World, (Instr.makeSlice 22 (.int .i64 15) (.int .i64 15)).run Try.prog W = .ok (.slice (some ⟨W.heap.size, 0, none⟩) 15 15) (W.alloc (.cells (filled 15 0 (fun j => .int .u8 (j : Int)) (.int .u8 0)) 5)) := fun _ => by kernel_rfl
  go_enter Try.func11, Try.ntmps11
  go_wp2_with fail
  clear hmk
  have hb := Blk.new w (filled 15 0 (fun j => .int .u8 (j : Int)) (.int .u8 0)) 5
  have hB := bl_alloc (bl_refl w) (.cells (filled 15 0 (fun j => .int .u8 (j : Int)) (.int .u8 0)) 5)
  generalize World.alloc _ _ = w1 at hb hB ⊢
  go_loopw [6] (fun i wr => ∃ k : Nat, k ≤ 15 ∧ i = .int .i64 k ∧ Blk wr w.heap.size (filled 15 k (fun j => .int .u8 (j : Int)) (.int .u8 0)) 5 ∧ Below w.heap.size w wr) (fun i _ => 15 - (intOf i).toNat)
  case atStart => exact ⟨0, by omega, rfl, hb, hB⟩
  case round =>
    clear hb hB
    obtain ⟨k, hk, rfl, hb, hB⟩ := hrel
    by_cases hlt : k < 15
    · have hc := (hb.cell k).trans (filled_get 15 k _ _ k hlt)
      have hf := hb.frozen k
      have hi : ((k : Nat) : Int) % 256 = k := by omega
      rw [if_neg (Nat.lt_irrefl _)] at hc
      go_wp2_with fail
      go_roundw
      case rel => exact ⟨k + 1, by omega, by go_num, by rw [← filled_set]; exact hb.set k _, hB.setCell (by simp) _⟩
      case measure => simp [intOf]; omega
    · obtain rfl : k = 15 := by omega
      clear hk hlt
      rw [filled_all, ← byts_upto 15 (by decide)] at hb
      have HR := Lib.hid hb.rd
      clear hb
      go_wp2_with fail
      refine (key_calls wr).mono ?_
      rintro e w2 ⟨rfl, hB2⟩
      have hr : Rd w2 (some ⟨w.heap.size, 0, none⟩) (byts (upto 15)) := HR.out.below hB2
      replace hB := bl_step hB2 hB
      clear HR hB2
      go_wp2_with fail
      refine (sum_calls (upto 16) (upto_length 16) _ _ (upto 15) w2 hr (by decide) (by decide)).mono ?_
      rintro e w3 ⟨rfl, hB3⟩
      have hw := wakes_sum
      go_wp2_with fail
      go_ret
      exact ⟨rfl, bl_step hB3 hB⟩
end Go.Proofs.Ytkogaoilknoogaa
