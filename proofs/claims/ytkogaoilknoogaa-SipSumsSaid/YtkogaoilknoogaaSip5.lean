/- The example's key, and the example itself. -/
import Derived.Test.YtkogaoilknoogaaSip4
import Derived.Test.YtkogaoilknoogaaFill
namespace Go.Proofs.Ytkogaoilknoogaa
open Go.RowKit

/-- The bytes 0, 1, 2, .. -/
def upto (n : Nat) : List UInt8 := (List.range n).map UInt8.ofNat

set_option maxRecDepth 100000 in
set_option maxHeartbeats 4000000 in
theorem key_calls (w : World) :
    Calls Try.prog 12 #[] w fun e w' => e = .returned (.agg (byts (upto 16)).toArray) ∧ Below w.heap.size w w' := by
  go_enter Try.func12, Try.ntmps12
  go_wp2_with fail
  have hr := Blk.new w (filled 16 0 (fun j => .int .u8 (j : Int)) (.int .u8 0)) 24
  have hk := Blk.new (w.alloc (.cells (filled 16 0 (fun j => .int .u8 (j : Int)) (.int .u8 0)) 24)) (filled 16 0 (fun j => .int .u8 (j : Int)) (.int .u8 0)) 24
  replace hr := hr.below (bl_alloc (bl_refl _) (.cells (filled 16 0 (fun j => .int .u8 (j : Int)) (.int .u8 0)) 24))
  have hB := bl_alloc (bl_alloc (bl_refl w) (.cells (filled 16 0 (fun j => .int .u8 (j : Int)) (.int .u8 0)) 24)) (.cells (filled 16 0 (fun j => .int .u8 (j : Int)) (.int .u8 0)) 24)
  rw [show (w.alloc (.cells (filled 16 0 (fun j => .int .u8 (j : Int)) (.int .u8 0)) 24)).heap.size = w.heap.size + 1 by simp] at hk
  have e0 : filled 16 0 (fun j => .int .u8 (j : Int)) (.int .u8 0) = #[.int .u8 0, .int .u8 0, .int .u8 0, .int .u8 0, .int .u8 0, .int .u8 0, .int .u8 0, .int .u8 0, .int .u8 0, .int .u8 0, .int .u8 0, .int .u8 0, .int .u8 0, .int .u8 0, .int .u8 0, .int .u8 0] := by rw [filled_zero]; rfl
  rw [← e0]
  clear e0
  generalize World.alloc _ _ = w1 at hr hk hB ⊢
  go_loopw [3] (fun i wr => ∃ k : Nat, k ≤ 16 ∧ i = .int .i64 k ∧ Blk wr (w.heap.size + 1) (filled 16 k (fun j => .int .u8 (j : Int)) (.int .u8 0)) 24 ∧ Blk wr w.heap.size (filled 16 0 (fun j => .int .u8 (j : Int)) (.int .u8 0)) 24 ∧ Below w.heap.size w wr) (fun i _ => 16 - (intOf i).toNat)
  case atStart => exact ⟨0, by omega, rfl, hk, hr, hB⟩
  case round =>
    clear hr hk hB
    obtain ⟨k, hk, rfl, hb, hr, hB⟩ := hrel
    by_cases hlt : k < 16
    · have hc := (hb.cell k).trans (filled_get 16 k _ _ k hlt)
      have hf := hb.frozen k
      have hi : ((k : Nat) : Int) % 256 = k := by omega
      rw [if_neg (Nat.lt_irrefl _)] at hc
      go_wp2_with fail
      go_roundw
      case rel => exact ⟨k + 1, by omega, by go_num, by rw [← filled_set]; exact hb.set k _, hr.far _ (by simp) _, hB.setCell (by simp) _⟩
      case measure => simp [intOf]; omega
    · obtain rfl : k = 16 := by omega
      clear hk hlt
      rw [filled_all] at hb
      go_wp2_with (first | (refine wpList_load_row rfl 24 _ rfl (w.heap.size + 1) rfl 24 _ (0, 0) _ hb Try.underlying24 rfl (by kernel_rfl) ?_) | (refine wpList_store_row rfl 24 _ _ rfl w.heap.size _ rfl rfl 24 _ hr (by kernel_rfl) (by kernel_rfl) (by kernel_rfl) ?_))
      refine bodyPost_ret (results_cell_row rfl _ _ w.heap.size 24 _ (0, 0) _ rfl (hr.setRow _) Try.underlying24 rfl (by kernel_rfl)) rfl ⟨rfl, bl_setRow hB _ (Nat.le_refl _) _⟩
end Go.Proofs.Ytkogaoilknoogaa
