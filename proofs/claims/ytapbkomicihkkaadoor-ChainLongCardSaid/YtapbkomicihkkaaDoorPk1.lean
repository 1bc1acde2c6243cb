/- Numbers as eight bytes, the greatest first: package pack. -/
import Derived.Test.YtapbkomicihkkaaDoorBytes3
namespace Go.Proofs.YtapbkomicihkkaaDoor
open Go.RowKit
set_option linter.unusedVariables false
set_option linter.unusedSimpArgs false

def beAt (n : Int) (j : Nat) : Value := .int .u8 ((n % 18446744073709551616 / 2 ^ (56 - 8 * j)) % 256)
/-- A number's bytes, the greatest first. -/
def beI (n : Int) : List UInt8 := (List.range 8).map fun j => UInt8.ofNat ((n % 18446744073709551616 / 2 ^ (56 - 8 * j)) % 256).toNat
theorem beI_length (n : Int) : (beI n).length = 8 := by simp [beI]
theorem byts_beI (n : Int) : byts (beI n) = (List.range 8).map (beAt n) := by
  unfold byts beI
  rw [List.map_map]
  apply List.map_congr_left
  intro j _
  simp only [Function.comp, beAt]
  generalize n % 18446744073709551616 / 2 ^ (56 - 8 * j) = q
  congr 1
  simp
  omega
set_option maxRecDepth 100000 in
set_option maxHeartbeats 1000000 in
theorem pnum_calls (n : Int) (hn : -9223372036854775808 ≤ n ∧ n < 9223372036854775808) (w : World) :
    Calls Tryd.prog 107 #[.int .i64 n] w (RetOwn w 5 1 8 (byts (beI n))) := by
  have hmk : ∀ W : World, (Instr.makeSlice 74 (.int .i64 8) (.int .i64 8)).run Tryd.prog W = .ok (.slice (some ⟨W.heap.size, 0, none⟩) 8 8) (W.alloc (.cells (filled 8 0 (beAt n) (.int .u8 0)) 5)) := fun _ => by kernel_rfl
  go_enter Tryd.func107, Tryd.ntmps107
  go_wp2_with fail
  clear hmk
  have hb := Blk.new w (filled 8 0 (beAt n) (.int .u8 0)) 5
  have hB := bl_alloc (bl_refl w) (.cells (filled 8 0 (beAt n) (.int .u8 0)) 5)
  generalize World.alloc _ _ = w1 at hb hB ⊢
  go_loopw [8] (fun i wr => ∃ k : Nat, k ≤ 8 ∧ i = .int .i64 k ∧ Blk wr w.heap.size (filled 8 k (beAt n) (.int .u8 0)) 5 ∧ Below w.heap.size w wr) (fun i _ => 8 - (intOf i).toNat)
  case atStart => exact ⟨0, by omega, rfl, hb, hB⟩
  case round =>
    clear hb hB
    obtain ⟨k, hk, rfl, hb, hB⟩ := hrel
    by_cases hlt : k < 8
    · have hc := (hb.cell k).trans (filled_get 8 k _ _ k hlt)
      have hf := hb.frozen k
      rw [if_neg (Nat.lt_irrefl _)] at hc
      have hsh := fun w' => (run_shr Tryd.prog .u64 .i64 (n % 18446744073709551616) (56 - 8 * (k : Int)) (by omega) w')
      rw [show min (56 - 8 * (k : Int)).toNat IntKind.u64.bits = 56 - 8 * k by rw [show (56 - 8 * (k : Int)).toNat = 56 - 8 * k by omega]; show min (56 - 8 * k) 64 = 56 - 8 * k; omega] at hsh
      go_wp2_with fail
      go_roundw
      case rel => exact ⟨k + 1, by omega, by go_num, by rw [← filled_set]; exact hb.set k _, hB.setCell (by simp) _⟩
      case measure => simp [intOf]; omega
    · obtain rfl : k = 8 := by omega
      rw [filled_all, ← byts_beI] at hb
      go_wp2_with fail
      go_ret
      exact ⟨_, rfl, Own.of_blk hb (Nat.le_refl _) (by rw [byts_length, beI_length]) (by decide), hB⟩
end Go.Proofs.YtapbkomicihkkaaDoor
