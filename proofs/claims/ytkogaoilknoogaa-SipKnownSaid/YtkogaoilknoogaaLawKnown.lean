/- The walk of 'SipKnown': whatever the number, the law answers true. -/
import Derived.Test.YtkogaoilknoogaaSip6
import Derived.Test.YtkogaoilknoogaaKeep
namespace Go.Proofs.Ytkogaoilknoogaa
open Go.RowKit

/-- The sums that were published. -/
def wanted8 : List Int := [8246050544436514353, 8428550223375919101, 967288799772626778, 9612764727700323885, 14927063180398135223, 1762690195596617357, 14684345499771659214, 12322412585038238007]
def wantedC : Array Value := #[.int .u64 8246050544436514353, .int .u64 8428550223375919101, .int .u64 967288799772626778, .int .u64 9612764727700323885, .int .u64 14927063180398135223, .int .u64 1762690195596617357, .int .u64 14684345499771659214, .int .u64 12322412585038238007]
theorem known_all : ∀ k, k < 8 → sipSum (upto 16) (upto k) = wanted8.getD k 0 := by decide +kernel
theorem wanted_at : ∀ k, k < 8 → wantedC[k]? = some (.int .u64 (wanted8.getD k 0)) := by
  intro k hk
  match k, hk with
  | 0, _ | 1, _ | 2, _ | 3, _ | 4, _ | 5, _ | 6, _ | 7, _ => rfl
theorem upto_succ (k : Nat) (h : k < 256) : byts (upto (k + 1)) = byts (upto k) ++ [.int .u8 (k : Int)] := by
  rw [byts_upto _ (by omega), byts_upto _ (by omega), List.range_succ, List.map_append]; rfl
theorem info_u8 : (Try.prog.info? 5).map (fun i => (i.zero, i.size, i.bytes)) = some (some (.int .u8 0), 1, 1) := by kernel_rfl

set_option maxRecDepth 100000 in
set_option maxHeartbeats 4000000 in
theorem known_calls (n : Int) (w : World) (hn : -9223372036854775808 ≤ n ∧ n ≤ 9223372036854775807) :
    Calls Try.prog 4 #[.int .i64 n] w fun e w' => e = .returned (.bool true) ∧ Below w.heap.size w w' := by
  have hbs : ∀ W : World, (Instr.buildSlice 31 8 #[(0, .int .u64 8246050544436514353), (1, .int .u64 8428550223375919101), (2, .int .u64 967288799772626778), (3, .int .u64 9612764727700323885), (4, .int .u64 14927063180398135223), (5, .int .u64 1762690195596617357), (6, .int .u64 14684345499771659214), (7, .int .u64 12322412585038238007)]).run Try.prog W = .ok (.slice (some ⟨W.heap.size, 0, none⟩) 8 8) (W.alloc (.cells wantedC 26)) := fun _ => by kernel_rfl
  have hb1 : ∀ (W : World) (x : Int), (Instr.buildSlice 22 1 #[(0, .int .u8 x)]).run Try.prog W = .ok (.slice (some ⟨W.heap.size, 0, none⟩) 1 1) (W.alloc (.cells #[.int .u8 x] 5)) := fun _ _ => by kernel_rfl
  go_enter Try.func4, Try.ntmps4
  go_wp2_with fail
  clear hbs
  have hB0 := bl_alloc (bl_refl w) (.cells wantedC 26)
  have hW0 := Blk.new w wantedC 26
  change Calls _ _ _ (w.alloc (.cells wantedC 26)) _
  generalize w.alloc (.cells wantedC 26) = w1 at hB0 hW0 ⊢
  refine (within_calls n 8 w1 hn (by omega)).mono ?_
  rintro e w2 ⟨rfl, rfl⟩
  have hk0 := Int.emod_nonneg n (show (8 : Int) ≠ 0 by omega)
  have hk1 := Int.emod_lt_of_pos n (show (0 : Int) < 8 by omega)
  generalize n % 8 = k at hk0 hk1 ⊢
  obtain ⟨k, rfl⟩ := Int.eq_ofNat_of_zero_le hk0
  have hk8 : k < 8 := by omega
  go_wp2_with fail
  go_loopw [5, 6] (fun b i wr => ∃ j : Nat, j ≤ k ∧ i = .int .i64 j ∧ Own w wr 5 1 b j (byts (upto j)) ∧ Blk wr w.heap.size wantedC 26 ∧ Below w.heap.size w wr) (fun _ i _ => k - (intOf i).toNat)
  case atStart => exact ⟨0, by omega, rfl, Own.nil _ _ _ _, hW0, hB0⟩
  case round =>
    clear hW0 hB0
    obtain ⟨j, hj, rfl, HO, HW, HB⟩ := hrel
    by_cases hlt : j < k
    · have hi : ((j : Nat) : Int) % 256 = j := by omega
      have hg1 := HO
      go_wp2_with (at_builtin; refine append_one rfl _ _ 22 5 _ 1 rfl Try.underlying22 info_u8 rfl _ _ _ _ HO HB rfl rfl rfl (by omega) (by omega) ?_; intro v1 w3 HO1 HB1 HG1)
      go_roundw
      case rel => exact ⟨j + 1, by omega, by go_num, by rw [upto_succ j (by omega)]; exact HO1, HW.grown HG1 (HO.ne_blk HW (by decide)), HB1⟩
      case measure => simp [intOf]; omega
    · obtain rfl : k = j := by omega
      obtain ⟨A, c, rfl, HR, hc, _⟩ := HO.read
      have hx := wanted_at k hk8
      have hcell := (HW.cell k).trans hx
      have hs8 : (sipSum (upto 16) (upto k) == wanted8.getD k 0) = true := by rw [known_all k hk8]; simp
      have HR1 := Lib.hid HR
      have HW1 := Lib.hid HW
      have HX := Lib.hid hx
      have hx0 : (0 : Int) ≤ (k : Int) := by omega
      have hx1 : (k : Int) < 8 := by omega
      clear HO HR HW hx
      generalize wanted8.getD k 0 = X at hcell hs8 HX
      go_wp2_with fail
      go_region_held3 (fun w' => w'.cell? ⟨w.heap.size, k, none⟩ = some (.int .u64 X)) (first | go_keep | exact cell_below hb (by assumption))
        (first | (go_at_call 12; refine (key_calls _).mono ?_; rintro e w' ⟨rfl, hb⟩) | (go_at_call 9; refine (sum_at (upto 16) (upto_length 16) A c k (upto k) _ (upto_length k) ?_ ?_ ?_).mono ?_; exact (show Rd wr.drew A _ from HR1.out).below hb; omega; exact hc; rintro e w' ⟨rfl, hb⟩) | (go_at_call 11; refine (wakes_calls _).mono ?_; rintro e w' ⟨rfl, hb⟩))
      go_wp2_with fail
      go_ret
      refine ⟨rfl, ?_⟩
      repeat (first | exact bl_refl _ | refine bl_alloc ?_ _ | refine bl_drew ?_ | refine bl_drewN ?_ _ | refine bl_step (by assumption) ?_)
end Go.Proofs.Ytkogaoilknoogaa
