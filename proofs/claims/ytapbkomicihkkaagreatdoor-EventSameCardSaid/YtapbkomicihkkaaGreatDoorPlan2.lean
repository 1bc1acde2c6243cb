/- Texts cut, digits; a plan's next number, next word. -/
import Derived.Test.YtapbkomicihkkaaGreatDoorPlan1
import Derived.Deep.RegionWith
namespace Go.Proofs.YtapbkomicihkkaaGreatDoor
open Go.RowKit
set_option linter.unusedVariables false
set_option linter.unusedSimpArgs false

theorem gb_drewN {w W : World} {r : Option Nat} (h : w.grownBy W r) (n : Nat) : w.grownBy (W.drewN n) r := ⟨h.os, h.tape, h.output, h.size, h.block⟩
theorem gb_setW {w W : World} {g : Nat} (h : w.grownBy W (some g)) (j : Nat) (v : Value) : w.grownBy (W.setCell ⟨g, j, none⟩ v) (some g) := gb_trans h (gb_set j v)
theorem text_calls (s : ByteArray) (n : Nat) (hs : s.size ≤ 9223372036854775807) (hn : n ≤ 140737488355328) (w : World) :
    Calls Tryz.prog 35 #[.string s, .int .i64 n] w fun e w' => e = .returned (.string (s.extract 0 (min s.size n))) ∧ w' = w := by
  go_enter Tryz.func35, Tryz.ntmps35
  go_wp2
  go_ret
  have e : (min (s.size : Int) (n : Int)).toNat = min s.size n := by omega
  simp [e]
set_option maxRecDepth 100000 in
set_option maxHeartbeats 1000000 in
theorem n_calls (w0 w : World) (g : Nat) (vN vW : Value) (i : Nat) (l : Int) (b : Nat) (hm : Mk w0 g vN vW i l b w) (hi : i ≤ 1000000000000) (of : Int) (h0 : 1 ≤ of ∧ of ≤ 140737488355328) :
    Calls Tryz.prog 119 #[.pointer (some ⟨g, 0, none⟩), .int .i64 of] w fun e w' => ∃ v, e = .returned (.int .i64 v) ∧ 0 ≤ v ∧ v < of ∧ Mk w0 g vN vW (i + 1) l b w' ∧ w.grownBy w' (some g) := by
  obtain ⟨A, n, c, xs, rfl, hr, hx, hn, hv⟩ := hm.plan.nums
  have c0 := hm.blk.cell 0
  have c2 := hm.blk.cell 2
  have z2 := hm.blk.frozen 2
  have e0 : (#[Value.slice A n c, vW, .int .i64 (i : Int), .int .i64 l, .int .i64 (b : Int)] : Array Value)[0]? = some (.slice A n c) := rfl
  have e2 : (#[Value.slice A n c, vW, .int .i64 (i : Int), .int .i64 l, .int .i64 (b : Int)] : Array Value)[2]? = some (.int .i64 (i : Int)) := rfl
  rw [e0] at c0
  rw [e2] at c2
  have HM := Lib.hid hm
  clear e0 e2 hm
  have hof := h0.1
  have hmk : ∀ W, Mk w0 g (.slice A n c) vW i l b W → Mk w0 g (.slice A n c) vW (i + 1) l b (W.setCell ⟨g, 2, none⟩ (.int .i64 ((i : Int) + 1))) := fun W h =>
    ⟨by have := h.blk.set 2 (.int .i64 ((i : Int) + 1)); exact this, h.hg, bl_grown h.bel (gb_set 2 _) h.hg, h.plan⟩
  have HMK := Lib.hid hmk
  clear hmk
  have hw0 := fun (v : Int) (w : World) (hv : -9223372036854775808 ≤ v ∧ v ≤ 9223372036854775807) => within_calls v of w hv h0
  have HW0 := Lib.hid hw0
  clear hw0 h0
  by_cases hlt : i < n
  · have hxi : xs[i]? = some xs[i]! := by rw [getElem!_pos xs i (by omega)]; exact List.getElem?_eq_getElem _
    obtain ⟨ad, rfl, hc⟩ := hr i _ hxi
    obtain ⟨v, hvv, hvb⟩ := hv i _ hxi
    rw [hvv] at hc
    have hc' := cell_below HM.out.bel hc
    clear hxi hvv hv hr hc
    have hltI : (i : Int) < (n : Int) := by omega
    have h0I : (0 : Int) ≤ (i : Int) := by omega
    have HX := Lib.hid hx
    clear hx
    go_enter Tryz.func119, Tryz.ntmps119
    go_wp2_with fail
    go_quiet (fail)
    go_wp2_with fail
    go_quiet (fail)
    go_wp2_with fail
    refine (HW0.out v _ hvb).mono ?_
    rintro e w1 ⟨rfl, rfl⟩
    go_wp2_with fail
    go_ret
    refine ⟨_, rfl, Int.emod_nonneg v (by omega), Int.emod_lt_of_pos v (by omega), HMK.out _ ⟨HM.out.blk, HM.out.hg, bl_drewN HM.out.bel _, HM.out.plan⟩, gb_setW (gb_drewN (gb_refl _ _) _) _ _⟩
  · have hltI : ¬ (i : Int) < (n : Int) := by omega
    go_enter Tryz.func119, Tryz.ntmps119
    go_wp2_with fail
    go_quiet (fail)
    go_wp2_with fail
    refine (HW0.out 0 _ (by omega)).mono ?_
    rintro e w1 ⟨rfl, rfl⟩
    go_wp2_with fail
    go_ret
    refine ⟨_, rfl, by simp, (by show 0 % of < of; rw [Int.zero_emod]; omega), HMK.out _ ⟨HM.out.blk, HM.out.hg, bl_drewN HM.out.bel _, HM.out.plan⟩, gb_setW (gb_drewN (gb_refl _ _) _) _ _⟩
end Go.Proofs.YtapbkomicihkkaaGreatDoor
