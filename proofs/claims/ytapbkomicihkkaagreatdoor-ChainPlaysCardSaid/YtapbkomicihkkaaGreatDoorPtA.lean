/- A plan's contract as a tree: the leaves. -/
import Derived.Test.YtapbkomicihkkaaGreatDoorPlanM
namespace Go.Proofs.YtapbkomicihkkaaGreatDoor
open Go.RowKit
set_option linter.unusedVariables false
set_option linter.unusedSimpArgs false

set_option maxRecDepth 100000 in
set_option maxHeartbeats 20000000 in
theorem pterm_a (w0 : World) (g : Nat) (vN vW : Value) (d : Nat) (ih : PtIh w0 g vN vW d) (hd : d ≤ 10) (w : World) (i : Nat) (l : Int) (b : Nat) (hm : Mk w0 g vN vW i l b w) (hi : i + cot d ≤ 1000000000) (hb : b + cot d ≤ 1000000000) (hl0 : -100 ≤ l) (hl1 : l ≤ 100) (hqq : qOf w0 vN i l d 13 = 0 ∨ qOf w0 vN i l d 13 = 1 ∨ qOf w0 vN i l d 13 = 2) :
    Calls Tryz.prog 88 #[.pointer (some ⟨g, 0, none⟩), .int .i64 d] w (TmPost w0 g vN vW i l b d w) := by
  have hcot := cot_two d
  have HQQ := Lib.hid hqq
  clear hqq
  unfold PtIh at ih
  have hco := co_two d
  have hmA := hm.alloc (.cells #[.int .i64 0, .string ⟨#[]⟩, .int .i64 0, .slice none 0 0] 33)
  have hkA := Blk.new w #[.int .i64 0, .string ⟨#[]⟩, .int .i64 0, .slice none 0 0] 33
  have hgA : w.grownBy (w.alloc (.cells #[.int .i64 0, .string ⟨#[]⟩, .int .i64 0, .slice none 0 0] 33)) (some g) := gb_alloc (gb_refl _ _) _
  have hrg : w.heap.size ≠ g := fun e => by have := hm.blk.lt; omega
  have hr0 := hm.bel.size
  obtain ⟨c3, z3⟩ := hmA.left
  obtain ⟨W1, hW1⟩ : ∃ W1, w.alloc (.cells #[.int .i64 0, .string ⟨#[]⟩, .int .i64 0, .slice none 0 0] 33) = W1 := ⟨_, rfl⟩
  rw [hW1] at hmA hkA hgA c3 z3
  have HW1 := Lib.hid hW1
  clear hW1
  have hn := n_det w0 (W1.setCell ⟨g, 3, none⟩ (.int .i64 (l - 1))) g vN vW i (l - 1) b (hmA.setL (l - 1)) (by omega) 13 (by omega)
  have HN := Lib.hid hn
  clear hn hm
  go_enter Tryz.func88, Tryz.ntmps88
  go_wp2_with (rw [HW1.out])
  refine HN.out.mono ?_
  rintro e w1 ⟨k, rfl, hk0, hk1, hm1, hg1, hkd⟩
  have HKD := Lib.hid hkd
  clear hkd
  have hkr := (hkA.far ⟨g, 3, none⟩ hrg (.int .i64 (l - 1))).grown hg1 (fun e => hrg (by injection e with e; exact e.symm))
  have hgW : w.grownBy w1 (some g) := gb_trans (gb_setW hgA 3 _) hg1
  clear c3 z3 HN HW1 hg1 hkA hgA hmA
  clear W1
  obtain ⟨c3, z3⟩ := hm1.left
  generalize hr : w.heap.size = r at *
  have HR := Lib.hid hr
  clear hr
  go_upto_region 3 with fail
  go_cut [31] (fun s24 wx => s24 = .bool (decide (d = 0 ∨ l ≤ 1)) ∧ wx = w1)
  case first =>
    by_cases h1 : d = 0
    · subst h1
      go_wp2_with fail
      go_meet
      exact ⟨by simp, rfl⟩
    · have h1I : ¬ ((d : Int) ≤ 0) := by omega
      by_cases h2 : l ≤ 1
      · have h2I : l - 1 ≤ 0 := by omega
        go_wp2_with fail
        go_meet
        exact ⟨by simp [h2], rfl⟩
      · have h2I : ¬ (l - 1 ≤ 0) := by omega
        go_wp2_with fail
        go_meet
        exact ⟨by simp [h1, h2], rfl⟩
  obtain ⟨rfl, rfl⟩ := hcut
  rename World => wA
  go_upto_if 31 with fail
  go_cut [5] (fun s5 wx => ∃ q : Nat, s5 = .int .i64 (q : Int) ∧ q < 13 ∧ ((d = 0 ∨ l ≤ 1) → q < 3) ∧ Hid ((q : Int) = qOf w0 vN i l d 13) ∧ wx = wA)
  case first =>
    by_cases hT : d = 0 ∨ l ≤ 1
    · have hTd : decide (d = 0 ∨ l ≤ 1) = true := decide_eq_true hT
      have hkt : k.tmod 3 = k % 3 := Int.tmod_eq_emod_of_nonneg hk0
      go_wp2_with fail
      go_meet
      exact ⟨(k % 3).toNat, by congr 1; omega, by omega, fun _ => by omega, Lib.hid (by unfold qOf; rw [if_pos hT, ← HKD.out]; omega), rfl⟩
    · have hTd : decide (d = 0 ∨ l ≤ 1) = false := decide_eq_false hT
      go_wp2_with fail
      go_meet
      exact ⟨k.toNat, by congr 1; omega, by omega, fun h => absurd h hT, Lib.hid (by unfold qOf; rw [if_neg hT, ← HKD.out]; omega), rfl⟩
  obtain ⟨q, rfl, hq, hq3, HQD, rfl⟩ := hcut
  clear hk0 hk1
  rename World => wB
  have hqq := HQQ.out
  rw [← HQD.out] at hqq
  clear HQQ HQD HKD
  go_upto_block 0 with fail
  have hmU := hm1.alloc (.cells #[.int .i64 0, .string ⟨#[]⟩, .int .i64 0, .slice none 0 0] 33)
  have hkrU := hkr.below (bl_alloc (bl_refl _) (.cells #[.int .i64 0, .string ⟨#[]⟩, .int .i64 0, .slice none 0 0] 33))
  have hkuU := Blk.new wB #[.int .i64 0, .string ⟨#[]⟩, .int .i64 0, .slice none 0 0] 33
  have hgU := gb_alloc hgW (.cells #[.int .i64 0, .string ⟨#[]⟩, .int .i64 0, .slice none 0 0] 33)
  have hru := hkr.lt
  have hgu := hm1.blk.lt
  have hUs := alloc_lt wB (.cells #[.int .i64 0, .string ⟨#[]⟩, .int .i64 0, .slice none 0 0] 33)
  clear c3 z3 hkr hm1 hgW
  generalize wB.alloc (.cells #[.int .i64 0, .string ⟨#[]⟩, .int .i64 0, .slice none 0 0] 33) = WU at *
  generalize wB.heap.size = u at *
  clear wB
  have hug : u ≠ g := by omega
  have hur : r ≠ u := by omega
  have h0u : w0.heap.size ≤ u := by omega
  have hwu : w.heap.size ≤ u := by rw [HR.out]; omega
  have hgs : (some g : Option Nat) ≠ some u := fun e => hug (by injection e with e; exact e.symm)
  have hgr : (some g : Option Nat) ≠ some r := fun e => hrg (by injection e with e; exact e.symm)
  obtain ⟨⟨k0, k1, k2, k3⟩, ⟨y0, y1, y2, y3⟩⟩ := hkuU.four
  go_cut [6] (fun s6 wx => s6 = .pointer (some ⟨u, 0, none⟩) ∧ ∃ t A c i' l' b', TmMid w0 g vN vW i l b d w r u t A c i' l' b' wx)
  case first =>
    obtain rfl | rfl | rfl : q = 0 ∨ q = 1 ∨ q = 2 := by omega
    ·
      have hn := word_calls w0 (WU.alloc (.cells #[.string ⟨#[117, 115, 100]⟩, .string ⟨#[101, 117, 114]⟩, .string ⟨#[103, 98, 112]⟩] 9)) g vN vW (i + 1) (l - 1) b (hmU.alloc _) (by omega) WU.heap.size (fun e => by omega) _ _ _ _ (Blk.new _ _ _) (by decide) (by decide) (by decide)
      go_wp2_with fail
      refine (hn).mono ?_
      rintro e w2 ⟨s, rfl, hss, hm2, hg2⟩
      have hg3 : w.grownBy w2 (some g) := gb_trans (gb_alloc hgU _) hg2
      have hkr2 := (hkrU.below (bl_alloc (bl_refl _) _)).grown hg2 hgr
      have hku2 := (hkuU.below (bl_alloc (bl_refl _) _)).grown hg2 hgs
      clear k0 k1 k2 k3 y0 y1 y2 y3
      obtain ⟨⟨k0, k1, k2, k3⟩, ⟨y0, y1, y2, y3⟩⟩ := hku2.four
      have HM2 := Lib.hid hm2; have HG3 := Lib.hid hg3; have HKR := Lib.hid hkr2; have HKU := Lib.hid hku2
      clear hn hm2 hg3 hkr2 hku2 hg2 hmU hgU
      go_wp2_with fail
      go_meet
      exact ⟨rfl, .one s, none, 0, i + 1 + 1, l - 1, b, mid_leaf (.one s) 2 s rfl rfl hss ((HKR.out.far _ hur _).far _ hur _) ((HKU.out.set 0 _).set 1 _) ((HM2.out.setN u 0 hug h0u _).setN u 1 hug h0u _) ⟨by omega, by omega⟩ (gb_setNew (gb_setNew HG3.out u 0 hwu _) u 1 hwu _)⟩
    ·
      have hn := word_calls w0 (WU.alloc (.cells #[.string ⟨#[117, 115, 100]⟩, .string ⟨#[101, 117, 114]⟩, .string ⟨#[103, 98, 112]⟩] 9)) g vN vW (i + 1) (l - 1) b (hmU.alloc _) (by omega) WU.heap.size (fun e => by omega) _ _ _ _ (Blk.new _ _ _) (by decide) (by decide) (by decide)
      go_wp2_with fail
      refine (hn).mono ?_
      rintro e w2 ⟨s, rfl, hss, hm2, hg2⟩
      have hg3 : w.grownBy w2 (some g) := gb_trans (gb_alloc hgU _) hg2
      have hkr2 := (hkrU.below (bl_alloc (bl_refl _) _)).grown hg2 hgr
      have hku2 := (hkuU.below (bl_alloc (bl_refl _) _)).grown hg2 hgs
      clear k0 k1 k2 k3 y0 y1 y2 y3
      obtain ⟨⟨k0, k1, k2, k3⟩, ⟨y0, y1, y2, y3⟩⟩ := hku2.four
      have HM2 := Lib.hid hm2; have HG3 := Lib.hid hg3; have HKR := Lib.hid hkr2; have HKU := Lib.hid hku2
      clear hn hm2 hg3 hkr2 hku2 hg2 hmU hgU
      go_wp2_with fail
      go_meet
      exact ⟨rfl, .one s, none, 0, i + 1 + 1, l - 1, b, mid_leaf (.one s) 2 s rfl rfl hss ((HKR.out.far _ hur _).far _ hur _) ((HKU.out.set 0 _).set 1 _) ((HM2.out.setN u 0 hug h0u _).setN u 1 hug h0u _) ⟨by omega, by omega⟩ (gb_setNew (gb_setNew HG3.out u 0 hwu _) u 1 hwu _)⟩
    ·
      have HM2 := Lib.hid hmU; have HG3 := Lib.hid hgU; have HKR := Lib.hid hkrU; have HKU := Lib.hid hkuU
      clear hmU hgU hkrU hkuU
      go_wp2_with fail
      go_meet
      exact ⟨rfl, .zero, none, 0, i + 1, l - 1, b, mid_leaf .zero 1 ⟨#[]⟩ rfl rfl trivial (HKR.out.far _ hur _) (HKU.out.set 0 _) (HM2.out.setN u 0 hug h0u _) ⟨by omega, by omega⟩ (gb_setNew HG3.out u 0 hwu _)⟩
  obtain ⟨rfl, t, A, c, i', l', b', hM⟩ := hcut
  rename World => wE
  clear k0 k1 k2 k3 y0 y1 y2 y3
  obtain ⟨⟨k0, k1, k2, k3⟩, ⟨y0, y1, y2, y3⟩⟩ := hM.loc.four
  obtain ⟨⟨m0, m1, m2, m3⟩, ⟨x0, x1, x2, x3⟩⟩ := hM.res.four
  have HM := Lib.hid hM
  clear hM
  go_wp2_with fail
  (try simp only [Exit.inBlock, Exit.then])
  refine bodyPost_ret (results_T rfl _ _ r _ _ _ _ _ rfl (HM.out.res.set4 _ _ _ _)) rfl ?_
  exact HM.out.post HR.out hrg hr0
end Go.Proofs.YtapbkomicihkkaaGreatDoor
