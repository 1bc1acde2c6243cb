/- A plan's contract as a tree: Scale. -/
import Derived.Test.YtapbkomicihkkaaGreatDoorPlanM
namespace Go.Proofs.YtapbkomicihkkaaGreatDoor
open Go.RowKit
set_option linter.unusedVariables false
set_option linter.unusedSimpArgs false

set_option maxRecDepth 100000 in
set_option maxHeartbeats 20000000 in
theorem pterm_e (w0 : World) (g : Nat) (vN vW : Value) (d : Nat) (ih : PtIh w0 g vN vW d) (hd : d ≤ 10) (w : World) (i : Nat) (l : Int) (b : Nat) (hm : Mk w0 g vN vW i l b w) (hi : i + cot d ≤ 1000000000) (hb : b + cot d ≤ 1000000000) (hl0 : -100 ≤ l) (hl1 : l ≤ 100) (hqq : qOf w0 vN i l d 13 = 9 ∨ qOf w0 vN i l d 13 = 10) :
    Calls Tryz.prog 88 #[.pointer (some ⟨g, 0, none⟩), .int .i64 d] w (TmPost w0 g vN vW i l b d w) := by
  have hcot := cot_two d
  have HQQ := Lib.hid hqq
  clear hqq
  unfold PtIh at ih
  have hco := co_two d
  have hmA := hm.alloc (.cells #[.int .i64 0, .string ⟨#[]⟩, .int .i64 0, .slice none 0 0] 33)
  have hkA := Blk.new w #[.int .i64 0, .string ⟨#[]⟩, .int .i64 0, .slice none 0 0] 33
  have hgA : w.grownBy (w.alloc (.cells #[.int .i64 0, .string ⟨#[]⟩, .int .i64 0, .slice none 0 0] 33)) (some g) := gb_alloc (gb_refl _ _) _
  have hrg : w.heap.size ≠ g := fun e => by have := hm.blk.lt; omega
  have hr0 := hm.bel.size
  obtain ⟨c3, z3⟩ := hmA.left
  obtain ⟨W1, hW1⟩ : ∃ W1, w.alloc (.cells #[.int .i64 0, .string ⟨#[]⟩, .int .i64 0, .slice none 0 0] 33) = W1 := ⟨_, rfl⟩
  rw [hW1] at hmA hkA hgA c3 z3
  have HW1 := Lib.hid hW1
  clear hW1
  have hn := n_det w0 (W1.setCell ⟨g, 3, none⟩ (.int .i64 (l - 1))) g vN vW i (l - 1) b (hmA.setL (l - 1)) (by omega) 13 (by omega)
  have HN := Lib.hid hn
  clear hn hm
  go_enter Tryz.func88, Tryz.ntmps88
  go_wp2_with (rw [HW1.out])
  refine HN.out.mono ?_
  rintro e w1 ⟨k, rfl, hk0, hk1, hm1, hg1, hkd⟩
  have HKD := Lib.hid hkd
  clear hkd
  have hkr := (hkA.far ⟨g, 3, none⟩ hrg (.int .i64 (l - 1))).grown hg1 (fun e => hrg (by injection e with e; exact e.symm))
  have hgW : w.grownBy w1 (some g) := gb_trans (gb_setW hgA 3 _) hg1
  clear c3 z3 HN HW1 hg1 hkA hgA hmA
  clear W1
  obtain ⟨c3, z3⟩ := hm1.left
  generalize hr : w.heap.size = r at *
  have HR := Lib.hid hr
  clear hr
  go_upto_region 3 with fail
  go_cut [31] (fun s24 wx => s24 = .bool (decide (d = 0 ∨ l ≤ 1)) ∧ wx = w1)
  case first =>
    by_cases h1 : d = 0
    · subst h1
      go_wp2_with fail
      go_meet
      exact ⟨by simp, rfl⟩
    · have h1I : ¬ ((d : Int) ≤ 0) := by omega
      by_cases h2 : l ≤ 1
      · have h2I : l - 1 ≤ 0 := by omega
        go_wp2_with fail
        go_meet
        exact ⟨by simp [h2], rfl⟩
      · have h2I : ¬ (l - 1 ≤ 0) := by omega
        go_wp2_with fail
        go_meet
        exact ⟨by simp [h1, h2], rfl⟩
  obtain ⟨rfl, rfl⟩ := hcut
  rename World => wA
  go_upto_if 31 with fail
  go_cut [5] (fun s5 wx => ∃ q : Nat, s5 = .int .i64 (q : Int) ∧ q < 13 ∧ ((d = 0 ∨ l ≤ 1) → q < 3) ∧ Hid ((q : Int) = qOf w0 vN i l d 13) ∧ wx = wA)
  case first =>
    by_cases hT : d = 0 ∨ l ≤ 1
    · have hTd : decide (d = 0 ∨ l ≤ 1) = true := decide_eq_true hT
      have hkt : k.tmod 3 = k % 3 := Int.tmod_eq_emod_of_nonneg hk0
      go_wp2_with fail
      go_meet
      exact ⟨(k % 3).toNat, by congr 1; omega, by omega, fun _ => by omega, Lib.hid (by unfold qOf; rw [if_pos hT, ← HKD.out]; omega), rfl⟩
    · have hTd : decide (d = 0 ∨ l ≤ 1) = false := decide_eq_false hT
      go_wp2_with fail
      go_meet
      exact ⟨k.toNat, by congr 1; omega, by omega, fun h => absurd h hT, Lib.hid (by unfold qOf; rw [if_neg hT, ← HKD.out]; omega), rfl⟩
  obtain ⟨q, rfl, hq, hq3, HQD, rfl⟩ := hcut
  clear hk0 hk1
  rename World => wB
  have hqq := HQQ.out
  rw [← HQD.out] at hqq
  clear HQQ HQD HKD
  go_upto_block 0 with fail
  have hmU := hm1.alloc (.cells #[.int .i64 0, .string ⟨#[]⟩, .int .i64 0, .slice none 0 0] 33)
  have hkrU := hkr.below (bl_alloc (bl_refl _) (.cells #[.int .i64 0, .string ⟨#[]⟩, .int .i64 0, .slice none 0 0] 33))
  have hkuU := Blk.new wB #[.int .i64 0, .string ⟨#[]⟩, .int .i64 0, .slice none 0 0] 33
  have hgU := gb_alloc hgW (.cells #[.int .i64 0, .string ⟨#[]⟩, .int .i64 0, .slice none 0 0] 33)
  have hru := hkr.lt
  have hgu := hm1.blk.lt
  have hUs := alloc_lt wB (.cells #[.int .i64 0, .string ⟨#[]⟩, .int .i64 0, .slice none 0 0] 33)
  clear c3 z3 hkr hm1 hgW
  generalize wB.alloc (.cells #[.int .i64 0, .string ⟨#[]⟩, .int .i64 0, .slice none 0 0] 33) = WU at *
  generalize wB.heap.size = u at *
  clear wB
  have hug : u ≠ g := by omega
  have hur : r ≠ u := by omega
  have h0u : w0.heap.size ≤ u := by omega
  have hwu : w.heap.size ≤ u := by rw [HR.out]; omega
  have hgs : (some g : Option Nat) ≠ some u := fun e => hug (by injection e with e; exact e.symm)
  have hgr : (some g : Option Nat) ≠ some r := fun e => hrg (by injection e with e; exact e.symm)
  obtain ⟨⟨k0, k1, k2, k3⟩, ⟨y0, y1, y2, y3⟩⟩ := hkuU.four
  go_cut [6] (fun s6 wx => s6 = .pointer (some ⟨u, 0, none⟩) ∧ ∃ t A c i' l' b', TmMid w0 g vN vW i l b d w r u t A c i' l' b' wx)
  case first =>
    obtain rfl | rfl : q = 9 ∨ q = 10 := by omega
    ·
      obtain ⟨e, rfl⟩ : ∃ e, d = e + 1 := ⟨d - 1, by omega⟩
      have hce : cot (e + 1) = 2 * cot e + 20 := rfl
      have hwe : IntKind.i64.wrap (e : Int) = (e : Int) := IntWalk.i64_in _ (by omega)
      have hl2 : 2 ≤ l := by omega
      obtain ⟨e2, he2, he3, he4⟩ : ∃ e2 : Nat, min (e : Int) 2 = (e2 : Int) ∧ e2 ≤ 2 ∧ e2 ≤ e := ⟨min e 2, by omega, by omega, by omega⟩
      have hco2 := co_le e2 he3
      have hn := pobs_calls w0 g vN vW b e2 (by omega) WU (i + 1) (l - 1) hmU (by omega) (by omega) (by omega)
      unfold ObsPost at hn
      go_wp2_with fail
      refine (hn).mono ?_
      rintro en w2 ⟨o, v, i2, l2, rfl, ht, hf, hm2, hmd⟩
      obtain ⟨b2, hbb, hb2⟩ : ∃ b2 : Nat, b2 = b ∧ b ≤ b2 ∧ b2 ≤ b + cot e := ⟨b, rfl, by omega, by omega⟩
      rw [← hbb] at hm2
      obtain ⟨A, c, cs, rfl, -, -⟩ := ht.open_
      have hkr2 := hkrU.grown hmd.gb hgr
      have hku2 := hkuU.grown hmd.gb hgs
      clear k0 k1 k2 k3 y0 y1 y2 y3
      have hg3 : w.grownBy w2 (some g) := gb_trans hgU hmd.gb
      have hsz := hmd.gb.size
      have hgl := hm2.blk.lt
      have hkl := hku2.lt
      have hkrA := hkr2.below (bl_alloc (bl_refl _) (.cells #[.int .i64 o.tr.kind, .string o.tr.s, .int .i64 o.tr.n, .slice A o.tr.ks.length c] 33))
      have hkuA := hku2.below (bl_alloc (bl_refl _) (.cells #[.int .i64 o.tr.kind, .string o.tr.s, .int .i64 o.tr.n, .slice A o.tr.ks.length c] 33))
      have hmA := hm2.alloc (.cells #[.int .i64 o.tr.kind, .string o.tr.s, .int .i64 o.tr.n, .slice A o.tr.ks.length c] 33)
      have hkA := Blk.new w2 #[.int .i64 o.tr.kind, .string o.tr.s, .int .i64 o.tr.n, .slice A o.tr.ks.length c] 33
      have HWA := alloc_lt w2 (.cells #[.int .i64 o.tr.kind, .string o.tr.s, .int .i64 o.tr.n, .slice A o.tr.ks.length c] 33)
      have hbWA := bl_alloc (bl_refl w2) (.cells #[.int .i64 o.tr.kind, .string o.tr.s, .int .i64 o.tr.n, .slice A o.tr.ks.length c] 33)
      have hgA := gb_alloc hg3 (.cells #[.int .i64 o.tr.kind, .string o.tr.s, .int .i64 o.tr.n, .slice A o.tr.ks.length c] 33)
      obtain ⟨WA, hWA⟩ : ∃ WA, w2.alloc (.cells #[.int .i64 o.tr.kind, .string o.tr.s, .int .i64 o.tr.n, .slice A o.tr.ks.length c] 33) = WA := ⟨_, rfl⟩
      rw [hWA] at hmA hkA HWA hkrA hkuA hbWA hgA
      have HTA := Lib.hid (ht.below hbWA)
      have HW := Lib.hid hWA; have HMD := Lib.hid hmd; have HF := Lib.hid hf
      clear hWA hn hkrU hkuU hkr2 hku2 hmU hgU hg3 hm2 hmd ht hf hbWA
      have hn1 := HMD.out.lo; have hn2 := HMD.out.hi; have hn3 := HMD.out.cnt; have hn4 := HMD.out.low (by omega)
      have hih : ∀ W, Mk w0 g vN vW i2 l2 b2 W → Calls Tryz.prog 88 #[.pointer (some ⟨g, 0, none⟩), .int .i64 e] W (TmPost w0 g vN vW i2 l2 b2 e W) := fun W hW => ih e (by omega) (by omega) W i2 l2 b2 hW (by omega) (by omega) (by omega) (by omega)
      unfold TmPost at hih
      have HIH := Lib.hid hih; have HCE := Lib.hid hce; have HCO := Lib.hid hco2
      clear hih ih hn1 hn2 hn3 hn4 hce hco2
      go_upto_region 33 with (rw [HW.out])
      generalize hq : w2.heap.size = qa at *
      have HQ := Lib.hid hq
      clear hq
      have hS0 : WA.drew.cell? ⟨qa, 0, none⟩ = some (.int .i64 o.tr.kind) ∧ WA.drew.cell? ⟨qa, 1, none⟩ = some (.string o.tr.s) ∧ WA.drew.cell? ⟨qa, 2, none⟩ = some (.int .i64 o.tr.n) ∧ WA.drew.cell? ⟨qa, 3, none⟩ = some (.slice A o.tr.ks.length c) := (hkA.four).1
      obtain ⟨⟨k0, k1, k2, k3⟩, ⟨y0, y1, y2, y3⟩⟩ := hkuA.four
      have hqg : qa ≠ g := by omega
      have hqu : qa ≠ u := by omega
      have HGA := Lib.hid hgA
      clear hgA
      go_region_held3 (fun w' => w'.cell? ⟨qa, 0, none⟩ = some (.int .i64 o.tr.kind) ∧ w'.cell? ⟨qa, 1, none⟩ = some (.string o.tr.s) ∧ w'.cell? ⟨qa, 2, none⟩ = some (.int .i64 o.tr.n) ∧ w'.cell? ⟨qa, 3, none⟩ = some (.slice A o.tr.ks.length c)) (with_reducible (first | exact hS0 | exact hB4 | exact four_alloc _ hB4 | exact four_set1 hqu _ _ hB4 | exact four_set1 hqu _ _ (four_set1 hqu _ _ hB4) | exact four_set1 hqu _ _ (four_set1 hqu _ _ (four_set1 hqu _ _ hB4)) | exact four_alloc _ (four_set1 hqu _ _ hB4) | exact four_alloc _ (four_set1 hqu _ _ (four_set1 hqu _ _ hB4)) | exact four_alloc _ (four_set1 hqu _ _ (four_set1 hqu _ _ (four_set1 hqu _ _ hB4))))) ((go_at_call 88; refine (HIH.out _ (hmA.below (bl_drew (bl_refl _)))).mono ?_; rintro en w4 ⟨p, v2, i3, l3, b3, rfl, ht2, hf2, hm4, hb3, hmd2⟩; obtain ⟨B, d2, cs2, rfl, -, -⟩ := ht2.open_; have hB4 := four_gb hmd2.gb hqg hS0; have hkr4 := Blk.grown (hkrA.below (bl_drew (bl_refl _))) hmd2.gb hgr; have hku4 := Blk.grown (hkuA.below (bl_drew (bl_refl _))) hmd2.gb hgs; have hlt5 := hku4.lt; have hsz4 : WA.heap.size ≤ w4.heap.size := hmd2.gb.size; clear k0 k1 k2 k3 y0 y1 y2 y3; obtain ⟨⟨k0, k1, k2, k3⟩, ⟨y0, y1, y2, y3⟩⟩ := hku4.four; have HT4 := Lib.hid ((HTA.out.below (bl_drew (bl_refl _))).grown hmd2.gb (by omega)); have HT2 := Lib.hid (ht2.mono (y := WU.heap.size) (by show _ ≤ WA.heap.size; omega)); have HG4 := Lib.hid (gb_trans (gb_drew HGA.out) hmd2.gb); have HM4 := Lib.hid hm4; have HMD2 := Lib.hid hmd2; have HKR4 := Lib.hid hkr4; have HKU4 := Lib.hid hku4; have HB3 := Lib.hid hb3; clear hmd2 hm4 hkr4 hku4 ht2 hb3))
      all_goals
        go_wp2_with fail
        go_meet
        have hnew := RowOf.new (x := r + 1) (Blk_new ((w4.setCell ⟨u, 0, none⟩ (.int .i64 6)).setCell ⟨u, 3, none⟩ (.slice (some ⟨w4.heap.size, 0, none⟩) 2 2)) #[.int .i64 o.tr.kind, .string o.tr.s, .int .i64 o.tr.n, .slice A o.tr.ks.length c, .int .i64 p.tr.kind, .string p.tr.s, .int .i64 p.tr.n, .slice B p.tr.ks.length d2] 33 w4.heap.size (size_set2 _ _ _ _ _).symm) (by omega)
        have hM := HMD.out; have hM2 := HMD2.out
        have h1 := hM.lo; have h2 := hM.hi; have h3 := hM.cnt; have h4 := hM.low (by omega)
        have g1 := hM2.lo; have g2 := hM2.hi; have g3 := hM2.cnt; have g4 := hM2.low; have g5 := hM2.one; have hce := HCE.out; have hco2 := HCO.out; have hb3 := HB3.out
        have hG := gb_alloc (gb_setNew (gb_setNew HG4.out u 0 hwu (.int .i64 6)) u 3 hwu (.slice (some ⟨w4.heap.size, 0, none⟩) 2 2)) (.cells #[.int .i64 o.tr.kind, .string o.tr.s, .int .i64 o.tr.n, .slice A o.tr.ks.length c, .int .i64 p.tr.kind, .string p.tr.s, .int .i64 p.tr.n, .slice B p.tr.ks.length d2] 33)
        have hts := TrsAt.cons ((((HT4.out.setN (g := u) (by omega) 0 (.int .i64 6)).setN (g := u) (by omega) 3 (.slice (some ⟨w4.heap.size, 0, none⟩) 2 2)).below (bl_alloc (bl_refl _) (.cells #[.int .i64 o.tr.kind, .string o.tr.s, .int .i64 o.tr.n, .slice A o.tr.ks.length c, .int .i64 p.tr.kind, .string p.tr.s, .int .i64 p.tr.n, .slice B p.tr.ks.length d2] 33))).mono (y := r + 1) (by omega)) (TrsAt.cons ((((HT2.out.setN (g := u) (by omega) 0 (.int .i64 6)).setN (g := u) (by omega) 3 (.slice (some ⟨w4.heap.size, 0, none⟩) 2 2)).below (bl_alloc (bl_refl _) (.cells #[.int .i64 o.tr.kind, .string o.tr.s, .int .i64 o.tr.n, .slice A o.tr.ks.length c, .int .i64 p.tr.kind, .string p.tr.s, .int .i64 p.tr.n, .slice B p.tr.ks.length d2] 33))).mono (y := r + 1) (by omega)) (TrsAt.nil _ _))
        have hmk := ((HM4.out.setN u 0 hug h0u (.int .i64 6)).setN u 3 hug h0u (.slice (some ⟨w4.heap.size, 0, none⟩) 2 2)).alloc (.cells #[.int .i64 o.tr.kind, .string o.tr.s, .int .i64 o.tr.n, .slice A o.tr.ks.length c, .int .i64 p.tr.kind, .string p.tr.s, .int .i64 p.tr.n, .slice B p.tr.ks.length d2] 33)
        have hres := ((HKR4.out.far ⟨u, 0, none⟩ hur (.int .i64 6)).far ⟨u, 3, none⟩ hur (.slice (some ⟨w4.heap.size, 0, none⟩) 2 2)).below (bl_alloc (bl_refl _) (.cells #[.int .i64 o.tr.kind, .string o.tr.s, .int .i64 o.tr.n, .slice A o.tr.ks.length c, .int .i64 p.tr.kind, .string p.tr.s, .int .i64 p.tr.n, .slice B p.tr.ks.length d2] 33))
        have hloc := ((HKU4.out.set 0 (.int .i64 6)).set 3 (.slice (some ⟨w4.heap.size, 0, none⟩) 2 2)).below (bl_alloc (bl_refl _) (.cells #[.int .i64 o.tr.kind, .string o.tr.s, .int .i64 o.tr.n, .slice A o.tr.ks.length c, .int .i64 p.tr.kind, .string p.tr.s, .int .i64 p.tr.n, .slice B p.tr.ks.length d2] 33))
        refine ⟨rfl, _, _, _, _, _, _, mid_row (.scale o p) 6 ⟨#[]⟩ 0 [o.tr, p.tr] 2 rfl rfl ⟨HF.out, hf2⟩ hres hloc hnew hts hmk ⟨by omega, by omega⟩ ⟨by omega, by omega, by unfold Tm.parts; omega, fun h => by omega, fun h => ?_, hG⟩⟩
        by_cases hh : 1 ≤ l2
        · have := g4 hh; omega
        · have := g5 (by omega); omega
    ·
      obtain ⟨e, rfl⟩ : ∃ e, d = e + 1 := ⟨d - 1, by omega⟩
      have hce : cot (e + 1) = 2 * cot e + 20 := rfl
      have hwe : IntKind.i64.wrap (e : Int) = (e : Int) := IntWalk.i64_in _ (by omega)
      have hl2 : 2 ≤ l := by omega
      obtain ⟨e2, he2, he3, he4⟩ : ∃ e2 : Nat, min (e : Int) 2 = (e2 : Int) ∧ e2 ≤ 2 ∧ e2 ≤ e := ⟨min e 2, by omega, by omega, by omega⟩
      have hco2 := co_le e2 he3
      have hn := pobs_calls w0 g vN vW b e2 (by omega) WU (i + 1) (l - 1) hmU (by omega) (by omega) (by omega)
      unfold ObsPost at hn
      go_wp2_with fail
      refine (hn).mono ?_
      rintro en w2 ⟨o, v, i2, l2, rfl, ht, hf, hm2, hmd⟩
      obtain ⟨b2, hbb, hb2⟩ : ∃ b2 : Nat, b2 = b ∧ b ≤ b2 ∧ b2 ≤ b + cot e := ⟨b, rfl, by omega, by omega⟩
      rw [← hbb] at hm2
      obtain ⟨A, c, cs, rfl, -, -⟩ := ht.open_
      have hkr2 := hkrU.grown hmd.gb hgr
      have hku2 := hkuU.grown hmd.gb hgs
      clear k0 k1 k2 k3 y0 y1 y2 y3
      have hg3 : w.grownBy w2 (some g) := gb_trans hgU hmd.gb
      have hsz := hmd.gb.size
      have hgl := hm2.blk.lt
      have hkl := hku2.lt
      have hkrA := hkr2.below (bl_alloc (bl_refl _) (.cells #[.int .i64 o.tr.kind, .string o.tr.s, .int .i64 o.tr.n, .slice A o.tr.ks.length c] 33))
      have hkuA := hku2.below (bl_alloc (bl_refl _) (.cells #[.int .i64 o.tr.kind, .string o.tr.s, .int .i64 o.tr.n, .slice A o.tr.ks.length c] 33))
      have hmA := hm2.alloc (.cells #[.int .i64 o.tr.kind, .string o.tr.s, .int .i64 o.tr.n, .slice A o.tr.ks.length c] 33)
      have hkA := Blk.new w2 #[.int .i64 o.tr.kind, .string o.tr.s, .int .i64 o.tr.n, .slice A o.tr.ks.length c] 33
      have HWA := alloc_lt w2 (.cells #[.int .i64 o.tr.kind, .string o.tr.s, .int .i64 o.tr.n, .slice A o.tr.ks.length c] 33)
      have hbWA := bl_alloc (bl_refl w2) (.cells #[.int .i64 o.tr.kind, .string o.tr.s, .int .i64 o.tr.n, .slice A o.tr.ks.length c] 33)
      have hgA := gb_alloc hg3 (.cells #[.int .i64 o.tr.kind, .string o.tr.s, .int .i64 o.tr.n, .slice A o.tr.ks.length c] 33)
      obtain ⟨WA, hWA⟩ : ∃ WA, w2.alloc (.cells #[.int .i64 o.tr.kind, .string o.tr.s, .int .i64 o.tr.n, .slice A o.tr.ks.length c] 33) = WA := ⟨_, rfl⟩
      rw [hWA] at hmA hkA HWA hkrA hkuA hbWA hgA
      have HTA := Lib.hid (ht.below hbWA)
      have HW := Lib.hid hWA; have HMD := Lib.hid hmd; have HF := Lib.hid hf
      clear hWA hn hkrU hkuU hkr2 hku2 hmU hgU hg3 hm2 hmd ht hf hbWA
      have hn1 := HMD.out.lo; have hn2 := HMD.out.hi; have hn3 := HMD.out.cnt; have hn4 := HMD.out.low (by omega)
      have hih : ∀ W, Mk w0 g vN vW i2 l2 b2 W → Calls Tryz.prog 88 #[.pointer (some ⟨g, 0, none⟩), .int .i64 e] W (TmPost w0 g vN vW i2 l2 b2 e W) := fun W hW => ih e (by omega) (by omega) W i2 l2 b2 hW (by omega) (by omega) (by omega) (by omega)
      unfold TmPost at hih
      have HIH := Lib.hid hih; have HCE := Lib.hid hce; have HCO := Lib.hid hco2
      clear hih ih hn1 hn2 hn3 hn4 hce hco2
      go_upto_region 33 with (rw [HW.out])
      generalize hq : w2.heap.size = qa at *
      have HQ := Lib.hid hq
      clear hq
      have hS0 : WA.drew.cell? ⟨qa, 0, none⟩ = some (.int .i64 o.tr.kind) ∧ WA.drew.cell? ⟨qa, 1, none⟩ = some (.string o.tr.s) ∧ WA.drew.cell? ⟨qa, 2, none⟩ = some (.int .i64 o.tr.n) ∧ WA.drew.cell? ⟨qa, 3, none⟩ = some (.slice A o.tr.ks.length c) := (hkA.four).1
      obtain ⟨⟨k0, k1, k2, k3⟩, ⟨y0, y1, y2, y3⟩⟩ := hkuA.four
      have hqg : qa ≠ g := by omega
      have hqu : qa ≠ u := by omega
      have HGA := Lib.hid hgA
      clear hgA
      go_region_held3 (fun w' => w'.cell? ⟨qa, 0, none⟩ = some (.int .i64 o.tr.kind) ∧ w'.cell? ⟨qa, 1, none⟩ = some (.string o.tr.s) ∧ w'.cell? ⟨qa, 2, none⟩ = some (.int .i64 o.tr.n) ∧ w'.cell? ⟨qa, 3, none⟩ = some (.slice A o.tr.ks.length c)) (with_reducible (first | exact hS0 | exact hB4 | exact four_alloc _ hB4 | exact four_set1 hqu _ _ hB4 | exact four_set1 hqu _ _ (four_set1 hqu _ _ hB4) | exact four_set1 hqu _ _ (four_set1 hqu _ _ (four_set1 hqu _ _ hB4)) | exact four_alloc _ (four_set1 hqu _ _ hB4) | exact four_alloc _ (four_set1 hqu _ _ (four_set1 hqu _ _ hB4)) | exact four_alloc _ (four_set1 hqu _ _ (four_set1 hqu _ _ (four_set1 hqu _ _ hB4))))) ((go_at_call 88; refine (HIH.out _ (hmA.below (bl_drew (bl_refl _)))).mono ?_; rintro en w4 ⟨p, v2, i3, l3, b3, rfl, ht2, hf2, hm4, hb3, hmd2⟩; obtain ⟨B, d2, cs2, rfl, -, -⟩ := ht2.open_; have hB4 := four_gb hmd2.gb hqg hS0; have hkr4 := Blk.grown (hkrA.below (bl_drew (bl_refl _))) hmd2.gb hgr; have hku4 := Blk.grown (hkuA.below (bl_drew (bl_refl _))) hmd2.gb hgs; have hlt5 := hku4.lt; have hsz4 : WA.heap.size ≤ w4.heap.size := hmd2.gb.size; clear k0 k1 k2 k3 y0 y1 y2 y3; obtain ⟨⟨k0, k1, k2, k3⟩, ⟨y0, y1, y2, y3⟩⟩ := hku4.four; have HT4 := Lib.hid ((HTA.out.below (bl_drew (bl_refl _))).grown hmd2.gb (by omega)); have HT2 := Lib.hid (ht2.mono (y := WU.heap.size) (by show _ ≤ WA.heap.size; omega)); have HG4 := Lib.hid (gb_trans (gb_drew HGA.out) hmd2.gb); have HM4 := Lib.hid hm4; have HMD2 := Lib.hid hmd2; have HKR4 := Lib.hid hkr4; have HKU4 := Lib.hid hku4; have HB3 := Lib.hid hb3; clear hmd2 hm4 hkr4 hku4 ht2 hb3))
      all_goals
        go_wp2_with fail
        go_meet
        have hnew := RowOf.new (x := r + 1) (Blk_new ((w4.setCell ⟨u, 0, none⟩ (.int .i64 6)).setCell ⟨u, 3, none⟩ (.slice (some ⟨w4.heap.size, 0, none⟩) 2 2)) #[.int .i64 o.tr.kind, .string o.tr.s, .int .i64 o.tr.n, .slice A o.tr.ks.length c, .int .i64 p.tr.kind, .string p.tr.s, .int .i64 p.tr.n, .slice B p.tr.ks.length d2] 33 w4.heap.size (size_set2 _ _ _ _ _).symm) (by omega)
        have hM := HMD.out; have hM2 := HMD2.out
        have h1 := hM.lo; have h2 := hM.hi; have h3 := hM.cnt; have h4 := hM.low (by omega)
        have g1 := hM2.lo; have g2 := hM2.hi; have g3 := hM2.cnt; have g4 := hM2.low; have g5 := hM2.one; have hce := HCE.out; have hco2 := HCO.out; have hb3 := HB3.out
        have hG := gb_alloc (gb_setNew (gb_setNew HG4.out u 0 hwu (.int .i64 6)) u 3 hwu (.slice (some ⟨w4.heap.size, 0, none⟩) 2 2)) (.cells #[.int .i64 o.tr.kind, .string o.tr.s, .int .i64 o.tr.n, .slice A o.tr.ks.length c, .int .i64 p.tr.kind, .string p.tr.s, .int .i64 p.tr.n, .slice B p.tr.ks.length d2] 33)
        have hts := TrsAt.cons ((((HT4.out.setN (g := u) (by omega) 0 (.int .i64 6)).setN (g := u) (by omega) 3 (.slice (some ⟨w4.heap.size, 0, none⟩) 2 2)).below (bl_alloc (bl_refl _) (.cells #[.int .i64 o.tr.kind, .string o.tr.s, .int .i64 o.tr.n, .slice A o.tr.ks.length c, .int .i64 p.tr.kind, .string p.tr.s, .int .i64 p.tr.n, .slice B p.tr.ks.length d2] 33))).mono (y := r + 1) (by omega)) (TrsAt.cons ((((HT2.out.setN (g := u) (by omega) 0 (.int .i64 6)).setN (g := u) (by omega) 3 (.slice (some ⟨w4.heap.size, 0, none⟩) 2 2)).below (bl_alloc (bl_refl _) (.cells #[.int .i64 o.tr.kind, .string o.tr.s, .int .i64 o.tr.n, .slice A o.tr.ks.length c, .int .i64 p.tr.kind, .string p.tr.s, .int .i64 p.tr.n, .slice B p.tr.ks.length d2] 33))).mono (y := r + 1) (by omega)) (TrsAt.nil _ _))
        have hmk := ((HM4.out.setN u 0 hug h0u (.int .i64 6)).setN u 3 hug h0u (.slice (some ⟨w4.heap.size, 0, none⟩) 2 2)).alloc (.cells #[.int .i64 o.tr.kind, .string o.tr.s, .int .i64 o.tr.n, .slice A o.tr.ks.length c, .int .i64 p.tr.kind, .string p.tr.s, .int .i64 p.tr.n, .slice B p.tr.ks.length d2] 33)
        have hres := ((HKR4.out.far ⟨u, 0, none⟩ hur (.int .i64 6)).far ⟨u, 3, none⟩ hur (.slice (some ⟨w4.heap.size, 0, none⟩) 2 2)).below (bl_alloc (bl_refl _) (.cells #[.int .i64 o.tr.kind, .string o.tr.s, .int .i64 o.tr.n, .slice A o.tr.ks.length c, .int .i64 p.tr.kind, .string p.tr.s, .int .i64 p.tr.n, .slice B p.tr.ks.length d2] 33))
        have hloc := ((HKU4.out.set 0 (.int .i64 6)).set 3 (.slice (some ⟨w4.heap.size, 0, none⟩) 2 2)).below (bl_alloc (bl_refl _) (.cells #[.int .i64 o.tr.kind, .string o.tr.s, .int .i64 o.tr.n, .slice A o.tr.ks.length c, .int .i64 p.tr.kind, .string p.tr.s, .int .i64 p.tr.n, .slice B p.tr.ks.length d2] 33))
        refine ⟨rfl, _, _, _, _, _, _, mid_row (.scale o p) 6 ⟨#[]⟩ 0 [o.tr, p.tr] 2 rfl rfl ⟨HF.out, hf2⟩ hres hloc hnew hts hmk ⟨by omega, by omega⟩ ⟨by omega, by omega, by unfold Tm.parts; omega, fun h => by omega, fun h => ?_, hG⟩⟩
        by_cases hh : 1 ≤ l2
        · have := g4 hh; omega
        · have := g5 (by omega); omega
  obtain ⟨rfl, t, A, c, i', l', b', hM⟩ := hcut
  rename World => wE
  clear k0 k1 k2 k3 y0 y1 y2 y3
  obtain ⟨⟨k0, k1, k2, k3⟩, ⟨y0, y1, y2, y3⟩⟩ := hM.loc.four
  obtain ⟨⟨m0, m1, m2, m3⟩, ⟨x0, x1, x2, x3⟩⟩ := hM.res.four
  have HM := Lib.hid hM
  clear hM
  go_wp2_with fail
  (try simp only [Exit.inBlock, Exit.then])
  refine bodyPost_ret (results_T rfl _ _ r _ _ _ _ _ rfl (HM.out.res.set4 _ _ _ _)) rfl ?_
  exact HM.out.post HR.out hrg hr0
end Go.Proofs.YtapbkomicihkkaaGreatDoor
