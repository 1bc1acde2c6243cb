/- A plan's contract as a tree: If. -/
import Derived.Test.YtapbkomicihkkaaGreatDoorPlanM
namespace Go.Proofs.YtapbkomicihkkaaGreatDoor
open Go.RowKit
set_option linter.unusedVariables false
set_option linter.unusedSimpArgs false

set_option maxRecDepth 100000 in
set_option maxHeartbeats 20000000 in
theorem pterm_f (w0 : World) (g : Nat) (vN vW : Value) (d : Nat) (ih : PtIh w0 g vN vW d) (hd : d ≤ 10) (w : World) (i : Nat) (l : Int) (b : Nat) (hm : Mk w0 g vN vW i l b w) (hi : i + cot d ≤ 1000000000) (hb : b + cot d ≤ 1000000000) (hl0 : -100 ≤ l) (hl1 : l ≤ 100) (hqq : qOf w0 vN i l d 13 = 12) :
    Calls Tryz.prog 88 #[.pointer (some ⟨g, 0, none⟩), .int .i64 d] w (TmPost w0 g vN vW i l b d w) := by
  have hcot := cot_two d
  have HQQ := Lib.hid hqq
  clear hqq
  unfold PtIh at ih
  have hco := co_two d
  have hmA := hm.alloc (.cells #[.int .i64 0, .string ⟨#[]⟩, .int .i64 0, .slice none 0 0] 33)
  have hkA := Blk.new w #[.int .i64 0, .string ⟨#[]⟩, .int .i64 0, .slice none 0 0] 33
  have hgA : w.grownBy (w.alloc (.cells #[.int .i64 0, .string ⟨#[]⟩, .int .i64 0, .slice none 0 0] 33)) (some g) := gb_alloc (gb_refl _ _) _
  have hrg : w.heap.size ≠ g := fun e => by have := hm.blk.lt; omega
  have hr0 := hm.bel.size
  obtain ⟨c3, z3⟩ := hmA.left
  obtain ⟨W1, hW1⟩ : ∃ W1, w.alloc (.cells #[.int .i64 0, .string ⟨#[]⟩, .int .i64 0, .slice none 0 0] 33) = W1 := ⟨_, rfl⟩
  rw [hW1] at hmA hkA hgA c3 z3
  have HW1 := Lib.hid hW1
  clear hW1
  have hn := n_det w0 (W1.setCell ⟨g, 3, none⟩ (.int .i64 (l - 1))) g vN vW i (l - 1) b (hmA.setL (l - 1)) (by omega) 13 (by omega)
  have HN := Lib.hid hn
  clear hn hm
  go_enter Tryz.func88, Tryz.ntmps88
  go_wp2_with (rw [HW1.out])
  refine HN.out.mono ?_
  rintro e w1 ⟨k, rfl, hk0, hk1, hm1, hg1, hkd⟩
  have HKD := Lib.hid hkd
  clear hkd
  have hkr := (hkA.far ⟨g, 3, none⟩ hrg (.int .i64 (l - 1))).grown hg1 (fun e => hrg (by injection e with e; exact e.symm))
  have hgW : w.grownBy w1 (some g) := gb_trans (gb_setW hgA 3 _) hg1
  clear c3 z3 HN HW1 hg1 hkA hgA hmA
  clear W1
  obtain ⟨c3, z3⟩ := hm1.left
  generalize hr : w.heap.size = r at *
  have HR := Lib.hid hr
  clear hr
  go_upto_region 3 with fail
  go_cut [31] (fun s24 wx => s24 = .bool (decide (d = 0 ∨ l ≤ 1)) ∧ wx = w1)
  case first =>
    by_cases h1 : d = 0
    · subst h1
      go_wp2_with fail
      go_meet
      exact ⟨by simp, rfl⟩
    · have h1I : ¬ ((d : Int) ≤ 0) := by omega
      by_cases h2 : l ≤ 1
      · have h2I : l - 1 ≤ 0 := by omega
        go_wp2_with fail
        go_meet
        exact ⟨by simp [h2], rfl⟩
      · have h2I : ¬ (l - 1 ≤ 0) := by omega
        go_wp2_with fail
        go_meet
        exact ⟨by simp [h1, h2], rfl⟩
  obtain ⟨rfl, rfl⟩ := hcut
  rename World => wA
  go_upto_if 31 with fail
  go_cut [5] (fun s5 wx => ∃ q : Nat, s5 = .int .i64 (q : Int) ∧ q < 13 ∧ ((d = 0 ∨ l ≤ 1) → q < 3) ∧ Hid ((q : Int) = qOf w0 vN i l d 13) ∧ wx = wA)
  case first =>
    by_cases hT : d = 0 ∨ l ≤ 1
    · have hTd : decide (d = 0 ∨ l ≤ 1) = true := decide_eq_true hT
      have hkt : k.tmod 3 = k % 3 := Int.tmod_eq_emod_of_nonneg hk0
      go_wp2_with fail
      go_meet
      exact ⟨(k % 3).toNat, by congr 1; omega, by omega, fun _ => by omega, Lib.hid (by unfold qOf; rw [if_pos hT, ← HKD.out]; omega), rfl⟩
    · have hTd : decide (d = 0 ∨ l ≤ 1) = false := decide_eq_false hT
      go_wp2_with fail
      go_meet
      exact ⟨k.toNat, by congr 1; omega, by omega, fun h => absurd h hT, Lib.hid (by unfold qOf; rw [if_neg hT, ← HKD.out]; omega), rfl⟩
  obtain ⟨q, rfl, hq, hq3, HQD, rfl⟩ := hcut
  clear hk0 hk1
  rename World => wB
  have hqq := HQQ.out
  rw [← HQD.out] at hqq
  clear HQQ HQD HKD
  go_upto_block 0 with fail
  have hmU := hm1.alloc (.cells #[.int .i64 0, .string ⟨#[]⟩, .int .i64 0, .slice none 0 0] 33)
  have hkrU := hkr.below (bl_alloc (bl_refl _) (.cells #[.int .i64 0, .string ⟨#[]⟩, .int .i64 0, .slice none 0 0] 33))
  have hkuU := Blk.new wB #[.int .i64 0, .string ⟨#[]⟩, .int .i64 0, .slice none 0 0] 33
  have hgU := gb_alloc hgW (.cells #[.int .i64 0, .string ⟨#[]⟩, .int .i64 0, .slice none 0 0] 33)
  have hru := hkr.lt
  have hgu := hm1.blk.lt
  have hUs := alloc_lt wB (.cells #[.int .i64 0, .string ⟨#[]⟩, .int .i64 0, .slice none 0 0] 33)
  clear c3 z3 hkr hm1 hgW
  generalize wB.alloc (.cells #[.int .i64 0, .string ⟨#[]⟩, .int .i64 0, .slice none 0 0] 33) = WU at *
  generalize wB.heap.size = u at *
  clear wB
  have hug : u ≠ g := by omega
  have hur : r ≠ u := by omega
  have h0u : w0.heap.size ≤ u := by omega
  have hwu : w.heap.size ≤ u := by rw [HR.out]; omega
  have hgs : (some g : Option Nat) ≠ some u := fun e => hug (by injection e with e; exact e.symm)
  have hgr : (some g : Option Nat) ≠ some r := fun e => hrg (by injection e with e; exact e.symm)
  obtain ⟨⟨k0, k1, k2, k3⟩, ⟨y0, y1, y2, y3⟩⟩ := hkuU.four
  go_cut [6] (fun s6 wx => s6 = .pointer (some ⟨u, 0, none⟩) ∧ ∃ t A c i' l' b', TmMid w0 g vN vW i l b d w r u t A c i' l' b' wx)
  case first =>
    obtain rfl : q = 12 := by omega
    obtain ⟨e, rfl⟩ : ∃ e, d = e + 1 := ⟨d - 1, by omega⟩
    have hce : cot (e + 1) = 2 * cot e + 20 := rfl
    have hwe : IntKind.i64.wrap (e : Int) = (e : Int) := IntWalk.i64_in _ (by omega)
    have hl2 : 2 ≤ l := by omega
    obtain ⟨e2, he2, he3, he4⟩ : ∃ e2 : Nat, min (e : Int) 2 = (e2 : Int) ∧ e2 ≤ 2 ∧ e2 ≤ e := ⟨min e 2, by omega, by omega, by omega⟩
    have hco2 := co_le e2 he3
    have hn := pobs_calls w0 g vN vW b e2 (by omega) WU (i + 1) (l - 1) hmU (by omega) (by omega) (by omega)
    unfold ObsPost at hn
    go_wp2_with fail
    refine (hn).mono ?_
    rintro en w2 ⟨o, v, i2, l2, rfl, ht, hf, hm2, hmd⟩
    have h1 := hmd.lo; have h2 := hmd.hi; have h3 := hmd.cnt; have h4 := hmd.low (by omega)
    have hn := fun W hW => ih e (by omega) (by omega) W i2 l2 b hW (by omega) (by omega) (by omega) (by omega)
    unfold TmPost at hn
    have HN := Lib.hid hn
    clear hn h1 h2 h3 h4
    have hn := True.intro
    obtain ⟨b2, hbb, hb2⟩ : ∃ b2 : Nat, b2 = b ∧ b ≤ b2 ∧ b2 ≤ b := ⟨b, rfl, by omega, by omega⟩
    obtain ⟨A, c, cs, rfl, -, -⟩ := ht.open_
    have hkr2 := hkrU.grown hmd.gb hgr
    have hku2 := hkuU.grown hmd.gb hgs
    clear k0 k1 k2 k3 y0 y1 y2 y3
    have hg3 : w.grownBy w2 (some g) := gb_trans hgU hmd.gb
    have hsz := hmd.gb.size
    have hgl := hm2.blk.lt
    have hkl := hku2.lt
    have hkrA := hkr2.below (bl_alloc (bl_refl _) (.cells #[.int .i64 o.tr.kind, .string o.tr.s, .int .i64 o.tr.n, .slice A o.tr.ks.length c] 33))
    have hkuA := hku2.below (bl_alloc (bl_refl _) (.cells #[.int .i64 o.tr.kind, .string o.tr.s, .int .i64 o.tr.n, .slice A o.tr.ks.length c] 33))
    have hmA := hm2.alloc (.cells #[.int .i64 o.tr.kind, .string o.tr.s, .int .i64 o.tr.n, .slice A o.tr.ks.length c] 33)
    have hkA := Blk.new w2 #[.int .i64 o.tr.kind, .string o.tr.s, .int .i64 o.tr.n, .slice A o.tr.ks.length c] 33
    have HWA := alloc_lt w2 (.cells #[.int .i64 o.tr.kind, .string o.tr.s, .int .i64 o.tr.n, .slice A o.tr.ks.length c] 33)
    have hbWA := bl_alloc (bl_refl w2) (.cells #[.int .i64 o.tr.kind, .string o.tr.s, .int .i64 o.tr.n, .slice A o.tr.ks.length c] 33)
    have hgA := gb_alloc hg3 (.cells #[.int .i64 o.tr.kind, .string o.tr.s, .int .i64 o.tr.n, .slice A o.tr.ks.length c] 33)
    obtain ⟨WA, hWA⟩ : ∃ WA, w2.alloc (.cells #[.int .i64 o.tr.kind, .string o.tr.s, .int .i64 o.tr.n, .slice A o.tr.ks.length c] 33) = WA := ⟨_, rfl⟩
    rw [hWA] at hmA hkA HWA hkrA hkuA hbWA hgA
    have HTA := Lib.hid (ht.below hbWA)
    have HW := Lib.hid hWA; have HMD := Lib.hid hmd; have HF := Lib.hid hf
    clear hWA hn hkrU hkuU hkr2 hku2 hmU hgU hg3 hm2 hmd ht hf hbWA
    have hn := HN.out WA hmA
    clear hn
    obtain ⟨⟨k0, k1, k2, k3⟩, ⟨y0, y1, y2, y3⟩⟩ := hkuA.four
    go_wp2_with (rw [HW.out])
    refine (HN.out WA hmA).mono ?_
    rintro en wC ⟨p, v, i3, l3, b3, rfl, ht2, hf2, hm3, hb3, hmd2⟩
    obtain ⟨B, d2, cs2, rfl, -, -⟩ := ht2.open_
    generalize hq : w2.heap.size = qa at *
    have HQ := Lib.hid hq
    clear hq HN
    have hqg : qa ≠ g := by omega
    have hqu : qa ≠ u := by omega
    have hsA : wC.cell? ⟨qa, 0, none⟩ = some (.int .i64 o.tr.kind) ∧ wC.cell? ⟨qa, 1, none⟩ = some (.string o.tr.s) ∧ wC.cell? ⟨qa, 2, none⟩ = some (.int .i64 o.tr.n) ∧ wC.cell? ⟨qa, 3, none⟩ = some (.slice A o.tr.ks.length c) := four_gb hmd2.gb hqg (hkA.four).1
    have hkrC := hkrA.grown hmd2.gb hgr
    have hkuC := hkuA.grown hmd2.gb hgs
    have hgC := gb_trans hgA hmd2.gb
    have hszC := hmd2.gb.size
    have HTC := Lib.hid (HTA.out.grown hmd2.gb (by omega))
    have hgl3 := hm3.blk.lt
    have hkl3 := hkuC.lt
    have hkrD := hkrC.below (bl_alloc (bl_refl _) (.cells #[.int .i64 p.tr.kind, .string p.tr.s, .int .i64 p.tr.n, .slice B p.tr.ks.length d2] 33))
    have hkuD := hkuC.below (bl_alloc (bl_refl _) (.cells #[.int .i64 p.tr.kind, .string p.tr.s, .int .i64 p.tr.n, .slice B p.tr.ks.length d2] 33))
    have hmD := hm3.alloc (.cells #[.int .i64 p.tr.kind, .string p.tr.s, .int .i64 p.tr.n, .slice B p.tr.ks.length d2] 33)
    have hkD := Blk.new wC #[.int .i64 p.tr.kind, .string p.tr.s, .int .i64 p.tr.n, .slice B p.tr.ks.length d2] 33
    have HWD := alloc_lt wC (.cells #[.int .i64 p.tr.kind, .string p.tr.s, .int .i64 p.tr.n, .slice B p.tr.ks.length d2] 33)
    have hbWD := bl_alloc (bl_refl wC) (.cells #[.int .i64 p.tr.kind, .string p.tr.s, .int .i64 p.tr.n, .slice B p.tr.ks.length d2] 33)
    have hgD := gb_alloc hgC (.cells #[.int .i64 p.tr.kind, .string p.tr.s, .int .i64 p.tr.n, .slice B p.tr.ks.length d2] 33)
    have hsD := four_alloc (.cells #[.int .i64 p.tr.kind, .string p.tr.s, .int .i64 p.tr.n, .slice B p.tr.ks.length d2] 33) hsA
    obtain ⟨WD, hWD⟩ : ∃ WD, wC.alloc (.cells #[.int .i64 p.tr.kind, .string p.tr.s, .int .i64 p.tr.n, .slice B p.tr.ks.length d2] 33) = WD := ⟨_, rfl⟩
    rw [hWD] at hmD hkD HWD hkrD hkuD hbWD hgD hsD
    have HTD := Lib.hid (HTC.out.below hbWD); have HPD := Lib.hid (ht2.below hbWD)
    have HW2 := Lib.hid hWD; have HMD2 := Lib.hid hmd2; have HF2 := Lib.hid hf2; have HB3 := Lib.hid hb3
    clear k0 k1 k2 k3 y0 y1 y2 y3
    clear hWD hkrC hkuC hgC hm3 hmd2 ht2 hf2 hbWD HTA HTC hsA hkrA hkuA hmA hkA hgA HW
    obtain ⟨⟨k0, k1, k2, k3⟩, ⟨y0, y1, y2, y3⟩⟩ := hkuD.four
    have hn1 := HMD.out.lo; have hn2 := HMD.out.hi; have hn3 := HMD.out.cnt; have hn4 := HMD.out.low (by omega)
    have go1 := HMD2.out.lo; have go2 := HMD2.out.hi; have go3 := HMD2.out.cnt; have go4 := HMD2.out.low; have go5 := HMD2.out.one
    have hl3 : -(2 * e : Int) - 1 ≤ l3 := by
      by_cases hh : 1 ≤ l2
      · have := go4 hh; omega
      · have := go5 (by omega); omega
    have hih : ∀ W, Mk w0 g vN vW i3 l3 b3 W → Calls Tryz.prog 88 #[.pointer (some ⟨g, 0, none⟩), .int .i64 e] W (TmPost w0 g vN vW i3 l3 b3 e W) := fun W hW => ih e (by omega) (by omega) W i3 l3 b3 hW (by omega) (by omega) (by omega) (by omega)
    unfold TmPost at hih
    have HIH := Lib.hid hih; have HCE := Lib.hid hce; have HCO := Lib.hid hco2; have HL3 := Lib.hid hl3
    clear hih ih hn1 hn2 hn3 hn4 hce hco2 go1 go2 go3 go4 go5 hl3 hb3
    go_upto_region 9 with (rw [HW2.out])
    generalize hq : wC.heap.size = qb at *
    have HQ2 := Lib.hid hq
    clear hq
    have hqbg : qb ≠ g := by omega
    have hqbu : qb ≠ u := by omega
    have hS0 : (WD.drew.cell? ⟨qa, 0, none⟩ = some (.int .i64 o.tr.kind) ∧ WD.drew.cell? ⟨qa, 1, none⟩ = some (.string o.tr.s) ∧ WD.drew.cell? ⟨qa, 2, none⟩ = some (.int .i64 o.tr.n) ∧ WD.drew.cell? ⟨qa, 3, none⟩ = some (.slice A o.tr.ks.length c)) ∧ WD.drew.cell? ⟨qb, 0, none⟩ = some (.int .i64 p.tr.kind) ∧ WD.drew.cell? ⟨qb, 1, none⟩ = some (.string p.tr.s) ∧ WD.drew.cell? ⟨qb, 2, none⟩ = some (.int .i64 p.tr.n) ∧ WD.drew.cell? ⟨qb, 3, none⟩ = some (.slice B p.tr.ks.length d2) := ⟨hsD, (hkD.four).1⟩
    have hS0f : WD.drew.cell? ⟨qa, 0, none⟩ = some (.int .i64 o.tr.kind) ∧ WD.drew.cell? ⟨qa, 1, none⟩ = some (.string o.tr.s) ∧ WD.drew.cell? ⟨qa, 2, none⟩ = some (.int .i64 o.tr.n) ∧ WD.drew.cell? ⟨qa, 3, none⟩ = some (.slice A o.tr.ks.length c) ∧ WD.drew.cell? ⟨qb, 0, none⟩ = some (.int .i64 p.tr.kind) ∧ WD.drew.cell? ⟨qb, 1, none⟩ = some (.string p.tr.s) ∧ WD.drew.cell? ⟨qb, 2, none⟩ = some (.int .i64 p.tr.n) ∧ WD.drew.cell? ⟨qb, 3, none⟩ = some (.slice B p.tr.ks.length d2) := ⟨hS0.1.1, hS0.1.2.1, hS0.1.2.2.1, hS0.1.2.2.2, hS0.2⟩
    have HGD := Lib.hid hgD
    clear hgD hsD hkD
    go_region_held3 (fun w' => w'.cell? ⟨qa, 0, none⟩ = some (.int .i64 o.tr.kind) ∧ w'.cell? ⟨qa, 1, none⟩ = some (.string o.tr.s) ∧ w'.cell? ⟨qa, 2, none⟩ = some (.int .i64 o.tr.n) ∧ w'.cell? ⟨qa, 3, none⟩ = some (.slice A o.tr.ks.length c) ∧ w'.cell? ⟨qb, 0, none⟩ = some (.int .i64 p.tr.kind) ∧ w'.cell? ⟨qb, 1, none⟩ = some (.string p.tr.s) ∧ w'.cell? ⟨qb, 2, none⟩ = some (.int .i64 p.tr.n) ∧ w'.cell? ⟨qb, 3, none⟩ = some (.slice B p.tr.ks.length d2)) (with_reducible (first | exact hS0f | exact eight hB4 hC4 | exact eight (four_alloc _ hB4) (four_alloc _ hC4) | exact eight (four_alloc _ (four_set1 hqu _ _ hB4)) (four_alloc _ (four_set1 hqbu _ _ hC4)) | exact eight (four_set1 hqu _ _ hB4) (four_set1 hqbu _ _ hC4) | exact eight (four_alloc _ (four_set1 hqu _ _ (four_set1 hqu _ _ hB4))) (four_alloc _ (four_set1 hqbu _ _ (four_set1 hqbu _ _ hC4))))) ((go_at_call 88; refine (HIH.out _ (hmD.below (bl_drew (bl_refl _)))).mono ?_; rintro en w4 ⟨q, v2, i4, l4, b4, rfl, ht3, hf3, hm4, hb4, hmd3⟩; obtain ⟨E, d3, cs3, rfl, -, -⟩ := ht3.open_; have hB4 := four_gb hmd3.gb hqg hS0.1; have hC4 := four_gb hmd3.gb hqbg hS0.2; have hkr4 := Blk.grown (hkrD.below (bl_drew (bl_refl _))) hmd3.gb hgr; have hku4 := Blk.grown (hkuD.below (bl_drew (bl_refl _))) hmd3.gb hgs; have hlt5 := hku4.lt; have hsz4 : WD.heap.size ≤ w4.heap.size := hmd3.gb.size; clear k0 k1 k2 k3 y0 y1 y2 y3; obtain ⟨⟨k0, k1, k2, k3⟩, ⟨y0, y1, y2, y3⟩⟩ := hku4.four; have HT4 := Lib.hid ((HTD.out.below (bl_drew (bl_refl _))).grown hmd3.gb (by omega)); have HP4 := Lib.hid (((HPD.out.below (bl_drew (bl_refl _))).grown hmd3.gb (by omega)).mono (y := WU.heap.size) (by omega)); have HT2 := Lib.hid (ht3.mono (y := WU.heap.size) (by show _ ≤ WD.heap.size; omega)); have HG4 := Lib.hid (gb_trans (gb_drew HGD.out) hmd3.gb); have HM4 := Lib.hid hm4; have HMD3 := Lib.hid hmd3; have HKR4 := Lib.hid hkr4; have HKU4 := Lib.hid hku4; have HB4 := Lib.hid hb4; clear hmd3 hm4 hkr4 hku4 ht3 hb4))
    all_goals
      go_wp2_with fail
      go_meet
      have hnew := RowOf.new (x := r + 1) (Blk_new ((w4.setCell ⟨u, 0, none⟩ (.int .i64 8)).setCell ⟨u, 3, none⟩ (.slice (some ⟨w4.heap.size, 0, none⟩) 3 3)) #[.int .i64 o.tr.kind, .string o.tr.s, .int .i64 o.tr.n, .slice A o.tr.ks.length c, .int .i64 p.tr.kind, .string p.tr.s, .int .i64 p.tr.n, .slice B p.tr.ks.length d2, .int .i64 q.tr.kind, .string q.tr.s, .int .i64 q.tr.n, .slice E q.tr.ks.length d3] 33 w4.heap.size (size_set2 _ _ _ _ _).symm) (by omega)
      have hM := HMD.out; have hM2 := HMD2.out; have hM3 := HMD3.out
      have h1 := hM.lo; have h2 := hM.hi; have h3 := hM.cnt; have h4 := hM.low (by omega)
      have g1 := hM2.lo; have g2 := hM2.hi; have g3 := hM2.cnt; have g4 := hM2.low; have g5 := hM2.one; have hce := HCE.out; have hco2 := HCO.out; have hb3 := HB3.out; have hb4 := HB4.out; have hl3 := HL3.out
      have f1 := hM3.lo; have f2 := hM3.hi; have f3 := hM3.cnt; have f4 := hM3.low; have f5 := hM3.one
      have hG := gb_alloc (gb_setNew (gb_setNew HG4.out u 0 hwu (.int .i64 8)) u 3 hwu (.slice (some ⟨w4.heap.size, 0, none⟩) 3 3)) (.cells #[.int .i64 o.tr.kind, .string o.tr.s, .int .i64 o.tr.n, .slice A o.tr.ks.length c, .int .i64 p.tr.kind, .string p.tr.s, .int .i64 p.tr.n, .slice B p.tr.ks.length d2, .int .i64 q.tr.kind, .string q.tr.s, .int .i64 q.tr.n, .slice E q.tr.ks.length d3] 33)
      have hts := TrsAt.cons ((((HT4.out.setN (g := u) (by omega) 0 (.int .i64 8)).setN (g := u) (by omega) 3 (.slice (some ⟨w4.heap.size, 0, none⟩) 3 3)).below (bl_alloc (bl_refl _) (.cells #[.int .i64 o.tr.kind, .string o.tr.s, .int .i64 o.tr.n, .slice A o.tr.ks.length c, .int .i64 p.tr.kind, .string p.tr.s, .int .i64 p.tr.n, .slice B p.tr.ks.length d2, .int .i64 q.tr.kind, .string q.tr.s, .int .i64 q.tr.n, .slice E q.tr.ks.length d3] 33))).mono (y := r + 1) (by omega)) (TrsAt.cons ((((HP4.out.setN (g := u) (by omega) 0 (.int .i64 8)).setN (g := u) (by omega) 3 (.slice (some ⟨w4.heap.size, 0, none⟩) 3 3)).below (bl_alloc (bl_refl _) (.cells #[.int .i64 o.tr.kind, .string o.tr.s, .int .i64 o.tr.n, .slice A o.tr.ks.length c, .int .i64 p.tr.kind, .string p.tr.s, .int .i64 p.tr.n, .slice B p.tr.ks.length d2, .int .i64 q.tr.kind, .string q.tr.s, .int .i64 q.tr.n, .slice E q.tr.ks.length d3] 33))).mono (y := r + 1) (by omega)) (TrsAt.cons ((((HT2.out.setN (g := u) (by omega) 0 (.int .i64 8)).setN (g := u) (by omega) 3 (.slice (some ⟨w4.heap.size, 0, none⟩) 3 3)).below (bl_alloc (bl_refl _) (.cells #[.int .i64 o.tr.kind, .string o.tr.s, .int .i64 o.tr.n, .slice A o.tr.ks.length c, .int .i64 p.tr.kind, .string p.tr.s, .int .i64 p.tr.n, .slice B p.tr.ks.length d2, .int .i64 q.tr.kind, .string q.tr.s, .int .i64 q.tr.n, .slice E q.tr.ks.length d3] 33))).mono (y := r + 1) (by omega)) (TrsAt.nil _ _)))
      have hmk := ((HM4.out.setN u 0 hug h0u (.int .i64 8)).setN u 3 hug h0u (.slice (some ⟨w4.heap.size, 0, none⟩) 3 3)).alloc (.cells #[.int .i64 o.tr.kind, .string o.tr.s, .int .i64 o.tr.n, .slice A o.tr.ks.length c, .int .i64 p.tr.kind, .string p.tr.s, .int .i64 p.tr.n, .slice B p.tr.ks.length d2, .int .i64 q.tr.kind, .string q.tr.s, .int .i64 q.tr.n, .slice E q.tr.ks.length d3] 33)
      have hres := ((HKR4.out.far ⟨u, 0, none⟩ hur (.int .i64 8)).far ⟨u, 3, none⟩ hur (.slice (some ⟨w4.heap.size, 0, none⟩) 3 3)).below (bl_alloc (bl_refl _) (.cells #[.int .i64 o.tr.kind, .string o.tr.s, .int .i64 o.tr.n, .slice A o.tr.ks.length c, .int .i64 p.tr.kind, .string p.tr.s, .int .i64 p.tr.n, .slice B p.tr.ks.length d2, .int .i64 q.tr.kind, .string q.tr.s, .int .i64 q.tr.n, .slice E q.tr.ks.length d3] 33))
      have hloc := ((HKU4.out.set 0 (.int .i64 8)).set 3 (.slice (some ⟨w4.heap.size, 0, none⟩) 3 3)).below (bl_alloc (bl_refl _) (.cells #[.int .i64 o.tr.kind, .string o.tr.s, .int .i64 o.tr.n, .slice A o.tr.ks.length c, .int .i64 p.tr.kind, .string p.tr.s, .int .i64 p.tr.n, .slice B p.tr.ks.length d2, .int .i64 q.tr.kind, .string q.tr.s, .int .i64 q.tr.n, .slice E q.tr.ks.length d3] 33))
      refine ⟨rfl, _, _, _, _, _, _, mid_row (.if_ o p q) 8 ⟨#[]⟩ 0 [o.tr, p.tr, q.tr] 3 rfl rfl ⟨HF.out, HF2.out, hf3⟩ hres hloc hnew hts hmk ⟨by omega, by omega⟩ ⟨by omega, by omega, by unfold Tm.parts; omega, fun h => by omega, fun h => ?_, hG⟩⟩
      by_cases hh : 1 ≤ l2
      · have := g4 hh
        by_cases hh3 : 1 ≤ l3
        · have := f4 hh3; omega
        · have := f5 (by omega); omega
      · have := g5 (by omega)
        by_cases hh3 : 1 ≤ l3
        · have := f4 hh3; omega
        · have := f5 (by omega); omega
  obtain ⟨rfl, t, A, c, i', l', b', hM⟩ := hcut
  rename World => wE
  clear k0 k1 k2 k3 y0 y1 y2 y3
  obtain ⟨⟨k0, k1, k2, k3⟩, ⟨y0, y1, y2, y3⟩⟩ := hM.loc.four
  obtain ⟨⟨m0, m1, m2, m3⟩, ⟨x0, x1, x2, x3⟩⟩ := hM.res.four
  have HM := Lib.hid hM
  clear hM
  go_wp2_with fail
  (try simp only [Exit.inBlock, Exit.then])
  refine bodyPost_ret (results_T rfl _ _ r _ _ _ _ _ rfl (HM.out.res.set4 _ _ _ _)) rfl ?_
  exact HM.out.post HR.out hrg hr0
end Go.Proofs.YtapbkomicihkkaaGreatDoor
