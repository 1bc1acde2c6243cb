/- A plan's number as a tree: the walk. -/
import Derived.Test.YtapbkomicihkkaaGreatDoorPlanG
namespace Go.Proofs.YtapbkomicihkkaaGreatDoor
open Go.RowKit
set_option linter.unusedVariables false
set_option linter.unusedSimpArgs false

theorem alloc_size (W : World) (X : Obj) : (W.alloc X).heap.size = W.heap.size + 1 := by unfold World.alloc; simp
theorem four_alloc {w : World} {q : Nat} {a b c d : Value} (X : Obj) (h : w.cell? ⟨q, 0, none⟩ = some a ∧ w.cell? ⟨q, 1, none⟩ = some b ∧ w.cell? ⟨q, 2, none⟩ = some c ∧ w.cell? ⟨q, 3, none⟩ = some d) :
    (w.alloc X).cell? ⟨q, 0, none⟩ = some a ∧ (w.alloc X).cell? ⟨q, 1, none⟩ = some b ∧ (w.alloc X).cell? ⟨q, 2, none⟩ = some c ∧ (w.alloc X).cell? ⟨q, 3, none⟩ = some d :=
  have hb := bl_alloc (bl_refl w) X
  ⟨cell_below hb h.1, cell_below hb h.2.1, cell_below hb h.2.2.1, cell_below hb h.2.2.2⟩
theorem four_gb {w w' : World} {g q : Nat} {a b c d : Value} (hg : w.grownBy w' (some g)) (hq : q ≠ g) (h : w.cell? ⟨q, 0, none⟩ = some a ∧ w.cell? ⟨q, 1, none⟩ = some b ∧ w.cell? ⟨q, 2, none⟩ = some c ∧ w.cell? ⟨q, 3, none⟩ = some d) :
    w'.cell? ⟨q, 0, none⟩ = some a ∧ w'.cell? ⟨q, 1, none⟩ = some b ∧ w'.cell? ⟨q, 2, none⟩ = some c ∧ w'.cell? ⟨q, 3, none⟩ = some d :=
  ⟨gb_cell hg hq h.1, gb_cell hg hq h.2.1, gb_cell hg hq h.2.2.1, gb_cell hg hq h.2.2.2⟩
theorem four_set4 {w : World} {r q : Nat} {a b c d : Value} (hq : q ≠ r) (v0 v1 v2 v3 : Value) (h : w.cell? ⟨q, 0, none⟩ = some a ∧ w.cell? ⟨q, 1, none⟩ = some b ∧ w.cell? ⟨q, 2, none⟩ = some c ∧ w.cell? ⟨q, 3, none⟩ = some d) :
    ((((w.setCell ⟨r, 0, none⟩ v0).setCell ⟨r, 1, none⟩ v1).setCell ⟨r, 2, none⟩ v2).setCell ⟨r, 3, none⟩ v3).cell? ⟨q, 0, none⟩ = some a ∧ ((((w.setCell ⟨r, 0, none⟩ v0).setCell ⟨r, 1, none⟩ v1).setCell ⟨r, 2, none⟩ v2).setCell ⟨r, 3, none⟩ v3).cell? ⟨q, 1, none⟩ = some b ∧ ((((w.setCell ⟨r, 0, none⟩ v0).setCell ⟨r, 1, none⟩ v1).setCell ⟨r, 2, none⟩ v2).setCell ⟨r, 3, none⟩ v3).cell? ⟨q, 2, none⟩ = some c ∧ ((((w.setCell ⟨r, 0, none⟩ v0).setCell ⟨r, 1, none⟩ v1).setCell ⟨r, 2, none⟩ v2).setCell ⟨r, 3, none⟩ v3).cell? ⟨q, 3, none⟩ = some d :=
  four_gb (gb_setW (gb_setW (gb_setW (gb_set 0 v0) 1 v1) 2 v2) 3 v3) hq h
theorem tabN {j : Nat} {kk : Int} (hkk : (#[Value.int .i64 13, .int .i64 15, .int .i64 16] : Array Value)[j]? = some (.int .i64 kk)) (X : World) (n : Nat) (h : X.heap.size = n) : (X.alloc (.cells #[.int .i64 13, .int .i64 15, .int .i64 16] 3)).cell? ⟨n, j, none⟩ = some (.int .i64 kk) := by
  subst h; exact ((Blk.new X #[.int .i64 13, .int .i64 15, .int .i64 16] 3).cell j).trans hkk
theorem gb4 (w : World) (r : Nat) (v0 v1 v2 v3 : Value) : w.grownBy ((((w.setCell ⟨r, 0, none⟩ v0).setCell ⟨r, 1, none⟩ v1).setCell ⟨r, 2, none⟩ v2).setCell ⟨r, 3, none⟩ v3) (some r) := gb_setW (gb_setW (gb_setW (gb_set 0 v0) 1 v1) 2 v2) 3 v3
theorem wpAnyH_more {P : Program} {ops : Array Oper} {Q : Exit → Act → World → Prop} {md : Region.Mode} {S S' : World → Prop} (hS : ∀ w, S' w → S w) : ∀ (fuel : Nat) (listed : Array Bool) (a : Act) (w : World), wpAnyH P md ops Q S' fuel listed a w → wpAnyH P md ops Q S fuel listed a w
  | 0, _, _, _, h => h
  | fuel + 1, _, _, _, h => ⟨h.1, fun i hi => wpOp_mono (fun a' w' h' => ⟨hS _ h'.1, wpAnyH_more hS fuel _ a' w' h'.2⟩) (h.2 i hi)⟩
theorem ops_of (j : Nat) (hj : j < 3) (kk : Int) (h : (#[Value.int .i64 13, .int .i64 15, .int .i64 16] : Array Value)[j]? = some (.int .i64 kk)) :
    ∃ F : Ob → Ob → Ob, (∀ o p, (F o p).tr = .mk kk ⟨#[]⟩ 0 [o.tr, p.tr]) ∧ (∀ o p, (F o p).parts = 1 + o.parts + p.parts) ∧ (∀ o p, o.fine → p.fine → (F o p).fine) := by
  match j, hj with
  | 0, _ => injection h with h; injection h with _ h; subst h; exact ⟨.add, fun _ _ => rfl, fun _ _ => rfl, fun _ _ h1 h2 => ⟨h1, h2⟩⟩
  | 1, _ => injection h with h; injection h with _ h; subst h; exact ⟨.mul, fun _ _ => rfl, fun _ _ => rfl, fun _ _ h1 h2 => ⟨h1, h2⟩⟩
  | 2, _ => injection h with h; injection h with _ h; subst h; exact ⟨.max, fun _ _ => rfl, fun _ _ => rfl, fun _ _ h1 h2 => ⟨h1, h2⟩⟩
  | _ + 3, h => omega

set_option maxRecDepth 100000 in
set_option maxHeartbeats 20000000 in
theorem pobs_calls (w0 : World) (g : Nat) (vN vW : Value) (b : Nat) : ∀ (d : Nat), d ≤ 10 → ∀ (w : World) (i : Nat) (l : Int), Mk w0 g vN vW i l b w → i + co d ≤ 1000000000000 → -100 ≤ l → l ≤ 100 →
    Calls Tryz.prog 121 #[.pointer (some ⟨g, 0, none⟩), .int .i64 d] w (ObsPost w0 g vN vW i l b d w) := by
  intro d
  induction d using Nat.strongRecOn with
  | _ d ih =>
    intro hd w i l hm hi hl0 hl1
    have hco := co_two d
    have hmA := hm.alloc (.cells #[.int .i64 0, .string ⟨#[]⟩, .int .i64 0, .slice none 0 0] 33)
    have hkA := Blk.new w #[.int .i64 0, .string ⟨#[]⟩, .int .i64 0, .slice none 0 0] 33
    have hgA : w.grownBy (w.alloc (.cells #[.int .i64 0, .string ⟨#[]⟩, .int .i64 0, .slice none 0 0] 33)) (some g) := gb_alloc (gb_refl _ _) _
    have hrg : w.heap.size ≠ g := fun e => by have := hm.blk.lt; omega
    have hr0 := hm.bel.size
    obtain ⟨c3, z3⟩ := hmA.left
    obtain ⟨W1, hW1⟩ : ∃ W1, w.alloc (.cells #[.int .i64 0, .string ⟨#[]⟩, .int .i64 0, .slice none 0 0] 33) = W1 := ⟨_, rfl⟩
    rw [hW1] at hmA hkA hgA c3 z3
    have HW1 := Lib.hid hW1
    clear hW1
    have hn := n_calls w0 (W1.setCell ⟨g, 3, none⟩ (.int .i64 (l - 1))) g vN vW i (l - 1) b (hmA.setL (l - 1)) (by omega) 9 (by omega)
    have HN := Lib.hid hn
    clear hn hm
    go_enter Tryz.func121, Tryz.ntmps121
    go_wp2_with (rw [HW1.out])
    refine HN.out.mono ?_
    rintro e w1 ⟨k, rfl, hk0, hk1, hm1, hg1⟩
    have hkr := (hkA.far ⟨g, 3, none⟩ hrg (.int .i64 (l - 1))).grown hg1 (fun e => hrg (by injection e with e; exact e.symm))
    have hgW : w.grownBy w1 (some g) := gb_trans (gb_setW hgA 3 _) hg1
    clear c3 z3 HN HW1 hg1 hkA hgA hmA
    clear W1
    obtain ⟨c3, z3⟩ := hm1.left
    generalize hr : w.heap.size = r at *
    have HR := Lib.hid hr
    clear hr
    go_upto_region 3 with fail
    go_cut [24] (fun s24 wx => s24 = .bool (decide (d = 0 ∨ l ≤ 1)) ∧ wx = w1)
    case first =>
      by_cases h1 : d = 0
      · subst h1
        go_wp2_with fail
        go_meet
        exact ⟨by simp, rfl⟩
      · have h1I : ¬ ((d : Int) ≤ 0) := by omega
        by_cases h2 : l ≤ 1
        · have h2I : l - 1 ≤ 0 := by omega
          go_wp2_with fail
          go_meet
          exact ⟨by simp [h2], rfl⟩
        · have h2I : ¬ (l - 1 ≤ 0) := by omega
          go_wp2_with fail
          go_meet
          exact ⟨by simp [h1, h2], rfl⟩
    obtain ⟨rfl, rfl⟩ := hcut
    rename World => wA
    go_upto_if 24 with fail
    go_cut [5] (fun s5 wx => ∃ q : Nat, s5 = .int .i64 (q : Int) ∧ q < 9 ∧ ((d = 0 ∨ l ≤ 1) → q < 3) ∧ wx = wA)
    case first =>
      by_cases hT : d = 0 ∨ l ≤ 1
      · have hTd : decide (d = 0 ∨ l ≤ 1) = true := decide_eq_true hT
        have hkt : k.tmod 3 = k % 3 := Int.tmod_eq_emod_of_nonneg hk0
        go_wp2_with fail
        go_meet
        exact ⟨(k % 3).toNat, by congr 1; omega, by omega, fun _ => by omega, rfl⟩
      · have hTd : decide (d = 0 ∨ l ≤ 1) = false := decide_eq_false hT
        go_wp2_with fail
        go_meet
        exact ⟨k.toNat, by congr 1; omega, by omega, fun h => absurd h hT, rfl⟩
    obtain ⟨q, rfl, hq, hq3, rfl⟩ := hcut
    clear hk0 hk1
    rename World => wB
    by_cases hq6 : 6 ≤ q
    ·
      obtain ⟨j, rfl⟩ : ∃ j, q = 6 + j := ⟨q - 6, by omega⟩
      have hj3 : j < 3 := by omega
      obtain ⟨kk, hkk⟩ : ∃ kk : Int, (#[Value.int .i64 13, .int .i64 15, .int .i64 16] : Array Value)[j]? = some (.int .i64 kk) := by
        match j, hj3 with
        | 0, _ => exact ⟨13, rfl⟩
        | 1, _ => exact ⟨15, rfl⟩
        | 2, _ => exact ⟨16, rfl⟩
        | _ + 3, h => omega
      obtain ⟨F, hF1, hF2, hF3⟩ : ∃ F : Ob → Ob → Ob, (∀ o p, (F o p).tr = .mk kk ⟨#[]⟩ 0 [o.tr, p.tr]) ∧ (∀ o p, (F o p).parts = 1 + o.parts + p.parts) ∧ (∀ o p, o.fine → p.fine → (F o p).fine) := ops_of j hj3 kk hkk
      have HKK := Lib.hid hkk
      clear hkk
      have hj0 : (0 : Int) ≤ (j : Int) := by omega
      have hj1 : (j : Int) < 3 := by omega
      have hsub : (6 + (j : Int) - 6) = (j : Int) := by omega
      have hs5 : IntKind.i64.wrap (j : Int) = (j : Int) := IntWalk.i64_in _ (by omega)
      have hs3 : IntKind.i64.wrap (((6 + j : Nat) : Int) - 6) = (j : Int) := by rw [IntWalk.i64_in _ (by omega)]; omega
      have hs4 : ((6 + j : Nat) : Int) - 6 = (j : Int) := by omega
      have hsubw : IntKind.i64.wrap (6 + (j : Int) - 6) = (j : Int) := by rw [hsub, IntWalk.i64_in _ (by omega)]
      obtain ⟨e, rfl⟩ : ∃ e, d = e + 1 := ⟨d - 1, by omega⟩
      have hwe : IntKind.i64.wrap (e : Int) = (e : Int) := IntWalk.i64_in _ (by omega)
      have hce : co (e + 1) = 2 * co e + 2 := rfl
      have hce2 := co_two e
      have hn := ih e (by omega) (by omega) wB (i + 1) (l - 1) hm1 (by omega) (by omega) (by omega)
      unfold ObsPost at hn
      have HCE := Lib.hid hce
      clear hce
      go_wp2_with fail
      refine (hn).mono ?_
      rintro en w2 ⟨o, v, i2, l2, rfl, ht, hf, hm2, hmd⟩
      have hrB := hkr.lt
      have hgB := hm1.blk.lt
      obtain ⟨A, c, cs, rfl, hrow, hts⟩ := ht.open_
      have hkr2 := hkr.grown hmd.gb (fun e => hrg (by injection e with e; exact e.symm))
      have hg3 : w.grownBy w2 (some g) := gb_trans hgW hmd.gb
      have hsz := hmd.gb.size
      have hr2 := hkr2.lt
      have hl2 : 2 ≤ l := by omega
      have hgl := hm2.blk.lt
      have h1 := hmd.lo; have h2 := hmd.hi; have h3 := hmd.cnt; have h4 := hmd.low (by omega); have h5 := hmd.one
      have hl3 : -100 ≤ l2 := by omega
      have hl4 : l2 ≤ 100 := by omega
      have hih : ∀ W, Mk w0 g vN vW i2 l2 b W → Calls Tryz.prog 121 #[.pointer (some ⟨g, 0, none⟩), .int .i64 e] W (ObsPost w0 g vN vW i2 l2 b e W) := fun W hW => ih e (by omega) (by omega) W i2 l2 hW (by have := HCE.out; omega) hl3 hl4
      unfold ObsPost at hih
      have HIH := Lib.hid hih
      have HMD := Lib.hid hmd; have HG3 := Lib.hid hg3; have HT := Lib.hid ht; have HKR := Lib.hid hkr2
      have hkrA := hkr2.below (bl_alloc (bl_refl _) (.cells #[.int .i64 o.tr.kind, .string o.tr.s, .int .i64 o.tr.n, .slice A o.tr.ks.length c] 33))
      have hmA := hm2.alloc (.cells #[.int .i64 o.tr.kind, .string o.tr.s, .int .i64 o.tr.n, .slice A o.tr.ks.length c] 33)
      have hkA := Blk.new w2 #[.int .i64 o.tr.kind, .string o.tr.s, .int .i64 o.tr.n, .slice A o.tr.ks.length c] 33
      have HWA := alloc_lt w2 (.cells #[.int .i64 o.tr.kind, .string o.tr.s, .int .i64 o.tr.n, .slice A o.tr.ks.length c] 33)
      obtain ⟨WA, hWA⟩ : ∃ WA, w2.alloc (.cells #[.int .i64 o.tr.kind, .string o.tr.s, .int .i64 o.tr.n, .slice A o.tr.ks.length c] 33) = WA := ⟨_, rfl⟩
      rw [hWA] at hmA hkA HWA hkrA
      have hbWA := bl_alloc (bl_refl w2) (.cells #[.int .i64 o.tr.kind, .string o.tr.s, .int .i64 o.tr.n, .slice A o.tr.ks.length c] 33)
      have hgWA := gb_alloc hg3 (.cells #[.int .i64 o.tr.kind, .string o.tr.s, .int .i64 o.tr.n, .slice A o.tr.ks.length c] 33)
      rw [hWA] at hbWA hgWA
      have HTA := Lib.hid (ht.below hbWA); have HGA := Lib.hid hgWA
      clear hbWA hgWA
      have HW := Lib.hid hWA
      have HF := Lib.hid hf
      clear hWA hn hkr hkr2 c3 z3 hm1 hgW hg3 hm2 hmd ht hrow hts ih hih h1 h2 h3 h4 h5
      go_upto_region 16 with (rw [HW.out])
      generalize hq : w2.heap.size = qa at *
      have HQ := Lib.hid hq
      clear hq
      obtain ⟨⟨a0, a1, a2, a3⟩, _⟩ := hkA.four
      have hqg : qa ≠ g := by omega
      have hqt : WA.heap.size ≠ g := by omega
      have hrqa : r ≠ qa := by omega
      have hqtr : WA.heap.size ≠ r := by omega
      have hrr := HR.out
      have hgr : (some g : Option Nat) ≠ some r := fun e => hrg (by injection e with e; exact e.symm)
      have hS0 : WA.cell? ⟨qa, 0, none⟩ = some (.int .i64 o.tr.kind) ∧ WA.cell? ⟨qa, 1, none⟩ = some (.string o.tr.s) ∧ WA.cell? ⟨qa, 2, none⟩ = some (.int .i64 o.tr.n) ∧ WA.cell? ⟨qa, 3, none⟩ = some (.slice A o.tr.ks.length c) := ⟨a0, a1, a2, a3⟩
      refine wp_region_noPanic ?_
      refine wp_region_held_drew (S := fun w' => w'.cell? ⟨qa, 0, none⟩ = some (.int .i64 o.tr.kind) ∧ w'.cell? ⟨qa, 1, none⟩ = some (.string o.tr.s) ∧ w'.cell? ⟨qa, 2, none⟩ = some (.int .i64 o.tr.n) ∧ w'.cell? ⟨qa, 3, none⟩ = some (.slice A o.tr.ks.length c)) (by kernel_rfl) hS0 (fun hH0 => ?_)
      refine tkx 1 rfl ?_
      refine tkx 2 rfl ?_
      refine tkx 5 rfl ?_
      refine tkx 6 rfl ?_
      refine tkx 7 rfl ?_
      refine tkx 8 rfl ?_
      refine wpAnyH_ready (rs := [0, 9]) (by kernel_rfl) (by simp) ?_
      refine AllReadyH.cons rfl (fun K hK => ?_) (AllReadyH.cons rfl (fun K hK => ?_) AllReadyH.nil)
      · go_simp
        refine hK.out _ _ (four_alloc _ hH0) (fun hH1 => ?_)
        clear hK K hH0
        (try simp only [Act.put, List.setIfInBounds_toArray, List.set_cons_zero, List.set_cons_succ])
        refine wpAnyH_more (S' := fun w' => (w'.cell? ⟨qa, 0, none⟩ = some (.int .i64 o.tr.kind) ∧ w'.cell? ⟨qa, 1, none⟩ = some (.string o.tr.s) ∧ w'.cell? ⟨qa, 2, none⟩ = some (.int .i64 o.tr.n) ∧ w'.cell? ⟨qa, 3, none⟩ = some (.slice A o.tr.ks.length c)) ∧ w'.cell? ⟨WA.heap.size, j, none⟩ = some (.int .i64 kk)) (fun _ h => h.1) _ _ _ _ ?_
        have hH2 := And.intro hH1 (tabN HKK.out WA.drew WA.heap.size rfl)
        clear hH1
        refine tkx 3 rfl ?_
        refine tkx 4 rfl ?_
        refine wpAnyH_ready (rs := [9]) (by kernel_rfl) (by simp) ?_
        refine AllReadyH.cons rfl (fun K hK => ?_) AllReadyH.nil
        go_simp
        refine (HIH.out _ (hmA.below (bl_drew (bl_alloc (bl_refl _) _)))).mono ?_
        rintro en w4 ⟨p, v2, i3, l3, rfl, ht2, hf2, hm4, hmd2⟩
        obtain ⟨B, d2, cs2, rfl, -, -⟩ := ht2.open_
        have hkr4 := Blk.grown (hkrA.below (bl_drew (bl_alloc (bl_refl _) _))) hmd2.gb hgr
        have hlt5 := hkr4.lt
        obtain ⟨⟨k0, k1, k2, k3⟩, ⟨y0, y1, y2, y3⟩⟩ := hkr4.four
        have hsz4 := hmd2.gb.size
        have HT4 := Lib.hid ((HTA.out.below (bl_drew (bl_alloc (bl_refl _) _))).grown hmd2.gb (by omega))
        have HT2 := Lib.hid (ht2.mono (y := wB.heap.size) (by have := alloc_size WA (.cells #[.int .i64 13, .int .i64 15, .int .i64 16] 3); show _ ≤ (WA.alloc _).heap.size; omega))
        have HG4 := Lib.hid (gb_trans (gb_drew (gb_alloc HGA.out _)) hmd2.gb)
        have HM4 := Lib.hid hm4; have HMD2 := Lib.hid hmd2; have HKR4 := Lib.hid hkr4
        go_simp
        refine hK.out _ _ ⟨four_gb hmd2.gb hqg hH2.1, gb_cell hmd2.gb hqt hH2.2⟩ (fun hH3 => ?_)
        clear hK K hH2
        (try simp only [Act.put, List.setIfInBounds_toArray, List.set_cons_zero, List.set_cons_succ])
        have hH6 := hH3
        refine wpAnyH_ready (rs := [10]) (by kernel_rfl) (by simp) ?_
        refine AllReadyH.cons rfl (fun K hK => ?_) AllReadyH.nil
        go_simp
        refine hK.out _ _ ⟨four_alloc _ hH3.1, cell_below (bl_alloc (bl_refl _) _) hH3.2⟩ (fun hH4 => ?_)
        clear hK K hH3
        (try simp only [Act.put, List.setIfInBounds_toArray, List.set_cons_zero, List.set_cons_succ])
        refine tkx 11 rfl ?_
        refine wpAnyH_ready (rs := [12]) (by kernel_rfl) (by simp) ?_
        refine AllReadyH.cons rfl (fun K hK => ?_) AllReadyH.nil
        go_simp
        refine hK.out _ _ ⟨four_alloc _ (four_set4 (Ne.symm hrqa) _ _ _ _ hH6.1), cell_below (bl_alloc (bl_refl _) _) (gb_cell (gb4 _ _ _ _ _ _) hqtr hH6.2)⟩ (fun hH5 => ?_)
        clear hK K hH4
        (try simp only [Act.put, List.setIfInBounds_toArray, List.set_cons_zero, List.set_cons_succ])
        refine wpAnyH_done (by kernel_rfl) ?_ _
        refine NoPanic.normal ?_
        clear hmd2 hm4 hkr4 ht2 hH5 hH6
        go_wp2_with fail
        (try simp only [Exit.inBlock, Exit.then])
        refine bodyPost_ret (results_T rfl _ _ r _ _ _ _ _ rfl ((HKR4.out.set4 _ _ _ _).below (bl_alloc (bl_refl _) _))) rfl ?_
        exact post_two o p (F o p) kk (hF1 o p) (hF2 o p) (hF3 o p HF.out hf2) (((HT4.out.set4 hrB _ _ _ _).below (bl_alloc (bl_refl _) _)).mono (by omega)) (((HT2.out.set4 hrB _ _ _ _).below (bl_alloc (bl_refl _) _)).mono (by omega)) (RowOf.new (Blk_new _ _ _ w4.heap.size (size_set4 _ _ _ _ _ _).symm) (by omega)) ((HM4.out.set4 r hrg hr0 _ _ _ _).below (bl_alloc (bl_refl _) _)) HMD.out HMD2.out ((fun h => gb_alloc h _) (gb_set4 HG4.out r (by omega) _ _ _ _)) hl2
      · go_simp
        refine (HIH.out _ (hmA.below (bl_drew (bl_refl _)))).mono ?_
        rintro en w4 ⟨p, v2, i3, l3, rfl, ht2, hf2, hm4, hmd2⟩
        obtain ⟨B, d2, cs2, rfl, -, -⟩ := ht2.open_
        have hkr4 := Blk.grown (hkrA.below (bl_drew (bl_refl _))) hmd2.gb hgr
        have hlt5 := hkr4.lt
        obtain ⟨⟨k0, k1, k2, k3⟩, ⟨y0, y1, y2, y3⟩⟩ := hkr4.four
        have hsz4 := hmd2.gb.size
        have HT4 := Lib.hid ((HTA.out.below (bl_drew (bl_refl _))).grown hmd2.gb (by omega))
        have HT2 := Lib.hid (ht2.mono (y := wB.heap.size) (by show _ ≤ WA.heap.size; omega))
        have HG4 := Lib.hid (gb_trans (gb_drew HGA.out) hmd2.gb)
        have HM4 := Lib.hid hm4; have HMD2 := Lib.hid hmd2; have HKR4 := Lib.hid hkr4
        go_simp
        refine hK.out _ _ (four_gb hmd2.gb hqg hH0) (fun hH3 => ?_)
        clear hK K hH0
        (try simp only [Act.put, List.setIfInBounds_toArray, List.set_cons_zero, List.set_cons_succ])
        refine wpAnyH_ready (rs := [0, 10]) (by kernel_rfl) (by simp) ?_
        refine AllReadyH.cons rfl (fun K hK => ?_) (AllReadyH.cons rfl (fun K hK => ?_) AllReadyH.nil)
        · go_simp
          refine hK.out _ _ (four_alloc _ hH3) (fun hH1 => ?_)
          clear hK K
          (try simp only [Act.put, List.setIfInBounds_toArray, List.set_cons_zero, List.set_cons_succ])
          refine wpAnyH_more (S' := fun w' => (w'.cell? ⟨qa, 0, none⟩ = some (.int .i64 o.tr.kind) ∧ w'.cell? ⟨qa, 1, none⟩ = some (.string o.tr.s) ∧ w'.cell? ⟨qa, 2, none⟩ = some (.int .i64 o.tr.n) ∧ w'.cell? ⟨qa, 3, none⟩ = some (.slice A o.tr.ks.length c)) ∧ w'.cell? ⟨w4.heap.size, j, none⟩ = some (.int .i64 kk)) (fun _ h => h.1) _ _ _ _ ?_
          have hH6 := hH3
          clear hH3
          have hH3 := And.intro hH1 (tabN HKK.out w4 w4.heap.size rfl)
          clear hH1
          refine tkx 3 rfl ?_
          refine tkx 4 rfl ?_
          refine wpAnyH_ready (rs := [10]) (by kernel_rfl) (by simp) ?_
          refine AllReadyH.cons rfl (fun K hK => ?_) AllReadyH.nil
          go_simp
          refine hK.out _ _ ⟨four_alloc _ hH3.1, cell_below (bl_alloc (bl_refl _) _) hH3.2⟩ (fun hH4 => ?_)
          clear hK K hH3
          (try simp only [Act.put, List.setIfInBounds_toArray, List.set_cons_zero, List.set_cons_succ])
          refine tkx 11 rfl ?_
          refine wpAnyH_ready (rs := [12]) (by kernel_rfl) (by simp) ?_
          refine AllReadyH.cons rfl (fun K hK => ?_) AllReadyH.nil
          go_simp
          refine hK.out _ _ ⟨four_alloc _ (four_alloc _ (four_set4 (Ne.symm hrqa) _ _ _ _ hH6)), cell_below (bl_alloc (bl_refl _) _) (tabN HKK.out _ w4.heap.size (size_set4 _ _ _ _ _ _))⟩ (fun hH5 => ?_)
          clear hK K hH4
          (try simp only [Act.put, List.setIfInBounds_toArray, List.set_cons_zero, List.set_cons_succ])
          refine wpAnyH_done (by kernel_rfl) ?_ _
          refine NoPanic.normal ?_
          clear hmd2 hm4 hkr4 ht2 hH5 hH6
          go_wp2_with fail
          (try simp only [Exit.inBlock, Exit.then])
          refine bodyPost_ret (results_T rfl _ _ r _ _ _ _ _ rfl ((HKR4.out.set4 _ _ _ _).below (bl_alloc (bl_alloc (bl_refl _) _) _))) rfl ?_
          exact post_two o p (F o p) kk (hF1 o p) (hF2 o p) (hF3 o p HF.out hf2) (((HT4.out.set4 hrB _ _ _ _).below (bl_alloc (bl_alloc (bl_refl _) _) _)).mono (by omega)) (((HT2.out.set4 hrB _ _ _ _).below (bl_alloc (bl_alloc (bl_refl _) _) _)).mono (by omega)) (RowOf.new (Blk_new _ _ _ (w4.heap.size + 1) (by rw [alloc_size, size_set4])) (by omega)) ((HM4.out.set4 r hrg hr0 _ _ _ _).below (bl_alloc (bl_alloc (bl_refl _) _) _)) HMD.out HMD2.out ((fun h => gb_alloc (gb_alloc h _) _) (gb_set4 HG4.out r (by omega) _ _ _ _)) hl2
        · go_simp
          refine hK.out _ _ (four_alloc _ hH3) (fun hH1 => ?_)
          clear hK K
          (try simp only [Act.put, List.setIfInBounds_toArray, List.set_cons_zero, List.set_cons_succ])
          refine wpAnyH_ready (rs := [0]) (by kernel_rfl) (by simp) ?_
          refine AllReadyH.cons rfl (fun K hK => ?_) AllReadyH.nil
          go_simp
          refine hK.out _ _ (four_alloc _ hH1) (fun hH2 => ?_)
          clear hK K hH1
          (try simp only [Act.put, List.setIfInBounds_toArray, List.set_cons_zero, List.set_cons_succ])
          refine wpAnyH_more (S' := fun w' => (w'.cell? ⟨qa, 0, none⟩ = some (.int .i64 o.tr.kind) ∧ w'.cell? ⟨qa, 1, none⟩ = some (.string o.tr.s) ∧ w'.cell? ⟨qa, 2, none⟩ = some (.int .i64 o.tr.n) ∧ w'.cell? ⟨qa, 3, none⟩ = some (.slice A o.tr.ks.length c)) ∧ w'.cell? ⟨w4.heap.size + 1, j, none⟩ = some (.int .i64 kk)) (fun _ h => h.1) _ _ _ _ ?_
          have hH4 := And.intro hH2 (tabN HKK.out (w4.alloc (.cells #[.int .i64 o.tr.kind, .string o.tr.s, .int .i64 o.tr.n, .slice A o.tr.ks.length c, .int .i64 p.tr.kind, .string p.tr.s, .int .i64 p.tr.n, .slice B p.tr.ks.length d2] 33)) (w4.heap.size + 1) (alloc_size _ _))
          clear hH2
          have hH6 := hH3
          clear hH3
          refine tkx 3 rfl ?_
          refine tkx 4 rfl ?_
          (try simp only [Act.put, List.setIfInBounds_toArray, List.set_cons_zero, List.set_cons_succ])
          refine tkx 11 rfl ?_
          refine wpAnyH_ready (rs := [12]) (by kernel_rfl) (by simp) ?_
          refine AllReadyH.cons rfl (fun K hK => ?_) AllReadyH.nil
          go_simp
          refine hK.out _ _ ⟨four_alloc _ (four_alloc _ (four_set4 (Ne.symm hrqa) _ _ _ _ hH6)), tabN HKK.out _ (w4.heap.size + 1) (by rw [alloc_size, size_set4])⟩ (fun hH5 => ?_)
          clear hK K hH4
          (try simp only [Act.put, List.setIfInBounds_toArray, List.set_cons_zero, List.set_cons_succ])
          refine wpAnyH_done (by kernel_rfl) ?_ _
          refine NoPanic.normal ?_
          clear hmd2 hm4 hkr4 ht2 hH5 hH6
          go_wp2_with fail
          (try simp only [Exit.inBlock, Exit.then])
          refine bodyPost_ret (results_T rfl _ _ r _ _ _ _ _ rfl ((HKR4.out.set4 _ _ _ _).below (bl_alloc (bl_alloc (bl_refl _) _) _))) rfl ?_
          exact post_two o p (F o p) kk (hF1 o p) (hF2 o p) (hF3 o p HF.out hf2) (((HT4.out.set4 hrB _ _ _ _).below (bl_alloc (bl_alloc (bl_refl _) _) _)).mono (by omega)) (((HT2.out.set4 hrB _ _ _ _).below (bl_alloc (bl_alloc (bl_refl _) _) _)).mono (by omega)) (RowOf.below (RowOf.new (Blk_new _ _ _ w4.heap.size (size_set4 _ _ _ _ _ _).symm) (by omega)) (bl_alloc (bl_refl _) _)) ((HM4.out.set4 r hrg hr0 _ _ _ _).below (bl_alloc (bl_alloc (bl_refl _) _) _)) HMD.out HMD2.out ((fun h => gb_alloc (gb_alloc h _) _) (gb_set4 HG4.out r (by omega) _ _ _ _)) hl2
    · obtain rfl | rfl | rfl | rfl | rfl | rfl : q = 0 ∨ q = 1 ∨ q = 2 ∨ q = 3 ∨ q = 4 ∨ q = 5 := by omega
      ·
        have hn := n_calls w0 (wB.alloc (.cells numT 3)) g vN vW (i + 1) (l - 1) b (hm1.alloc _) (by omega) 10 (by omega)
        unfold numT at hn
        go_wp2_with fail
        refine (hn).mono ?_
        rintro e w2 ⟨v, rfl, hv0, hv1, hm2, hg2⟩
        obtain ⟨j, rfl⟩ : ∃ j : Nat, v = (j : Int) := ⟨v.toNat, by omega⟩
        obtain ⟨c, hc, hcl, hcu⟩ := numT_at j (by omega)
        have hbt : wB.heap.size ≠ g := fun e => by have := hm1.blk.lt; omega
        have hbr : wB.heap.size ≠ r := fun e => by have := hkr.lt; omega
        have hkt : Blk w2 wB.heap.size numT 3 := (Blk.new wB numT 3).grown hg2 (fun e => hbt (by injection e with e; exact e.symm))
        have hcj : w2.cell? ⟨wB.heap.size, j, none⟩ = some (.int .i64 c) := (hkt.cell j).trans hc
        have hg3 : w.grownBy w2 (some g) := gb_trans (gb_alloc hgW _) hg2
        have hkr2 := (hkr.below (bl_alloc (bl_refl _) _)).grown hg2 (fun e => hrg (by injection e with e; exact e.symm))
        obtain ⟨⟨k0, k1, k2, k3⟩, ⟨y0, y1, y2, y3⟩⟩ := hkr2.four
        have HKR := Lib.hid hkr2
        clear hn hkr hkr2 c3 z3 hm1 hgW hg2 hkt hc
        have hjj : (j : Int) < 10 := by omega
        go_wp2_with fail
        (try simp only [Exit.inBlock, Exit.then])
        refine bodyPost_ret (results_T rfl _ _ r _ _ _ _ _ rfl (HKR.out.set4 _ _ _ _)) rfl ?_
        exact post_leaf (.const c) 11 ⟨#[]⟩ c rfl rfl ⟨hcl, hcu⟩ (hm2.set4 r hrg hr0 _ _ _ _) (gb_set4 hg3 r (by rw [HR.out]; omega) _ _ _ _) hco
      ·
        have hn := n_calls w0 (wB.alloc (.cells numT 3)) g vN vW (i + 1) (l - 1) b (hm1.alloc _) (by omega) 10 (by omega)
        unfold numT at hn
        go_wp2_with fail
        refine (hn).mono ?_
        rintro e w2 ⟨v, rfl, hv0, hv1, hm2, hg2⟩
        obtain ⟨j, rfl⟩ : ∃ j : Nat, v = (j : Int) := ⟨v.toNat, by omega⟩
        obtain ⟨c, hc, hcl, hcu⟩ := numT_at j (by omega)
        have hbt : wB.heap.size ≠ g := fun e => by have := hm1.blk.lt; omega
        have hbr : wB.heap.size ≠ r := fun e => by have := hkr.lt; omega
        have hkt : Blk w2 wB.heap.size numT 3 := (Blk.new wB numT 3).grown hg2 (fun e => hbt (by injection e with e; exact e.symm))
        have hcj : w2.cell? ⟨wB.heap.size, j, none⟩ = some (.int .i64 c) := (hkt.cell j).trans hc
        have hg3 : w.grownBy w2 (some g) := gb_trans (gb_alloc hgW _) hg2
        have hkr2 := (hkr.below (bl_alloc (bl_refl _) _)).grown hg2 (fun e => hrg (by injection e with e; exact e.symm))
        obtain ⟨⟨k0, k1, k2, k3⟩, ⟨y0, y1, y2, y3⟩⟩ := hkr2.four
        have HKR := Lib.hid hkr2
        clear hn hkr hkr2 c3 z3 hm1 hgW hg2 hkt hc
        have hjj : (j : Int) < 10 := by omega
        go_wp2_with fail
        (try simp only [Exit.inBlock, Exit.then])
        refine bodyPost_ret (results_T rfl _ _ r _ _ _ _ _ rfl (HKR.out.set4 _ _ _ _)) rfl ?_
        exact post_leaf (.const c) 11 ⟨#[]⟩ c rfl rfl ⟨hcl, hcu⟩ (hm2.set4 r hrg hr0 _ _ _ _) (gb_set4 hg3 r (by rw [HR.out]; omega) _ _ _ _) hco
      ·
        have hn := word_calls w0 (wB.alloc (.cells #[.string ⟨#[108, 105, 98, 111, 114]⟩, .string ⟨#[114, 97, 105, 110]⟩, .string ⟨#[195, 182, 108]⟩] 9)) g vN vW (i + 1) (l - 1) b (hm1.alloc _) (by omega) wB.heap.size (fun e => by have := hm1.blk.lt; omega) _ _ _ _ (Blk.new _ _ _) (by decide) (by decide) (by decide)
        go_wp2_with fail
        refine (hn).mono ?_
        rintro e w2 ⟨s, rfl, hss, hm2, hg2⟩
        have hg3 : w.grownBy w2 (some g) := gb_trans (gb_alloc hgW _) hg2
        have hkr2 := (hkr.below (bl_alloc (bl_refl _) _)).grown hg2 (fun e => hrg (by injection e with e; exact e.symm))
        obtain ⟨⟨k0, k1, k2, k3⟩, ⟨y0, y1, y2, y3⟩⟩ := hkr2.four
        have HKR := Lib.hid hkr2
        clear hn hkr hkr2 c3 z3 hm1 hgW hg2
        go_wp2_with fail
        (try simp only [Exit.inBlock, Exit.then])
        refine bodyPost_ret (results_T rfl _ _ r _ _ _ _ _ rfl (HKR.out.set4 _ _ _ _)) rfl ?_
        exact post_leaf (.fix s) 12 s 0 rfl rfl hss (hm2.set4 r hrg hr0 _ _ _ _) (gb_set4 hg3 r (by rw [HR.out]; omega) _ _ _ _) hco
      ·
        have hn := word_calls w0 (wB.alloc (.cells #[.string ⟨#[108, 105, 98, 111, 114]⟩, .string ⟨#[114, 97, 105, 110]⟩, .string ⟨#[195, 182, 108]⟩] 9)) g vN vW (i + 1) (l - 1) b (hm1.alloc _) (by omega) wB.heap.size (fun e => by have := hm1.blk.lt; omega) _ _ _ _ (Blk.new _ _ _) (by decide) (by decide) (by decide)
        go_wp2_with fail
        refine (hn).mono ?_
        rintro e w2 ⟨s, rfl, hss, hm2, hg2⟩
        have hg3 : w.grownBy w2 (some g) := gb_trans (gb_alloc hgW _) hg2
        have hkr2 := (hkr.below (bl_alloc (bl_refl _) _)).grown hg2 (fun e => hrg (by injection e with e; exact e.symm))
        obtain ⟨⟨k0, k1, k2, k3⟩, ⟨y0, y1, y2, y3⟩⟩ := hkr2.four
        have HKR := Lib.hid hkr2
        clear hn hkr hkr2 c3 z3 hm1 hgW hg2
        go_wp2_with fail
        (try simp only [Exit.inBlock, Exit.then])
        refine bodyPost_ret (results_T rfl _ _ r _ _ _ _ _ rfl (HKR.out.set4 _ _ _ _)) rfl ?_
        exact post_leaf (.fix s) 12 s 0 rfl rfl hss (hm2.set4 r hrg hr0 _ _ _ _) (gb_set4 hg3 r (by rw [HR.out]; omega) _ _ _ _) hco
      ·
        have hn := word_calls w0 (wB.alloc (.cells #[.string ⟨#[108, 105, 98, 111, 114]⟩, .string ⟨#[114, 97, 105, 110]⟩, .string ⟨#[195, 182, 108]⟩] 9)) g vN vW (i + 1) (l - 1) b (hm1.alloc _) (by omega) wB.heap.size (fun e => by have := hm1.blk.lt; omega) _ _ _ _ (Blk.new _ _ _) (by decide) (by decide) (by decide)
        go_wp2_with fail
        refine (hn).mono ?_
        rintro e w2 ⟨s, rfl, hss, hm2, hg2⟩
        have hg3 : w.grownBy w2 (some g) := gb_trans (gb_alloc hgW _) hg2
        have hkr2 := (hkr.below (bl_alloc (bl_refl _) _)).grown hg2 (fun e => hrg (by injection e with e; exact e.symm))
        obtain ⟨⟨k0, k1, k2, k3⟩, ⟨y0, y1, y2, y3⟩⟩ := hkr2.four
        have HKR := Lib.hid hkr2
        clear hn hkr hkr2 c3 z3 hm1 hgW hg2
        go_wp2_with fail
        (try simp only [Exit.inBlock, Exit.then])
        refine bodyPost_ret (results_T rfl _ _ r _ _ _ _ _ rfl (HKR.out.set4 _ _ _ _)) rfl ?_
        exact post_leaf (.fix s) 12 s 0 rfl rfl hss (hm2.set4 r hrg hr0 _ _ _ _) (gb_set4 hg3 r (by rw [HR.out]; omega) _ _ _ _) hco
      ·
        obtain ⟨e, rfl⟩ : ∃ e, d = e + 1 := ⟨d - 1, by omega⟩
        have hce : co (e + 1) = 2 * co e + 2 := rfl
        have hce2 := co_two e
        have hn := ih e (by omega) (by omega) wB (i + 1) (l - 1) hm1 (by omega) (by omega) (by omega)
        unfold ObsPost at hn
        have HCE := Lib.hid hce
        clear hce
        go_wp2_with fail
        refine (hn).mono ?_
        rintro en w2 ⟨o, v, i2, l2, rfl, ht, hf, hm2, hmd⟩
        have hrB := hkr.lt
        obtain ⟨A, c, cs, rfl, hrow, hts⟩ := ht.open_
        have hkr2 := hkr.grown hmd.gb (fun e => hrg (by injection e with e; exact e.symm))
        obtain ⟨⟨k0, k1, k2, k3⟩, ⟨y0, y1, y2, y3⟩⟩ := hkr2.four
        have hg3 : w.grownBy w2 (some g) := gb_trans hgW hmd.gb
        have hsz := hmd.gb.size
        have hr2 := hkr2.lt
        have hl2 : 2 ≤ l := by omega
        have HMD := Lib.hid hmd; have HM2 := Lib.hid hm2; have HG3 := Lib.hid hg3; have HT := Lib.hid ht; have HKR := Lib.hid hkr2
        clear hn hkr hkr2 c3 z3 hm1 hgW hg3 hm2 hmd ht hrow hts ih
        go_wp2_with fail
        (try simp only [Exit.inBlock, Exit.then])
        refine bodyPost_ret (results_T rfl _ _ r _ _ _ _ _ rfl ((HKR.out.set4 _ _ _ _).below (bl_alloc (bl_refl _) _))) rfl ?_
        have hrr := HR.out
        have hnew := RowOf.new (x := w.heap.size) (Blk_new ((((w2.setCell ⟨r, 0, none⟩ (.int .i64 14)).setCell ⟨r, 1, none⟩ (.string ⟨#[]⟩)).setCell ⟨r, 2, none⟩ (.int .i64 0)).setCell ⟨r, 3, none⟩ (.slice (some ⟨w2.heap.size, 0, none⟩) 1 1)) #[.int .i64 o.tr.kind, .string o.tr.s, .int .i64 o.tr.n, .slice A o.tr.ks.length c] 33 w2.heap.size (size_set4 _ _ _ _ _ _).symm) (by omega)
        exact post_one o (.neg o) 14 rfl rfl hf (((HT.out.set4 hrB _ _ _ _).below (bl_alloc (bl_refl _) _)).mono (by omega)) hnew ((HM2.out.set4 r hrg hr0 _ _ _ _).alloc _) HMD.out (gb_alloc (gb_set4 HG3.out r (by omega) _ _ _ _) _) hl2
end Go.Proofs.YtapbkomicihkkaaGreatDoor
