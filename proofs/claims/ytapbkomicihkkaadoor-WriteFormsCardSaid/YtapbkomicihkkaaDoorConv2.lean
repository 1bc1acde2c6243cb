/- The document's trees as contracts of the program. -/
import Derived.Test.YtapbkomicihkkaaDoorConv1
namespace Go.Proofs.YtapbkomicihkkaaDoor
open Go.RowKit
set_option linter.unusedVariables false
set_option linter.unusedSimpArgs false

def GivesT (w : World) (o : Tm) : Ending → World → Prop := fun e w' => e = .returned o.val ∧ Below w.heap.size w w'
set_option maxRecDepth 100000 in
set_option maxHeartbeats 8000000 in
theorem cterm_calls : ∀ (o : Tm), o.fine → ∀ (x : Nat) (w : World) (v : Value), TrAt x w o.tr v → Calls Tryd.prog 6 #[v] w (GivesT w o) := by
  intro o
  induction o with
  | odd v => intro h; exact h.elim
  | zero =>
    intro hf x w v ht
    obtain ⟨A, c, cs, rfl, -, -⟩ := ht.open_
    unfold Tm.tr at *
    simp only [Tr.kind, Tr.s, Tr.n, Tr.ks, List.length_nil]
    clear ht
    unfold nS
    obtain ⟨W1, hW1⟩ : ∃ W1, w.alloc (.cells #[.int .i64 1, .string ⟨#[]⟩, .int .i64 0, .slice A 0 c] 30) = W1 := ⟨_, rfl⟩
    have hk := Blk.new w #[.int .i64 1, .string ⟨#[]⟩, .int .i64 0, .slice A 0 c] 30
    have hbA := bl_alloc (bl_refl w) (.cells #[.int .i64 1, .string ⟨#[]⟩, .int .i64 0, .slice A 0 c] 30)
    rw [hW1] at hk hbA
    obtain ⟨k0, k1, k2, k3⟩ := hk.fours
    have HW1 := Lib.hid hW1
    clear hW1 hk
    go_enter Tryd.func6, Tryd.ntmps6
    go_wp2_with (rw [HW1.out])
    go_ret
    exact ⟨rfl, hbA⟩
  | one s =>
    intro hf x w v ht
    obtain ⟨A, c, cs, rfl, -, -⟩ := ht.open_
    unfold Tm.tr at *
    simp only [Tr.kind, Tr.s, Tr.n, Tr.ks, List.length_nil]
    clear ht
    obtain ⟨W1, hW1⟩ : ∃ W1, w.alloc (.cells #[.int .i64 2, .string s, .int .i64 0, .slice A 0 c] 30) = W1 := ⟨_, rfl⟩
    have hk := Blk.new w #[.int .i64 2, .string s, .int .i64 0, .slice A 0 c] 30
    have hbA := bl_alloc (bl_refl w) (.cells #[.int .i64 2, .string s, .int .i64 0, .slice A 0 c] 30)
    rw [hW1] at hk hbA
    obtain ⟨k0, k1, k2, k3⟩ := hk.fours
    have HW1 := Lib.hid hW1
    clear hW1 hk
    go_enter Tryd.func6, Tryd.ntmps6
    go_wp2_with (rw [HW1.out])
    go_ret
    exact ⟨rfl, hbA⟩
  | give o ih =>
    intro hf x w v ht
    obtain ⟨q, c, c0, c1, c2, c3, rfl, ⟨h0, h1, h2, h3⟩, ha⟩ := ht.one
    clear ht
    obtain ⟨W1, hW1⟩ : ∃ W1, w.alloc (.cells #[.int .i64 3, .string nS, .int .i64 0, .slice (some ⟨q, 0, none⟩) 1 c] 30) = W1 := ⟨_, rfl⟩
    have hk := Blk.new w #[.int .i64 3, .string nS, .int .i64 0, .slice (some ⟨q, 0, none⟩) 1 c] 30
    have hbA := bl_alloc (bl_refl w) (.cells #[.int .i64 3, .string nS, .int .i64 0, .slice (some ⟨q, 0, none⟩) 1 c] 30)
    rw [hW1] at hk hbA
    obtain ⟨k0, k1, k2, k3⟩ := hk.fours
    have HW1 := Lib.hid hW1
    clear hW1 hk
    replace h0 := cell_below hbA h0
    replace h1 := cell_below hbA h1
    replace h2 := cell_below hbA h2
    replace h3 := cell_below hbA h3
    have HA := Lib.hid (ha.below hbA)
    clear ha
    have hl := o.isI (Tm.fine.ok (t := o) hf)
    have hn := ih hf x W1 _ HA.out
    unfold GivesT at *
    unfold nS at *
    have HN := Lib.hid hn
    clear hn ih
    go_enter Tryd.func6, Tryd.ntmps6
    go_wp2_with (rw [HW1.out])
    refine HN.out.mono ?_
    rintro e wX ⟨rfl, hbX⟩
    go_wp2_with fail
    go_ret
    exact ⟨rfl, bl_step hbX hbA⟩
  | and l r ihl ihr =>
    intro hf x w v ht
    obtain ⟨q, c, c0, c1, c2, c3, c4, c5, c6, c7, rfl, ⟨h0, h1, h2, h3⟩, ⟨h4, h5, h6, h7⟩, ha, hb⟩ := ht.two
    clear ht
    obtain ⟨W1, hW1⟩ : ∃ W1, w.alloc (.cells #[.int .i64 4, .string nS, .int .i64 0, .slice (some ⟨q, 0, none⟩) 2 c] 30) = W1 := ⟨_, rfl⟩
    have hk := Blk.new w #[.int .i64 4, .string nS, .int .i64 0, .slice (some ⟨q, 0, none⟩) 2 c] 30
    have hbA := bl_alloc (bl_refl w) (.cells #[.int .i64 4, .string nS, .int .i64 0, .slice (some ⟨q, 0, none⟩) 2 c] 30)
    rw [hW1] at hk hbA
    obtain ⟨k0, k1, k2, k3⟩ := hk.fours
    have HW1 := Lib.hid hW1
    clear hW1 hk
    replace h0 := cell_below hbA h0
    replace h1 := cell_below hbA h1
    replace h2 := cell_below hbA h2
    replace h3 := cell_below hbA h3
    replace h4 := cell_below hbA h4
    replace h5 := cell_below hbA h5
    replace h6 := cell_below hbA h6
    replace h7 := cell_below hbA h7
    have HA := Lib.hid (ha.below hbA); have HB := Lib.hid (hb.below hbA)
    clear ha hb
    have hl := l.isI hf.1.ok
    have hr := r.isI hf.2.ok
    have IL := Lib.hid (ihl hf.1); have IR := Lib.hid (ihr hf.2)
    clear ihl ihr
    unfold GivesT at *
    unfold nS at *
    go_enter Tryd.func6, Tryd.ntmps6
    go_upto_region 9 with (rw [HW1.out])
    have HA1 := Lib.hid (HA.out.below (bl_drew (bl_refl _)))
    go_region_held3 (fun w' => w'.cell? ⟨w.heap.size, 3, none⟩ = some (.slice (some ⟨q, 0, none⟩) 2 c) ∧ w'.cell? ⟨q, 0, none⟩ = some c0 ∧ w'.cell? ⟨q, 1, none⟩ = some c1 ∧ w'.cell? ⟨q, 2, none⟩ = some c2 ∧ w'.cell? ⟨q, 3, none⟩ = some c3 ∧ w'.cell? ⟨q, 4, none⟩ = some c4 ∧ w'.cell? ⟨q, 5, none⟩ = some c5 ∧ w'.cell? ⟨q, 6, none⟩ = some c6 ∧ w'.cell? ⟨q, 7, none⟩ = some c7) (first | exact ⟨cell_below hbX k3, cell_below hbX h0, cell_below hbX h1, cell_below hbX h2, cell_below hbX h3, cell_below hbX h4, cell_below hbX h5, cell_below hbX h6, cell_below hbX h7⟩ | exact ⟨k3, h0, h1, h2, h3, h4, h5, h6, h7⟩ | go_keep) (((first | go_at_call 6 | go_at_call 6); first | (refine (IR.out x wX _ HB2.out).mono ?_; rintro e wY ⟨rfl, hb0⟩; have hbZ := bl_step hb0 hbX; clear hbX; have hbX := hbZ) | (refine (IL.out x W1.drew _ HA1.out).mono ?_; rintro e wX ⟨rfl, hb0⟩; have hbX := bl_step hb0 (bl_drew (bl_refl W1)); have HB2 := Lib.hid (HB.out.below hbX))))
    go_wp2_with fail
    go_ret
    exact ⟨rfl, bl_step hbX hbA⟩
  | or s l r ihl ihr =>
    intro hf x w v ht
    obtain ⟨q, c, c0, c1, c2, c3, c4, c5, c6, c7, rfl, ⟨h0, h1, h2, h3⟩, ⟨h4, h5, h6, h7⟩, ha, hb⟩ := ht.two
    clear ht
    obtain ⟨W1, hW1⟩ : ∃ W1, w.alloc (.cells #[.int .i64 5, .string s, .int .i64 0, .slice (some ⟨q, 0, none⟩) 2 c] 30) = W1 := ⟨_, rfl⟩
    have hk := Blk.new w #[.int .i64 5, .string s, .int .i64 0, .slice (some ⟨q, 0, none⟩) 2 c] 30
    have hbA := bl_alloc (bl_refl w) (.cells #[.int .i64 5, .string s, .int .i64 0, .slice (some ⟨q, 0, none⟩) 2 c] 30)
    rw [hW1] at hk hbA
    obtain ⟨k0, k1, k2, k3⟩ := hk.fours
    have HW1 := Lib.hid hW1
    clear hW1 hk
    replace h0 := cell_below hbA h0
    replace h1 := cell_below hbA h1
    replace h2 := cell_below hbA h2
    replace h3 := cell_below hbA h3
    replace h4 := cell_below hbA h4
    replace h5 := cell_below hbA h5
    replace h6 := cell_below hbA h6
    replace h7 := cell_below hbA h7
    have HA := Lib.hid (ha.below hbA); have HB := Lib.hid (hb.below hbA)
    clear ha hb
    have hl := l.isI hf.2.1.ok
    have hr := r.isI hf.2.2.ok
    have IL := Lib.hid (ihl hf.2.1); have IR := Lib.hid (ihr hf.2.2)
    clear ihl ihr
    unfold GivesT at *
    go_enter Tryd.func6, Tryd.ntmps6
    go_upto_region 11 with (rw [HW1.out])
    have HA1 := Lib.hid (HA.out.below (bl_drew (bl_refl _)))
    go_region_held3 (fun w' => w'.cell? ⟨w.heap.size, 1, none⟩ = some (.string s) ∧ w'.cell? ⟨w.heap.size, 3, none⟩ = some (.slice (some ⟨q, 0, none⟩) 2 c) ∧ w'.cell? ⟨q, 0, none⟩ = some c0 ∧ w'.cell? ⟨q, 1, none⟩ = some c1 ∧ w'.cell? ⟨q, 2, none⟩ = some c2 ∧ w'.cell? ⟨q, 3, none⟩ = some c3 ∧ w'.cell? ⟨q, 4, none⟩ = some c4 ∧ w'.cell? ⟨q, 5, none⟩ = some c5 ∧ w'.cell? ⟨q, 6, none⟩ = some c6 ∧ w'.cell? ⟨q, 7, none⟩ = some c7) (first | exact ⟨cell_below hbX k1, cell_below hbX k3, cell_below hbX h0, cell_below hbX h1, cell_below hbX h2, cell_below hbX h3, cell_below hbX h4, cell_below hbX h5, cell_below hbX h6, cell_below hbX h7⟩ | exact ⟨k1, k3, h0, h1, h2, h3, h4, h5, h6, h7⟩ | go_keep) (((first | go_at_call 6 | go_at_call 6); first | (refine (IR.out x wX _ HB2.out).mono ?_; rintro e wY ⟨rfl, hb0⟩; have hbZ := bl_step hb0 hbX; clear hbX; have hbX := hbZ) | (refine (IL.out x W1.drew _ HA1.out).mono ?_; rintro e wX ⟨rfl, hb0⟩; have hbX := bl_step hb0 (bl_drew (bl_refl W1)); have HB2 := Lib.hid (HB.out.below hbX))))
    go_wp2_with fail
    go_ret
    exact ⟨rfl, bl_step hbX hbA⟩
  | scale l r ihr =>
    intro hf x w v ht
    obtain ⟨q, c, c0, c1, c2, c3, c4, c5, c6, c7, rfl, ⟨h0, h1, h2, h3⟩, ⟨h4, h5, h6, h7⟩, ha, hb⟩ := ht.two
    clear ht
    obtain ⟨W1, hW1⟩ : ∃ W1, w.alloc (.cells #[.int .i64 6, .string nS, .int .i64 0, .slice (some ⟨q, 0, none⟩) 2 c] 30) = W1 := ⟨_, rfl⟩
    have hk := Blk.new w #[.int .i64 6, .string nS, .int .i64 0, .slice (some ⟨q, 0, none⟩) 2 c] 30
    have hbA := bl_alloc (bl_refl w) (.cells #[.int .i64 6, .string nS, .int .i64 0, .slice (some ⟨q, 0, none⟩) 2 c] 30)
    rw [hW1] at hk hbA
    obtain ⟨k0, k1, k2, k3⟩ := hk.fours
    have HW1 := Lib.hid hW1
    clear hW1 hk
    replace h0 := cell_below hbA h0
    replace h1 := cell_below hbA h1
    replace h2 := cell_below hbA h2
    replace h3 := cell_below hbA h3
    replace h4 := cell_below hbA h4
    replace h5 := cell_below hbA h5
    replace h6 := cell_below hbA h6
    replace h7 := cell_below hbA h7
    have HA := Lib.hid (ha.below hbA); have HB := Lib.hid (hb.below hbA)
    clear ha hb
    have hl := l.isI hf.1.ok
    have hr := r.isI hf.2.ok
    have IL := Lib.hid (cobs_calls l hf.1); have IR := Lib.hid (ihr hf.2)
    clear ihr
    unfold GivesT at *
    unfold GivesO at *
    unfold nS at *
    go_enter Tryd.func6, Tryd.ntmps6
    go_upto_region 13 with (rw [HW1.out])
    have HA1 := Lib.hid (HA.out.below (bl_drew (bl_refl _)))
    go_region_held3 (fun w' => w'.cell? ⟨w.heap.size, 3, none⟩ = some (.slice (some ⟨q, 0, none⟩) 2 c) ∧ w'.cell? ⟨q, 0, none⟩ = some c0 ∧ w'.cell? ⟨q, 1, none⟩ = some c1 ∧ w'.cell? ⟨q, 2, none⟩ = some c2 ∧ w'.cell? ⟨q, 3, none⟩ = some c3 ∧ w'.cell? ⟨q, 4, none⟩ = some c4 ∧ w'.cell? ⟨q, 5, none⟩ = some c5 ∧ w'.cell? ⟨q, 6, none⟩ = some c6 ∧ w'.cell? ⟨q, 7, none⟩ = some c7) (first | exact ⟨cell_below hbX k3, cell_below hbX h0, cell_below hbX h1, cell_below hbX h2, cell_below hbX h3, cell_below hbX h4, cell_below hbX h5, cell_below hbX h6, cell_below hbX h7⟩ | exact ⟨k3, h0, h1, h2, h3, h4, h5, h6, h7⟩ | go_keep) (((first | go_at_call 6 | go_at_call 22); first | (refine (IR.out x wX _ HB2.out).mono ?_; rintro e wY ⟨rfl, hb0⟩; have hbZ := bl_step hb0 hbX; clear hbX; have hbX := hbZ) | (refine (IL.out x W1.drew _ HA1.out).mono ?_; rintro e wX ⟨rfl, hb0⟩; have hbX := bl_step hb0 (bl_drew (bl_refl W1)); have HB2 := Lib.hid (HB.out.below hbX))))
    go_wp2_with fail
    go_ret
    exact ⟨rfl, bl_step hbX hbA⟩
  | when_ n l ihl =>
    intro hf x w v ht
    obtain ⟨q, c, c0, c1, c2, c3, rfl, ⟨h0, h1, h2, h3⟩, ha⟩ := ht.one
    clear ht
    obtain ⟨W1, hW1⟩ : ∃ W1, w.alloc (.cells #[.int .i64 7, .string nS, .int .i64 n, .slice (some ⟨q, 0, none⟩) 1 c] 30) = W1 := ⟨_, rfl⟩
    have hk := Blk.new w #[.int .i64 7, .string nS, .int .i64 n, .slice (some ⟨q, 0, none⟩) 1 c] 30
    have hbA := bl_alloc (bl_refl w) (.cells #[.int .i64 7, .string nS, .int .i64 n, .slice (some ⟨q, 0, none⟩) 1 c] 30)
    rw [hW1] at hk hbA
    obtain ⟨k0, k1, k2, k3⟩ := hk.fours
    have HW1 := Lib.hid hW1
    clear hW1 hk
    replace h0 := cell_below hbA h0
    replace h1 := cell_below hbA h1
    replace h2 := cell_below hbA h2
    replace h3 := cell_below hbA h3
    have HA := Lib.hid (ha.below hbA)
    clear ha
    have hl := l.isI hf.2.ok
    have IL := Lib.hid (ihl hf.2)
    clear ihl
    unfold GivesT at *
    unfold nS at *
    go_enter Tryd.func6, Tryd.ntmps6
    go_upto_region 15 with (rw [HW1.out])
    have HA1 := Lib.hid (HA.out.below (bl_drew (bl_refl _)))
    go_region_held3 (fun w' => w'.cell? ⟨w.heap.size, 2, none⟩ = some (.int .i64 n) ∧ w'.cell? ⟨w.heap.size, 3, none⟩ = some (.slice (some ⟨q, 0, none⟩) 1 c) ∧ w'.cell? ⟨q, 0, none⟩ = some c0 ∧ w'.cell? ⟨q, 1, none⟩ = some c1 ∧ w'.cell? ⟨q, 2, none⟩ = some c2 ∧ w'.cell? ⟨q, 3, none⟩ = some c3) (first | exact ⟨cell_below hbX k2, cell_below hbX k3, cell_below hbX h0, cell_below hbX h1, cell_below hbX h2, cell_below hbX h3⟩ | exact ⟨k2, k3, h0, h1, h2, h3⟩ | go_keep) ((go_at_call 6; refine (IL.out x W1.drew _ HA1.out).mono ?_; rintro e wX ⟨rfl, hb0⟩; have hbX := bl_step hb0 (bl_drew (bl_refl W1))))
    go_wp2_with fail
    go_ret
    exact ⟨rfl, bl_step hbX hbA⟩
  | if_ l r d ihr ihd =>
    intro hf x w v ht
    obtain ⟨q, c, c0, c1, c2, c3, c4, c5, c6, c7, c8, c9, ca, cb, rfl, ⟨h0, h1, h2, h3⟩, ⟨h4, h5, h6, h7⟩, ⟨h8, h9, h10, h11⟩, ha, hb, hd⟩ := ht.three
    clear ht
    obtain ⟨W1, hW1⟩ : ∃ W1, w.alloc (.cells #[.int .i64 8, .string nS, .int .i64 0, .slice (some ⟨q, 0, none⟩) 3 c] 30) = W1 := ⟨_, rfl⟩
    have hk := Blk.new w #[.int .i64 8, .string nS, .int .i64 0, .slice (some ⟨q, 0, none⟩) 3 c] 30
    have hbA := bl_alloc (bl_refl w) (.cells #[.int .i64 8, .string nS, .int .i64 0, .slice (some ⟨q, 0, none⟩) 3 c] 30)
    rw [hW1] at hk hbA
    obtain ⟨k0, k1, k2, k3⟩ := hk.fours
    have HW1 := Lib.hid hW1
    clear hW1 hk
    replace h0 := cell_below hbA h0
    replace h1 := cell_below hbA h1
    replace h2 := cell_below hbA h2
    replace h3 := cell_below hbA h3
    replace h4 := cell_below hbA h4
    replace h5 := cell_below hbA h5
    replace h6 := cell_below hbA h6
    replace h7 := cell_below hbA h7
    replace h8 := cell_below hbA h8
    replace h9 := cell_below hbA h9
    replace h10 := cell_below hbA h10
    replace h11 := cell_below hbA h11
    have HA := Lib.hid (ha.below hbA); have HB := Lib.hid (hb.below hbA); have HD := Lib.hid (hd.below hbA)
    clear ha hb hd
    have hl := l.isI hf.1.ok
    have hr := r.isI hf.2.1.ok
    have hd := d.isI hf.2.2.ok
    have IL := Lib.hid (cobs_calls l hf.1); have IR := Lib.hid (ihr hf.2.1); have ID := Lib.hid (ihd hf.2.2)
    clear ihr ihd
    unfold GivesT at *
    unfold GivesO at *
    unfold nS at *
    go_enter Tryd.func6, Tryd.ntmps6
    go_upto_region 17 with (rw [HW1.out])
    have HA1 := Lib.hid (HA.out.below (bl_drew (bl_refl _)))
    go_region_held3 (fun w' => w'.cell? ⟨w.heap.size, 3, none⟩ = some (.slice (some ⟨q, 0, none⟩) 3 c) ∧ w'.cell? ⟨q, 0, none⟩ = some c0 ∧ w'.cell? ⟨q, 1, none⟩ = some c1 ∧ w'.cell? ⟨q, 2, none⟩ = some c2 ∧ w'.cell? ⟨q, 3, none⟩ = some c3 ∧ w'.cell? ⟨q, 4, none⟩ = some c4 ∧ w'.cell? ⟨q, 5, none⟩ = some c5 ∧ w'.cell? ⟨q, 6, none⟩ = some c6 ∧ w'.cell? ⟨q, 7, none⟩ = some c7 ∧ w'.cell? ⟨q, 8, none⟩ = some c8 ∧ w'.cell? ⟨q, 9, none⟩ = some c9 ∧ w'.cell? ⟨q, 10, none⟩ = some ca ∧ w'.cell? ⟨q, 11, none⟩ = some cb) (first | exact ⟨cell_below hbX k3, cell_below hbX h0, cell_below hbX h1, cell_below hbX h2, cell_below hbX h3, cell_below hbX h4, cell_below hbX h5, cell_below hbX h6, cell_below hbX h7, cell_below hbX h8, cell_below hbX h9, cell_below hbX h10, cell_below hbX h11⟩ | exact ⟨k3, h0, h1, h2, h3, h4, h5, h6, h7, h8, h9, h10, h11⟩ | go_keep) (((first | go_at_call 6 | go_at_call 22); first | (refine (ID.out x wY _ HD2.out).mono ?_; rintro e wZ ⟨rfl, hb0⟩; have hbZ := bl_step hb0 hbX; clear hbX; have hbX := hbZ) | (refine (IR.out x wX _ HB2.out).mono ?_; rintro e wY ⟨rfl, hb0⟩; have hbZ := bl_step hb0 hbX; clear hbX; have hbX := hbZ; have HD2 := Lib.hid (HD.out.below hbX)) | (refine (IL.out x W1.drew _ HA1.out).mono ?_; rintro e wX ⟨rfl, hb0⟩; have hbX := bl_step hb0 (bl_drew (bl_refl W1)); have HB2 := Lib.hid (HB.out.below hbX))))
    go_wp2_with fail
    go_ret
    exact ⟨rfl, bl_step hbX hbA⟩
end Go.Proofs.YtapbkomicihkkaaDoor
