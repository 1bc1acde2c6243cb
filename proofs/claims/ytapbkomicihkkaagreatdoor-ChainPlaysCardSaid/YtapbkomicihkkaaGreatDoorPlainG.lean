/- An event of the program's as one of the document's. -/
import Derived.Test.YtapbkomicihkkaaGreatDoorConv1
import Derived.Test.YtapbkomicihkkaaGreatDoorDo1
namespace Go.Proofs.YtapbkomicihkkaaGreatDoor
open Go.RowKit
set_option linter.unusedVariables false
set_option linter.unusedSimpArgs false

def GivesT (w : World) (o : Tm) : Ending → World → Prop := fun e w' => e = .returned o.val ∧ Below w.heap.size w w'
set_option maxRecDepth 100000 in
set_option maxHeartbeats 8000000 in
theorem cterm_calls : ∀ (o : Tm), o.fine → ∀ (x : Nat) (w : World) (v : Value), TrAt x w o.tr v → Calls Tryz.prog 39 #[v] w (GivesT w o) := by
  intro o
  induction o with
  | odd v => intro h; exact h.elim
  | zero =>
    intro hf x w v ht
    obtain ⟨A, c, cs, rfl, -, -⟩ := ht.open_
    unfold Tm.tr at *
    simp only [Tr.kind, Tr.s, Tr.n, Tr.ks, List.length_nil]
    clear ht
    unfold nS
    obtain ⟨W1, hW1⟩ : ∃ W1, w.alloc (.cells #[.int .i64 1, .string ⟨#[]⟩, .int .i64 0, .slice A 0 c] 33) = W1 := ⟨_, rfl⟩
    have hk := Blk.new w #[.int .i64 1, .string ⟨#[]⟩, .int .i64 0, .slice A 0 c] 33
    have hbA := bl_alloc (bl_refl w) (.cells #[.int .i64 1, .string ⟨#[]⟩, .int .i64 0, .slice A 0 c] 33)
    rw [hW1] at hk hbA
    obtain ⟨k0, k1, k2, k3⟩ := hk.fours
    have HW1 := Lib.hid hW1
    clear hW1 hk
    go_enter Tryz.func39, Tryz.ntmps39
    go_wp2_with (rw [HW1.out])
    go_ret
    exact ⟨rfl, hbA⟩
  | one s =>
    intro hf x w v ht
    obtain ⟨A, c, cs, rfl, -, -⟩ := ht.open_
    unfold Tm.tr at *
    simp only [Tr.kind, Tr.s, Tr.n, Tr.ks, List.length_nil]
    clear ht
    obtain ⟨W1, hW1⟩ : ∃ W1, w.alloc (.cells #[.int .i64 2, .string s, .int .i64 0, .slice A 0 c] 33) = W1 := ⟨_, rfl⟩
    have hk := Blk.new w #[.int .i64 2, .string s, .int .i64 0, .slice A 0 c] 33
    have hbA := bl_alloc (bl_refl w) (.cells #[.int .i64 2, .string s, .int .i64 0, .slice A 0 c] 33)
    rw [hW1] at hk hbA
    obtain ⟨k0, k1, k2, k3⟩ := hk.fours
    have HW1 := Lib.hid hW1
    clear hW1 hk
    go_enter Tryz.func39, Tryz.ntmps39
    go_wp2_with (rw [HW1.out])
    go_ret
    exact ⟨rfl, hbA⟩
  | give o ih =>
    intro hf x w v ht
    obtain ⟨q, c, c0, c1, c2, c3, rfl, ⟨h0, h1, h2, h3⟩, ha⟩ := ht.one
    clear ht
    obtain ⟨W1, hW1⟩ : ∃ W1, w.alloc (.cells #[.int .i64 3, .string nS, .int .i64 0, .slice (some ⟨q, 0, none⟩) 1 c] 33) = W1 := ⟨_, rfl⟩
    have hk := Blk.new w #[.int .i64 3, .string nS, .int .i64 0, .slice (some ⟨q, 0, none⟩) 1 c] 33
    have hbA := bl_alloc (bl_refl w) (.cells #[.int .i64 3, .string nS, .int .i64 0, .slice (some ⟨q, 0, none⟩) 1 c] 33)
    rw [hW1] at hk hbA
    obtain ⟨k0, k1, k2, k3⟩ := hk.fours
    have HW1 := Lib.hid hW1
    clear hW1 hk
    replace h0 := cell_below hbA h0
    replace h1 := cell_below hbA h1
    replace h2 := cell_below hbA h2
    replace h3 := cell_below hbA h3
    have HA := Lib.hid (ha.below hbA)
    clear ha
    have hl := o.isI (Tm.fine.ok (t := o) hf)
    have hn := ih hf x W1 _ HA.out
    unfold GivesT at *
    unfold nS at *
    have HN := Lib.hid hn
    clear hn ih
    go_enter Tryz.func39, Tryz.ntmps39
    go_wp2_with (rw [HW1.out])
    refine HN.out.mono ?_
    rintro e wX ⟨rfl, hbX⟩
    go_wp2_with fail
    go_ret
    exact ⟨rfl, bl_step hbX hbA⟩
  | and l r ihl ihr =>
    intro hf x w v ht
    obtain ⟨q, c, c0, c1, c2, c3, c4, c5, c6, c7, rfl, ⟨h0, h1, h2, h3⟩, ⟨h4, h5, h6, h7⟩, ha, hb⟩ := ht.two
    clear ht
    obtain ⟨W1, hW1⟩ : ∃ W1, w.alloc (.cells #[.int .i64 4, .string nS, .int .i64 0, .slice (some ⟨q, 0, none⟩) 2 c] 33) = W1 := ⟨_, rfl⟩
    have hk := Blk.new w #[.int .i64 4, .string nS, .int .i64 0, .slice (some ⟨q, 0, none⟩) 2 c] 33
    have hbA := bl_alloc (bl_refl w) (.cells #[.int .i64 4, .string nS, .int .i64 0, .slice (some ⟨q, 0, none⟩) 2 c] 33)
    rw [hW1] at hk hbA
    obtain ⟨k0, k1, k2, k3⟩ := hk.fours
    have HW1 := Lib.hid hW1
    clear hW1 hk
    replace h0 := cell_below hbA h0
    replace h1 := cell_below hbA h1
    replace h2 := cell_below hbA h2
    replace h3 := cell_below hbA h3
    replace h4 := cell_below hbA h4
    replace h5 := cell_below hbA h5
    replace h6 := cell_below hbA h6
    replace h7 := cell_below hbA h7
    have HA := Lib.hid (ha.below hbA); have HB := Lib.hid (hb.below hbA)
    clear ha hb
    have hl := l.isI hf.1.ok
    have hr := r.isI hf.2.ok
    have IL := Lib.hid (ihl hf.1); have IR := Lib.hid (ihr hf.2)
    clear ihl ihr
    unfold GivesT at *
    unfold nS at *
    go_enter Tryz.func39, Tryz.ntmps39
    go_upto_region 9 with (rw [HW1.out])
    have HA1 := Lib.hid (HA.out.below (bl_drew (bl_refl _)))
    go_region_held3 (fun w' => w'.cell? ⟨w.heap.size, 3, none⟩ = some (.slice (some ⟨q, 0, none⟩) 2 c) ∧ w'.cell? ⟨q, 0, none⟩ = some c0 ∧ w'.cell? ⟨q, 1, none⟩ = some c1 ∧ w'.cell? ⟨q, 2, none⟩ = some c2 ∧ w'.cell? ⟨q, 3, none⟩ = some c3 ∧ w'.cell? ⟨q, 4, none⟩ = some c4 ∧ w'.cell? ⟨q, 5, none⟩ = some c5 ∧ w'.cell? ⟨q, 6, none⟩ = some c6 ∧ w'.cell? ⟨q, 7, none⟩ = some c7) (first | exact ⟨cell_below hbX k3, cell_below hbX h0, cell_below hbX h1, cell_below hbX h2, cell_below hbX h3, cell_below hbX h4, cell_below hbX h5, cell_below hbX h6, cell_below hbX h7⟩ | exact ⟨k3, h0, h1, h2, h3, h4, h5, h6, h7⟩ | go_keep) (((first | go_at_call 39 | go_at_call 39); first | (refine (IR.out x wX _ HB2.out).mono ?_; rintro e wY ⟨rfl, hb0⟩; have hbZ := bl_step hb0 hbX; clear hbX; have hbX := hbZ) | (refine (IL.out x W1.drew _ HA1.out).mono ?_; rintro e wX ⟨rfl, hb0⟩; have hbX := bl_step hb0 (bl_drew (bl_refl W1)); have HB2 := Lib.hid (HB.out.below hbX))))
    go_wp2_with fail
    go_ret
    exact ⟨rfl, bl_step hbX hbA⟩
  | or s l r ihl ihr =>
    intro hf x w v ht
    obtain ⟨q, c, c0, c1, c2, c3, c4, c5, c6, c7, rfl, ⟨h0, h1, h2, h3⟩, ⟨h4, h5, h6, h7⟩, ha, hb⟩ := ht.two
    clear ht
    obtain ⟨W1, hW1⟩ : ∃ W1, w.alloc (.cells #[.int .i64 5, .string s, .int .i64 0, .slice (some ⟨q, 0, none⟩) 2 c] 33) = W1 := ⟨_, rfl⟩
    have hk := Blk.new w #[.int .i64 5, .string s, .int .i64 0, .slice (some ⟨q, 0, none⟩) 2 c] 33
    have hbA := bl_alloc (bl_refl w) (.cells #[.int .i64 5, .string s, .int .i64 0, .slice (some ⟨q, 0, none⟩) 2 c] 33)
    rw [hW1] at hk hbA
    obtain ⟨k0, k1, k2, k3⟩ := hk.fours
    have HW1 := Lib.hid hW1
    clear hW1 hk
    replace h0 := cell_below hbA h0
    replace h1 := cell_below hbA h1
    replace h2 := cell_below hbA h2
    replace h3 := cell_below hbA h3
    replace h4 := cell_below hbA h4
    replace h5 := cell_below hbA h5
    replace h6 := cell_below hbA h6
    replace h7 := cell_below hbA h7
    have HA := Lib.hid (ha.below hbA); have HB := Lib.hid (hb.below hbA)
    clear ha hb
    have hl := l.isI hf.2.1.ok
    have hr := r.isI hf.2.2.ok
    have IL := Lib.hid (ihl hf.2.1); have IR := Lib.hid (ihr hf.2.2)
    clear ihl ihr
    unfold GivesT at *
    go_enter Tryz.func39, Tryz.ntmps39
    go_upto_region 11 with (rw [HW1.out])
    have HA1 := Lib.hid (HA.out.below (bl_drew (bl_refl _)))
    go_region_held3 (fun w' => w'.cell? ⟨w.heap.size, 1, none⟩ = some (.string s) ∧ w'.cell? ⟨w.heap.size, 3, none⟩ = some (.slice (some ⟨q, 0, none⟩) 2 c) ∧ w'.cell? ⟨q, 0, none⟩ = some c0 ∧ w'.cell? ⟨q, 1, none⟩ = some c1 ∧ w'.cell? ⟨q, 2, none⟩ = some c2 ∧ w'.cell? ⟨q, 3, none⟩ = some c3 ∧ w'.cell? ⟨q, 4, none⟩ = some c4 ∧ w'.cell? ⟨q, 5, none⟩ = some c5 ∧ w'.cell? ⟨q, 6, none⟩ = some c6 ∧ w'.cell? ⟨q, 7, none⟩ = some c7) (first | exact ⟨cell_below hbX k1, cell_below hbX k3, cell_below hbX h0, cell_below hbX h1, cell_below hbX h2, cell_below hbX h3, cell_below hbX h4, cell_below hbX h5, cell_below hbX h6, cell_below hbX h7⟩ | exact ⟨k1, k3, h0, h1, h2, h3, h4, h5, h6, h7⟩ | go_keep) (((first | go_at_call 39 | go_at_call 39); first | (refine (IR.out x wX _ HB2.out).mono ?_; rintro e wY ⟨rfl, hb0⟩; have hbZ := bl_step hb0 hbX; clear hbX; have hbX := hbZ) | (refine (IL.out x W1.drew _ HA1.out).mono ?_; rintro e wX ⟨rfl, hb0⟩; have hbX := bl_step hb0 (bl_drew (bl_refl W1)); have HB2 := Lib.hid (HB.out.below hbX))))
    go_wp2_with fail
    go_ret
    exact ⟨rfl, bl_step hbX hbA⟩
  | scale l r ihr =>
    intro hf x w v ht
    obtain ⟨q, c, c0, c1, c2, c3, c4, c5, c6, c7, rfl, ⟨h0, h1, h2, h3⟩, ⟨h4, h5, h6, h7⟩, ha, hb⟩ := ht.two
    clear ht
    obtain ⟨W1, hW1⟩ : ∃ W1, w.alloc (.cells #[.int .i64 6, .string nS, .int .i64 0, .slice (some ⟨q, 0, none⟩) 2 c] 33) = W1 := ⟨_, rfl⟩
    have hk := Blk.new w #[.int .i64 6, .string nS, .int .i64 0, .slice (some ⟨q, 0, none⟩) 2 c] 33
    have hbA := bl_alloc (bl_refl w) (.cells #[.int .i64 6, .string nS, .int .i64 0, .slice (some ⟨q, 0, none⟩) 2 c] 33)
    rw [hW1] at hk hbA
    obtain ⟨k0, k1, k2, k3⟩ := hk.fours
    have HW1 := Lib.hid hW1
    clear hW1 hk
    replace h0 := cell_below hbA h0
    replace h1 := cell_below hbA h1
    replace h2 := cell_below hbA h2
    replace h3 := cell_below hbA h3
    replace h4 := cell_below hbA h4
    replace h5 := cell_below hbA h5
    replace h6 := cell_below hbA h6
    replace h7 := cell_below hbA h7
    have HA := Lib.hid (ha.below hbA); have HB := Lib.hid (hb.below hbA)
    clear ha hb
    have hl := l.isI hf.1.ok
    have hr := r.isI hf.2.ok
    have IL := Lib.hid (cobs_calls l hf.1); have IR := Lib.hid (ihr hf.2)
    clear ihr
    unfold GivesT at *
    unfold GivesO at *
    unfold nS at *
    go_enter Tryz.func39, Tryz.ntmps39
    go_upto_region 13 with (rw [HW1.out])
    have HA1 := Lib.hid (HA.out.below (bl_drew (bl_refl _)))
    go_region_held3 (fun w' => w'.cell? ⟨w.heap.size, 3, none⟩ = some (.slice (some ⟨q, 0, none⟩) 2 c) ∧ w'.cell? ⟨q, 0, none⟩ = some c0 ∧ w'.cell? ⟨q, 1, none⟩ = some c1 ∧ w'.cell? ⟨q, 2, none⟩ = some c2 ∧ w'.cell? ⟨q, 3, none⟩ = some c3 ∧ w'.cell? ⟨q, 4, none⟩ = some c4 ∧ w'.cell? ⟨q, 5, none⟩ = some c5 ∧ w'.cell? ⟨q, 6, none⟩ = some c6 ∧ w'.cell? ⟨q, 7, none⟩ = some c7) (first | exact ⟨cell_below hbX k3, cell_below hbX h0, cell_below hbX h1, cell_below hbX h2, cell_below hbX h3, cell_below hbX h4, cell_below hbX h5, cell_below hbX h6, cell_below hbX h7⟩ | exact ⟨k3, h0, h1, h2, h3, h4, h5, h6, h7⟩ | go_keep) (((first | go_at_call 39 | go_at_call 73); first | (refine (IR.out x wX _ HB2.out).mono ?_; rintro e wY ⟨rfl, hb0⟩; have hbZ := bl_step hb0 hbX; clear hbX; have hbX := hbZ) | (refine (IL.out x W1.drew _ HA1.out).mono ?_; rintro e wX ⟨rfl, hb0⟩; have hbX := bl_step hb0 (bl_drew (bl_refl W1)); have HB2 := Lib.hid (HB.out.below hbX))))
    go_wp2_with fail
    go_ret
    exact ⟨rfl, bl_step hbX hbA⟩
  | when_ n l ihl =>
    intro hf x w v ht
    obtain ⟨q, c, c0, c1, c2, c3, rfl, ⟨h0, h1, h2, h3⟩, ha⟩ := ht.one
    clear ht
    obtain ⟨W1, hW1⟩ : ∃ W1, w.alloc (.cells #[.int .i64 7, .string nS, .int .i64 n, .slice (some ⟨q, 0, none⟩) 1 c] 33) = W1 := ⟨_, rfl⟩
    have hk := Blk.new w #[.int .i64 7, .string nS, .int .i64 n, .slice (some ⟨q, 0, none⟩) 1 c] 33
    have hbA := bl_alloc (bl_refl w) (.cells #[.int .i64 7, .string nS, .int .i64 n, .slice (some ⟨q, 0, none⟩) 1 c] 33)
    rw [hW1] at hk hbA
    obtain ⟨k0, k1, k2, k3⟩ := hk.fours
    have HW1 := Lib.hid hW1
    clear hW1 hk
    replace h0 := cell_below hbA h0
    replace h1 := cell_below hbA h1
    replace h2 := cell_below hbA h2
    replace h3 := cell_below hbA h3
    have HA := Lib.hid (ha.below hbA)
    clear ha
    have hl := l.isI hf.2.ok
    have IL := Lib.hid (ihl hf.2)
    clear ihl
    unfold GivesT at *
    unfold nS at *
    go_enter Tryz.func39, Tryz.ntmps39
    go_upto_region 15 with (rw [HW1.out])
    have HA1 := Lib.hid (HA.out.below (bl_drew (bl_refl _)))
    go_region_held3 (fun w' => w'.cell? ⟨w.heap.size, 2, none⟩ = some (.int .i64 n) ∧ w'.cell? ⟨w.heap.size, 3, none⟩ = some (.slice (some ⟨q, 0, none⟩) 1 c) ∧ w'.cell? ⟨q, 0, none⟩ = some c0 ∧ w'.cell? ⟨q, 1, none⟩ = some c1 ∧ w'.cell? ⟨q, 2, none⟩ = some c2 ∧ w'.cell? ⟨q, 3, none⟩ = some c3) (first | exact ⟨cell_below hbX k2, cell_below hbX k3, cell_below hbX h0, cell_below hbX h1, cell_below hbX h2, cell_below hbX h3⟩ | exact ⟨k2, k3, h0, h1, h2, h3⟩ | go_keep) ((go_at_call 39; refine (IL.out x W1.drew _ HA1.out).mono ?_; rintro e wX ⟨rfl, hb0⟩; have hbX := bl_step hb0 (bl_drew (bl_refl W1))))
    go_wp2_with fail
    go_ret
    exact ⟨rfl, bl_step hbX hbA⟩
  | if_ l r d ihr ihd =>
    intro hf x w v ht
    obtain ⟨q, c, c0, c1, c2, c3, c4, c5, c6, c7, c8, c9, ca, cb, rfl, ⟨h0, h1, h2, h3⟩, ⟨h4, h5, h6, h7⟩, ⟨h8, h9, h10, h11⟩, ha, hb, hd⟩ := ht.three
    clear ht
    obtain ⟨W1, hW1⟩ : ∃ W1, w.alloc (.cells #[.int .i64 8, .string nS, .int .i64 0, .slice (some ⟨q, 0, none⟩) 3 c] 33) = W1 := ⟨_, rfl⟩
    have hk := Blk.new w #[.int .i64 8, .string nS, .int .i64 0, .slice (some ⟨q, 0, none⟩) 3 c] 33
    have hbA := bl_alloc (bl_refl w) (.cells #[.int .i64 8, .string nS, .int .i64 0, .slice (some ⟨q, 0, none⟩) 3 c] 33)
    rw [hW1] at hk hbA
    obtain ⟨k0, k1, k2, k3⟩ := hk.fours
    have HW1 := Lib.hid hW1
    clear hW1 hk
    replace h0 := cell_below hbA h0
    replace h1 := cell_below hbA h1
    replace h2 := cell_below hbA h2
    replace h3 := cell_below hbA h3
    replace h4 := cell_below hbA h4
    replace h5 := cell_below hbA h5
    replace h6 := cell_below hbA h6
    replace h7 := cell_below hbA h7
    replace h8 := cell_below hbA h8
    replace h9 := cell_below hbA h9
    replace h10 := cell_below hbA h10
    replace h11 := cell_below hbA h11
    have HA := Lib.hid (ha.below hbA); have HB := Lib.hid (hb.below hbA); have HD := Lib.hid (hd.below hbA)
    clear ha hb hd
    have hl := l.isI hf.1.ok
    have hr := r.isI hf.2.1.ok
    have hd := d.isI hf.2.2.ok
    have IL := Lib.hid (cobs_calls l hf.1); have IR := Lib.hid (ihr hf.2.1); have ID := Lib.hid (ihd hf.2.2)
    clear ihr ihd
    unfold GivesT at *
    unfold GivesO at *
    unfold nS at *
    go_enter Tryz.func39, Tryz.ntmps39
    go_upto_region 17 with (rw [HW1.out])
    have HA1 := Lib.hid (HA.out.below (bl_drew (bl_refl _)))
    go_region_held3 (fun w' => w'.cell? ⟨w.heap.size, 3, none⟩ = some (.slice (some ⟨q, 0, none⟩) 3 c) ∧ w'.cell? ⟨q, 0, none⟩ = some c0 ∧ w'.cell? ⟨q, 1, none⟩ = some c1 ∧ w'.cell? ⟨q, 2, none⟩ = some c2 ∧ w'.cell? ⟨q, 3, none⟩ = some c3 ∧ w'.cell? ⟨q, 4, none⟩ = some c4 ∧ w'.cell? ⟨q, 5, none⟩ = some c5 ∧ w'.cell? ⟨q, 6, none⟩ = some c6 ∧ w'.cell? ⟨q, 7, none⟩ = some c7 ∧ w'.cell? ⟨q, 8, none⟩ = some c8 ∧ w'.cell? ⟨q, 9, none⟩ = some c9 ∧ w'.cell? ⟨q, 10, none⟩ = some ca ∧ w'.cell? ⟨q, 11, none⟩ = some cb) (first | exact ⟨cell_below hbX k3, cell_below hbX h0, cell_below hbX h1, cell_below hbX h2, cell_below hbX h3, cell_below hbX h4, cell_below hbX h5, cell_below hbX h6, cell_below hbX h7, cell_below hbX h8, cell_below hbX h9, cell_below hbX h10, cell_below hbX h11⟩ | exact ⟨k3, h0, h1, h2, h3, h4, h5, h6, h7, h8, h9, h10, h11⟩ | go_keep) (((first | go_at_call 39 | go_at_call 73); first | (refine (ID.out x wY _ HD2.out).mono ?_; rintro e wZ ⟨rfl, hb0⟩; have hbZ := bl_step hb0 hbX; clear hbX; have hbX := hbZ) | (refine (IR.out x wX _ HB2.out).mono ?_; rintro e wY ⟨rfl, hb0⟩; have hbZ := bl_step hb0 hbX; clear hbX; have hbX := hbZ; have HD2 := Lib.hid (HD.out.below hbX)) | (refine (IL.out x W1.drew _ HA1.out).mono ?_; rintro e wX ⟨rfl, hb0⟩; have hbX := bl_step hb0 (bl_drew (bl_refl W1)); have HB2 := Lib.hid (HB.out.below hbX))))
    go_wp2_with fail
    go_ret
    exact ⟨rfl, bl_step hbX hbA⟩
end Go.Proofs.YtapbkomicihkkaaGreatDoor
namespace Go.Proofs.YtapbkomicihkkaaGreatDoor
open Go.RowKit
set_option linter.unusedVariables false
set_option linter.unusedSimpArgs false

set_option maxRecDepth 100000 in
set_option maxHeartbeats 2000000 in
theorem cterm_nil (x : Nat) (w : World) (v : Value) (h : TrAt x w (.mk 0 nS 0 []) v) : Calls Tryz.prog 39 #[v] w (GivesT w (.odd .nilIface)) := by
  obtain ⟨A, c, cs, rfl, -, -⟩ := h.open_
  simp only [Tr.kind, Tr.s, Tr.n, Tr.ks, List.length_nil]
  clear h
  unfold GivesT
  unfold nS
  obtain ⟨W1, hW1⟩ : ∃ W1, w.alloc (.cells #[.int .i64 0, .string ⟨#[]⟩, .int .i64 0, .slice A 0 c] 33) = W1 := ⟨_, rfl⟩
  have hk := Blk.new w #[.int .i64 0, .string ⟨#[]⟩, .int .i64 0, .slice A 0 c] 33
  have hbA := bl_alloc (bl_refl w) (.cells #[.int .i64 0, .string ⟨#[]⟩, .int .i64 0, .slice A 0 c] 33)
  rw [hW1] at hk hbA
  obtain ⟨k0, k1, k2, k3⟩ := hk.fours
  have HW1 := Lib.hid hW1
  clear hW1 hk
  go_enter Tryz.func39, Tryz.ntmps39
  go_wp2_with (rw [HW1.out])
  go_ret
  exact ⟨rfl, hbA⟩
theorem cterm_fit (t : Tm) (h : t.fit) (x : Nat) (w : World) (v : Value) (ht : TrAt x w t.tr v) : Calls Tryz.prog 39 #[v] w (GivesT w t) := by
  rcases h with rfl | h
  · exact cterm_nil x w v ht
  · exact cterm_calls t h.1 x w v ht
theorem Blk.set8 {w : World} {r : Nat} {a0 a1 a2 a3 a4 a5 a6 a7 : Value} {t : TypeId} (h : Blk w r #[a0, a1, a2, a3, a4, a5, a6, a7] t) (v0 v1 v2 v3 v4 v5 v6 v7 : Value) : Blk ((((((((w.setCell ⟨r, 0, none⟩ v0).setCell ⟨r, 1, none⟩ v1).setCell ⟨r, 2, none⟩ v2).setCell ⟨r, 3, none⟩ v3).setCell ⟨r, 4, none⟩ v4).setCell ⟨r, 5, none⟩ v5).setCell ⟨r, 6, none⟩ v6).setCell ⟨r, 7, none⟩ v7) r #[v0, v1, v2, v3, v4, v5, v6, v7] t := by
  have h' := ((((((((h.set 0 v0).set 1 v1).set 2 v2).set 3 v3).set 4 v4).set 5 v5).set 6 v6).set 7 v7)
  simpa only [List.setIfInBounds_toArray, List.set_cons_zero, List.set_cons_succ] using h'
theorem gb_set8 (w : World) (r : Nat) (v0 v1 v2 v3 v4 v5 v6 v7 : Value) : w.grownBy ((((((((w.setCell ⟨r, 0, none⟩ v0).setCell ⟨r, 1, none⟩ v1).setCell ⟨r, 2, none⟩ v2).setCell ⟨r, 3, none⟩ v3).setCell ⟨r, 4, none⟩ v4).setCell ⟨r, 5, none⟩ v5).setCell ⟨r, 6, none⟩ v6).setCell ⟨r, 7, none⟩ v7) (some r) := gb_sets r [(0, v0), (1, v1), (2, v2), (3, v3), (4, v4), (5, v5), (6, v6), (7, v7)] w
theorem results_V {fn : Func} {t : Tmp} (h : fn.results = #[.cell t 30]) (tmps : Array Value) (W : World) (r : Nat) (a0 a1 a2 a3 a4 a5 a6 a7 : Value) (ty : TypeId) (ht : tmps.getD t undef = .pointer (some ⟨r, 0, none⟩)) (hk : Blk W r #[a0, a1, a2, a3, a4, a5, a6, a7] ty) :
    (results fn tmps).run Tryz.prog W = .ok (.agg #[a0, a1, a2, a3, a4, a5, a6, a7]) W := by
  obtain ⟨k0, k1, k2, k3, k4, k5, k6, k7⟩ := hk.eight
  have ht' : tmps[t]?.getD undef = .pointer (some ⟨r, 0, none⟩) := by simpa using ht
  simp [results, h, ht', go_sem, k0, k1, k2, k3, k4, k5, k6, k7]
@[go_sem ↓] theorem bd_Event8 (parts : Array (Nat × Value)) : Instr.build 30 parts = bdN 30 parts := rfl
@[go_sem] theorem run_bd_Event8 (k d v : Int) (x1 x2 x3 x4 : ByteArray) (x7 : Value) (h7 : IsI x7) (W : World) : (bdN 30 #[(0, .int .i64 k), (1, .string x1), (2, .string x2), (3, .string x3), (4, .string x4), (5, .int .i64 d), (6, .int .i64 v), (7, x7)]).run Tryz.prog W = .ok (.agg #[.int .i64 k, .string x1, .string x2, .string x3, .string x4, .int .i64 d, .int .i64 v, x7]) W := by
  rcases h7 with rfl | ⟨_, _, rfl⟩ <;> kernel_rfl
/-- It returns an event, and leaves all as it was. -/
def RetEv (w : World) (e : Ev) (en : Ending) (w' : World) : Prop := en = .returned e.val ∧ Below w.heap.size w w'
set_option maxRecDepth 100000 in
set_option maxHeartbeats 8000000 in
theorem back_calls (e : Ev) (hf : e.term.fit) (x : Nat) (w : World) (v : Value) (h : EvAt x w e v) : Calls Tryz.prog 13 #[v] w (RetEv w e) := by
  obtain ⟨c0, c1, c2, c3, rfl, hT⟩ := h
  obtain ⟨A, c, cs, hag, -, -⟩ := hT.open_
  have hti := e.term.isI hf.ok
  have hok := hf.ok
  have htm := cterm_fit e.term hf x
  have hval : Hid (e.val = .agg #[.int .i64 e.kind, .string e.id, .string e.name, .string e.label, .string e.cur, .int .i64 e.day, .int .i64 e.value, e.term.val]) := rfl
  unfold RetEv
  rw [hval.out]
  clear hval
  have hcc : c0 = .int .i64 e.term.tr.kind ∧ c1 = .string e.term.tr.s ∧ c2 = .int .i64 e.term.tr.n ∧ c3 = .slice A e.term.tr.ks.length c := by injection hag with hag; simp at hag; exact hag
  obtain ⟨rfl, rfl, rfl, rfl⟩ := hcc
  clear hag
  have hte := e.term.one_ hf.ok
  have hk1 := (Blk.new w #[.int .i64 e.kind, .string e.id, .string e.name, .string e.label, .string e.cur, .int .i64 e.day, .int .i64 e.value, .int .i64 e.term.tr.kind, .string e.term.tr.s, .int .i64 e.term.tr.n, .slice A e.term.tr.ks.length c] 35).below (bl_alloc (bl_refl _) (.cells #[.int .i64 0, .string ⟨#[]⟩, .string ⟨#[]⟩, .string ⟨#[]⟩, .string ⟨#[]⟩, .int .i64 0, .int .i64 0, .nilIface] 30))
  have hk2 := Blk_new (w.alloc (.cells #[.int .i64 e.kind, .string e.id, .string e.name, .string e.label, .string e.cur, .int .i64 e.day, .int .i64 e.value, .int .i64 e.term.tr.kind, .string e.term.tr.s, .int .i64 e.term.tr.n, .slice A e.term.tr.ks.length c] 35)) #[.int .i64 0, .string ⟨#[]⟩, .string ⟨#[]⟩, .string ⟨#[]⟩, .string ⟨#[]⟩, .int .i64 0, .int .i64 0, .nilIface] 30 (w.heap.size + 1) (alloc_size _ _).symm
  have hb1 := bl_alloc (bl_alloc (bl_refl w) (.cells #[.int .i64 e.kind, .string e.id, .string e.name, .string e.label, .string e.cur, .int .i64 e.day, .int .i64 e.value, .int .i64 e.term.tr.kind, .string e.term.tr.s, .int .i64 e.term.tr.n, .slice A e.term.tr.ks.length c] 35)) (.cells #[.int .i64 0, .string ⟨#[]⟩, .string ⟨#[]⟩, .string ⟨#[]⟩, .string ⟨#[]⟩, .int .i64 0, .int .i64 0, .nilIface] 30)
  obtain ⟨W1, hW1⟩ : ∃ W1, (w.alloc (.cells #[.int .i64 e.kind, .string e.id, .string e.name, .string e.label, .string e.cur, .int .i64 e.day, .int .i64 e.value, .int .i64 e.term.tr.kind, .string e.term.tr.s, .int .i64 e.term.tr.n, .slice A e.term.tr.ks.length c] 35)).alloc (.cells #[.int .i64 0, .string ⟨#[]⟩, .string ⟨#[]⟩, .string ⟨#[]⟩, .string ⟨#[]⟩, .int .i64 0, .int .i64 0, .nilIface] 30) = W1 := ⟨_, rfl⟩
  rw [hW1] at hk1 hk2 hb1
  have HW1 := Lib.hid hW1; have HK1 := Lib.hid hk1; have HK2 := Lib.hid hk2; have HB1 := Lib.hid hb1; have HT1 := Lib.hid (hT.below hb1); have HTM := Lib.hid htm
  clear hW1 hk1 hk2 hb1 hT htm
  obtain ⟨k0, k1, k2, k3, k4, k5, k6, k7, k8, k9, k10⟩ := HK1.out.eleven
  go_enter Tryz.func13, Tryz.ntmps13
  go_upto_region 1 with fail
  rw [HW1.out]
  refine wp_region_noPanic ?_
  refine wp_region_held_drew (S := fun w' => w'.cell? ⟨w.heap.size, 0, none⟩ = some (.int .i64 e.kind) ∧ w'.cell? ⟨w.heap.size, 1, none⟩ = some (.string e.id) ∧ w'.cell? ⟨w.heap.size, 2, none⟩ = some (.string e.name) ∧ w'.cell? ⟨w.heap.size, 3, none⟩ = some (.string e.label) ∧ w'.cell? ⟨w.heap.size, 4, none⟩ = some (.string e.cur) ∧ w'.cell? ⟨w.heap.size, 5, none⟩ = some (.int .i64 e.day) ∧ w'.cell? ⟨w.heap.size, 6, none⟩ = some (.int .i64 e.value) ∧ w'.cell? ⟨w.heap.size, 7, none⟩ = some (.int .i64 e.term.tr.kind) ∧ w'.cell? ⟨w.heap.size, 8, none⟩ = some (.string e.term.tr.s) ∧ w'.cell? ⟨w.heap.size, 9, none⟩ = some (.int .i64 e.term.tr.n) ∧ w'.cell? ⟨w.heap.size, 10, none⟩ = some (.slice A e.term.tr.ks.length c)) (by kernel_rfl) ⟨k0, k1, k2, k3, k4, k5, k6, k7, k8, k9, k10⟩ (fun hH => ?_)
  clear k0 k1 k2 k3 k4 k5 k6 k7 k8 k9 k10 HW1
  refine wpAnyH_world (fun W => Below W1.heap.size W1 W) (bl_drew (bl_refl _)) (fun W2 hb2 => ?_)
  clear hH
  obtain ⟨k0, k1, k2, k3, k4, k5, k6, k7, k8, k9, k10⟩ := (HK1.out.below hb2).eleven
  have hH : W2.cell? ⟨w.heap.size, 0, none⟩ = some (.int .i64 e.kind) ∧ W2.cell? ⟨w.heap.size, 1, none⟩ = some (.string e.id) ∧ W2.cell? ⟨w.heap.size, 2, none⟩ = some (.string e.name) ∧ W2.cell? ⟨w.heap.size, 3, none⟩ = some (.string e.label) ∧ W2.cell? ⟨w.heap.size, 4, none⟩ = some (.string e.cur) ∧ W2.cell? ⟨w.heap.size, 5, none⟩ = some (.int .i64 e.day) ∧ W2.cell? ⟨w.heap.size, 6, none⟩ = some (.int .i64 e.value) ∧ W2.cell? ⟨w.heap.size, 7, none⟩ = some (.int .i64 e.term.tr.kind) ∧ W2.cell? ⟨w.heap.size, 8, none⟩ = some (.string e.term.tr.s) ∧ W2.cell? ⟨w.heap.size, 9, none⟩ = some (.int .i64 e.term.tr.n) ∧ W2.cell? ⟨w.heap.size, 10, none⟩ = some (.slice A e.term.tr.ks.length c) := ⟨k0, k1, k2, k3, k4, k5, k6, k7, k8, k9, k10⟩
  clear k0 k1 k2 k3 k4 k5 k6 k7 k8 k9 k10
  refine tkx 0 rfl ?_
  refine tkx 1 rfl ?_
  refine tkx 2 rfl ?_
  refine tkx 3 rfl ?_
  refine tkx 4 rfl ?_
  refine tkx 5 rfl ?_
  refine tkx 6 rfl ?_
  refine tkx 7 rfl ?_
  refine tkx 8 rfl ?_
  refine tkx 9 rfl ?_
  refine tkx 10 rfl ?_
  refine tkx 11 rfl ?_
  refine tkx 12 rfl ?_
  refine tkx 13 rfl ?_
  refine tkx 14 rfl ?_
  refine tkx 15 rfl ?_
  refine wpAnyH_ready (rs := [16]) (by kernel_rfl) (by simp) ?_
  refine AllReadyH.cons rfl (fun K hK => ?_) AllReadyH.nil
  (try go_simp)
  refine (HTM.out _ _ (HT1.out.below hb2)).mono ?_
  unfold GivesT
  rintro en W3 ⟨rfl, hb3⟩
  (try go_simp)
  have hb4 := bl_step hb3 hb2
  obtain ⟨k0, k1, k2, k3, k4, k5, k6, k7, k8, k9, k10⟩ := (HK1.out.below hb4).eleven
  refine hK.out _ _ ⟨k0, k1, k2, k3, k4, k5, k6, k7, k8, k9, k10⟩ (fun hH9 => ?_)
  clear hK K hH hb2 hb3 k0 k1 k2 k3 k4 k5 k6 k7 k8 k9 k10
  (try simp only [Act.put, List.setIfInBounds_toArray, List.set_cons_zero, List.set_cons_succ])
  refine tkx 17 rfl ?_
  have HK3 := Lib.hid (HK2.out.below hb4)
  obtain ⟨r0, r1, r2, r3, r4, r5, r6, r7⟩ := HK3.out.eight
  have rz := fun j => HK3.out.frozen j
  refine wpAnyH_ready (rs := [18]) (by kernel_rfl) (by simp) ?_
  refine AllReadyH.cons rfl (fun K hK => ?_) AllReadyH.nil
  (try go_simp)
  have hk5 := (HK1.out.below hb4).grown (gb_set8 W3 (w.heap.size + 1) (.int .i64 e.kind) (.string e.id) (.string e.name) (.string e.label) (.string e.cur) (.int .i64 e.day) (.int .i64 e.value) e.term.val) (fun e => by injection e with e; omega)
  obtain ⟨k0, k1, k2, k3, k4, k5, k6, k7, k8, k9, k10⟩ := hk5.eleven
  refine hK.out _ _ ⟨k0, k1, k2, k3, k4, k5, k6, k7, k8, k9, k10⟩ (fun hH8 => ?_)
  clear hK K hH9 hH8 k0 k1 k2 k3 k4 k5 k6 k7 k8 k9 k10 hk5
  (try simp only [Act.put, List.setIfInBounds_toArray, List.set_cons_zero, List.set_cons_succ])
  refine wpAnyH_done (by kernel_rfl) ?_ _
  refine NoPanic.normal ?_
  clear r0 r1 r2 r3 r4 r5 r6 r7 rz
  have HB4 := Lib.hid hb4
  clear hb4
  go_wp2_with fail
  (try simp only [Exit.inBlock, Exit.then])
  refine bodyPost_ret (results_V rfl _ _ (w.heap.size + 1) _ _ _ _ _ _ _ _ _ rfl (HK3.out.set8 _ _ _ _ _ _ _ _)) rfl ?_
  exact ⟨rfl, bl_grown (bl_step HB4.out HB1.out) (gb_set8 _ _ _ _ _ _ _ _ _ _) (by omega)⟩
end Go.Proofs.YtapbkomicihkkaaGreatDoor
namespace Go.Proofs.YtapbkomicihkkaaGreatDoor
open Go.RowKit
set_option linter.unusedVariables false
set_option linter.unusedSimpArgs false

/-- It returns a tree, in new memory. -/
def GivesP (w : World) (t : Tr) (e : Ending) (w' : World) : Prop := ∃ v, e = .returned v ∧ TrAt w.heap.size w' t v ∧ Below w.heap.size w w'
/-- A tree that keeps whatever becomes of block q. -/
def TrK (q x : Nat) (W : World) (t : Tr) (v : Value) : Prop := ∀ W', W.grownBy W' (some q) → TrAt x W' t v
theorem TrK.at_ {q x : Nat} {W : World} {t : Tr} {v : Value} (h : TrK q x W t v) : TrAt x W t v := h W (gb_refl _ _)
theorem TrK.old {q x : Nat} {W0 W : World} {t : Tr} {v : Value} (h : TrAt x W0 t v) (hb : Below W0.heap.size W0 W) (hq : W0.heap.size ≤ q) : TrK q x W t v := fun _ hg => h.below (bl_grown hb hg hq)
theorem TrK.new {q x y : Nat} {W : World} {t : Tr} {v : Value} (h : TrAt y W t v) (hq : q < y) (hx : x ≤ y) : TrK q x W t v := fun _ hg => (h.grown hg hq).mono hx
theorem TrK.below {q x : Nat} {W W' : World} {t : Tr} {v : Value} (h : TrK q x W t v) (hb : Below W.heap.size W W') : TrK q x W' t v := fun _ hg => h _ (gb_trans (gb_below hb _) hg)
def GivesK (q x : Nat) (w : World) (t : Tr) (e : Ending) (w' : World) : Prop := ∃ v, e = .returned v ∧ TrK q x w' t v ∧ Below w.heap.size w w'
def GivesX (x : Nat) (w : World) (t : Tr) (e : Ending) (w' : World) : Prop := ∃ v, e = .returned v ∧ TrAt x w' t v ∧ Below w.heap.size w w'
@[go_sem ↓] theorem bd_T (parts : Array (Nat × Value)) : Instr.build 33 parts = bdN 33 parts := rfl
@[go_sem] theorem run_bd_T0 (W : World) : (bdN 33 #[]).run Tryz.prog W = .ok (.agg #[.int .i64 0, .string ⟨#[]⟩, .int .i64 0, .slice none 0 0]) W := by kernel_rfl
@[go_sem] theorem run_bd_Tk (k : Int) (W : World) : (bdN 33 #[(0, .int .i64 k)]).run Tryz.prog W = .ok (.agg #[.int .i64 k, .string ⟨#[]⟩, .int .i64 0, .slice none 0 0]) W := by kernel_rfl
@[go_sem] theorem run_bd_Tks (k : Int) (s : ByteArray) (W : World) : (bdN 33 #[(0, .int .i64 k), (1, .string s)]).run Tryz.prog W = .ok (.agg #[.int .i64 k, .string s, .int .i64 0, .slice none 0 0]) W := by kernel_rfl
@[go_sem] theorem run_bd_Tkn (k n : Int) (W : World) : (bdN 33 #[(0, .int .i64 k), (2, .int .i64 n)]).run Tryz.prog W = .ok (.agg #[.int .i64 k, .string ⟨#[]⟩, .int .i64 n, .slice none 0 0]) W := by kernel_rfl
@[go_sem] theorem run_bd_TkK (k : Int) (A : Option Addr) (n c : Nat) (W : World) : (bdN 33 #[(0, .int .i64 k), (3, .slice A n c)]).run Tryz.prog W = .ok (.agg #[.int .i64 k, .string ⟨#[]⟩, .int .i64 0, .slice A n c]) W := by kernel_rfl
@[go_sem] theorem run_bd_TknK (k m : Int) (A : Option Addr) (n c : Nat) (W : World) : (bdN 33 #[(0, .int .i64 k), (2, .int .i64 m), (3, .slice A n c)]).run Tryz.prog W = .ok (.agg #[.int .i64 k, .string ⟨#[]⟩, .int .i64 m, .slice A n c]) W := by kernel_rfl
set_option maxRecDepth 100000 in
set_option maxHeartbeats 4000000 in
theorem two_keep (k : Int) (l r : Tr) (vl vr : Value) (q x : Nat) (w : World) (hx : x ≤ w.heap.size) (hq : q ≤ w.heap.size) (hl : TrK q x w l vl) (hr : TrK q x w r vr) :
    Calls Tryz.prog 93 #[.int .i64 k, vl, vr] w (GivesK q x w (.mk k nS 0 [l, r])) := by
  obtain ⟨A1, c1, cs1, rfl, -, -⟩ := hl.at_.open_
  obtain ⟨A2, c2, cs2, rfl, -, -⟩ := hr.at_.open_
  unfold GivesK
  generalize h1 : l.kind = k1 at *
  generalize h2 : l.s = s1 at *
  generalize h3 : l.n = n1 at *
  generalize h4 : l.ks.length = m1 at *
  generalize h5 : r.kind = k2 at *
  generalize h6 : r.s = s2 at *
  generalize h7 : r.n = n2 at *
  generalize h8 : r.ks.length = m2 at *
  clear h1 h2 h3 h4 h5 h6 h7 h8
  have HL := Lib.hid hl; have HR := Lib.hid hr; have HX := Lib.hid hx; have HQ := Lib.hid hq
  clear hl hr hx hq
  obtain ⟨W1, hW1⟩ : ∃ W1, ((w.alloc (.cells #[.int .i64 k1, .string s1, .int .i64 n1, .slice A1 m1 c1] 33)).alloc (.cells #[.int .i64 k2, .string s2, .int .i64 n2, .slice A2 m2 c2] 33)).alloc (.cells #[.int .i64 0, .string ⟨#[]⟩, .int .i64 0, .slice none 0 0] 33) = W1 := ⟨_, rfl⟩
  have hb1 := bl_alloc (bl_alloc (bl_alloc (bl_refl w) (.cells #[.int .i64 k1, .string s1, .int .i64 n1, .slice A1 m1 c1] 33)) (.cells #[.int .i64 k2, .string s2, .int .i64 n2, .slice A2 m2 c2] 33)) (.cells #[.int .i64 0, .string ⟨#[]⟩, .int .i64 0, .slice none 0 0] 33)
  have ha1 := ((Blk.new w #[.int .i64 k1, .string s1, .int .i64 n1, .slice A1 m1 c1] 33).below (bl_alloc (bl_refl _) (.cells #[.int .i64 k2, .string s2, .int .i64 n2, .slice A2 m2 c2] 33))).below (bl_alloc (bl_refl _) (.cells #[.int .i64 0, .string ⟨#[]⟩, .int .i64 0, .slice none 0 0] 33))
  have ha2 := (Blk_new (w.alloc (.cells #[.int .i64 k1, .string s1, .int .i64 n1, .slice A1 m1 c1] 33)) #[.int .i64 k2, .string s2, .int .i64 n2, .slice A2 m2 c2] 33 (w.heap.size + 1) (alloc_size _ _).symm).below (bl_alloc (bl_refl _) (.cells #[.int .i64 0, .string ⟨#[]⟩, .int .i64 0, .slice none 0 0] 33))
  have ha3 := Blk_new ((w.alloc (.cells #[.int .i64 k1, .string s1, .int .i64 n1, .slice A1 m1 c1] 33)).alloc (.cells #[.int .i64 k2, .string s2, .int .i64 n2, .slice A2 m2 c2] 33)) #[.int .i64 0, .string ⟨#[]⟩, .int .i64 0, .slice none 0 0] 33 (w.heap.size + 1 + 1) (by rw [alloc_size, alloc_size])
  rw [hW1] at hb1 ha1 ha2 ha3
  have hs1 : W1.heap.size = w.heap.size + 1 + 1 + 1 := by rw [← hW1, alloc_size, alloc_size, alloc_size]
  obtain ⟨x0, x1, x2, x3⟩ := ha1.fours
  obtain ⟨y0, y1, y2, y3⟩ := ha2.fours
  obtain ⟨⟨z0, z1, z2, z3⟩, ⟨f0, f1, f2, f3⟩⟩ := ha3.four
  have hlt := ha3.lt
  have HW1 := Lib.hid hW1; have HB1 := Lib.hid hb1; have HA3 := Lib.hid ha3; have HS1 := Lib.hid hs1
  clear hW1 hb1 ha1 ha2 ha3 hs1
  go_enter Tryz.func93, Tryz.ntmps93
  go_upto_region 1 with fail
  rw [HW1.out]
  clear HW1
  go_wp2_with fail
  (try simp only [Exit.inBlock, Exit.then])
  refine bodyPost_ret (results_T rfl _ _ (w.heap.size + 1 + 1) _ _ _ _ _ rfl ((HA3.out.set4 _ _ _ _).below (bl_alloc (bl_refl _) _))) rfl ?_
  have hs := HS1.out
  have hx := HX.out
  have hbF := bl_alloc (bl_grown HB1.out (gb4 W1 (w.heap.size + 1 + 1) (.int .i64 k) (.string ⟨#[]⟩) (.int .i64 0) (.slice (some ⟨W1.heap.size, 0, none⟩) 2 2)) (by omega)) (.cells #[.int .i64 k1, .string s1, .int .i64 n1, .slice A1 m1 c1, .int .i64 k2, .string s2, .int .i64 n2, .slice A2 m2 c2] 33)
  have hkF := Blk_new ((((W1.setCell ⟨w.heap.size + 1 + 1, 0, none⟩ (.int .i64 k)).setCell ⟨w.heap.size + 1 + 1, 1, none⟩ (.string ⟨#[]⟩)).setCell ⟨w.heap.size + 1 + 1, 2, none⟩ (.int .i64 0)).setCell ⟨w.heap.size + 1 + 1, 3, none⟩ (.slice (some ⟨W1.heap.size, 0, none⟩) 2 2)) #[.int .i64 k1, .string s1, .int .i64 n1, .slice A1 m1 c1, .int .i64 k2, .string s2, .int .i64 n2, .slice A2 m2 c2] 33 W1.heap.size (size_set4 _ _ _ _ _ _).symm
  have hqq := HQ.out
  refine ⟨_, rfl, fun W' hg => ?_, hbF⟩
  have hgw := gb_trans (gb_below hbF (some q)) hg
  exact TrAt.mk_ (k := k) (s := nS) (n := 0) (c := 2) (RowOf.new (x := x) (hkF.grown hg (fun e => by injection e with e; omega)) (by omega)) (TrsAt.cons (HL.out _ hgw) (TrsAt.cons (HR.out _ hgw) (TrsAt.nil _ _)))
theorem two_calls (k : Int) (l r : Tr) (vl vr : Value) (x : Nat) (w : World) (hx : x ≤ w.heap.size) (hl : TrAt x w l vl) (hr : TrAt x w r vr) :
    Calls Tryz.prog 93 #[.int .i64 k, vl, vr] w (GivesX x w (.mk k nS 0 [l, r])) :=
  (two_keep k l r vl vr w.heap.size x w hx (Nat.le_refl _) (TrK.old hl (bl_refl _) (Nat.le_refl _)) (TrK.old hr (bl_refl _) (Nat.le_refl _))).mono fun e w' ⟨v, he, hT, hb⟩ => ⟨v, he, hT.at_, hb⟩
set_option maxRecDepth 100000 in
set_option maxHeartbeats 4000000 in
theorem pobs_leaf (o : Ob) (ho : o.ok) (hk : o.kids = []) (w : World) : Calls Tryz.prog 94 #[o.val] w (GivesP w o.tr) := by
  unfold GivesP
  cases o with
  | const n =>
    unfold Ob.val Ob.tr
    obtain ⟨W1, hW1⟩ : ∃ W1, (w.alloc (.cells #[.int .i64 0, .string ⟨#[]⟩, .int .i64 0, .slice none 0 0] 33)).alloc (.cells #[.int .i64 n] 143) = W1 := ⟨_, rfl⟩
    have hb1 := bl_alloc (bl_alloc (bl_refl w) (.cells #[.int .i64 0, .string ⟨#[]⟩, .int .i64 0, .slice none 0 0] 33)) (.cells #[.int .i64 n] 143)
    have hkR := (Blk.new w #[.int .i64 0, .string ⟨#[]⟩, .int .i64 0, .slice none 0 0] 33).below (bl_alloc (bl_refl _) (.cells #[.int .i64 n] 143))
    have hkX := Blk_new (w.alloc (.cells #[.int .i64 0, .string ⟨#[]⟩, .int .i64 0, .slice none 0 0] 33)) #[.int .i64 n] 143 (w.heap.size + 1) (alloc_size _ _).symm
    rw [hW1] at hb1 hkR hkX
    have hlt := hkR.lt
    have hltX := hkX.lt
    have HW1 := Lib.hid hW1; have HB1 := Lib.hid hb1; have HKR := Lib.hid hkR; have HKX := Lib.hid hkX
    clear hW1 hb1 hkR hkX
    obtain ⟨⟨r0, r1, r2, r3⟩, ⟨f0, f1, f2, f3⟩⟩ := HKR.out.four
    have x0 := HKX.out.cell 0
    go_enter Tryz.func94, Tryz.ntmps94
    go_upto_region 4 with fail
    rw [HW1.out]
    go_wp2_with fail
    (try simp only [Exit.inBlock, Exit.then])
    refine bodyPost_ret (results_T rfl _ _ w.heap.size _ _ _ _ _ rfl ((HKR.out).set4 _ _ _ _)) rfl ?_
    exact ⟨_, rfl, TrAt.leaf _ _ _ _ _ _, bl_grown HB1.out (gb4 _ _ _ _ _ _) (Nat.le_refl _)⟩
  | fix s =>
    unfold Ob.val Ob.tr
    obtain ⟨W1, hW1⟩ : ∃ W1, (w.alloc (.cells #[.int .i64 0, .string ⟨#[]⟩, .int .i64 0, .slice none 0 0] 33)).alloc (.cells #[.string s] 203) = W1 := ⟨_, rfl⟩
    have hb1 := bl_alloc (bl_alloc (bl_refl w) (.cells #[.int .i64 0, .string ⟨#[]⟩, .int .i64 0, .slice none 0 0] 33)) (.cells #[.string s] 203)
    have hkR := (Blk.new w #[.int .i64 0, .string ⟨#[]⟩, .int .i64 0, .slice none 0 0] 33).below (bl_alloc (bl_refl _) (.cells #[.string s] 203))
    have hkX := Blk_new (w.alloc (.cells #[.int .i64 0, .string ⟨#[]⟩, .int .i64 0, .slice none 0 0] 33)) #[.string s] 203 (w.heap.size + 1) (alloc_size _ _).symm
    rw [hW1] at hb1 hkR hkX
    have hlt := hkR.lt
    have hltX := hkX.lt
    have HW1 := Lib.hid hW1; have HB1 := Lib.hid hb1; have HKR := Lib.hid hkR; have HKX := Lib.hid hkX
    clear hW1 hb1 hkR hkX
    obtain ⟨⟨r0, r1, r2, r3⟩, ⟨f0, f1, f2, f3⟩⟩ := HKR.out.four
    have x0 := HKX.out.cell 0
    go_enter Tryz.func94, Tryz.ntmps94
    go_upto_region 7 with fail
    rw [HW1.out]
    go_wp2_with fail
    (try simp only [Exit.inBlock, Exit.then])
    refine bodyPost_ret (results_T rfl _ _ w.heap.size _ _ _ _ _ rfl ((HKR.out).set4 _ _ _ _)) rfl ?_
    exact ⟨_, rfl, TrAt.leaf _ _ _ _ _ _, bl_grown HB1.out (gb4 _ _ _ _ _ _) (Nat.le_refl _)⟩
  | odd v =>
    have hkR := Blk.new w #[.int .i64 0, .string ⟨#[]⟩, .int .i64 0, .slice none 0 0] 33
    have hb1 := bl_alloc (bl_refl w) (.cells #[.int .i64 0, .string ⟨#[]⟩, .int .i64 0, .slice none 0 0] 33)
    unfold Ob.tr
    rcases ho with h | ⟨t, x, h, h1, h2, h3, h4, h5, h6⟩
    all_goals
      subst h
      unfold Ob.val
      go_enter Tryz.func94, Tryz.ntmps94
      go_wp2_with fail
      (try simp only [Exit.inBlock, Exit.then])
      refine bodyPost_ret (results_T rfl _ _ w.heap.size _ _ _ _ _ rfl (Blk.new w _ _)) rfl ?_
      exact ⟨_, rfl, TrAt.leaf _ _ _ _ _ _, bl_alloc (bl_refl w) _⟩
  | _ => cases hk
set_option maxRecDepth 100000 in
set_option maxHeartbeats 4000000 in
theorem plobs_calls : ∀ (o : Ob), o.ok → ∀ (w : World), Calls Tryz.prog 94 #[o.val] w (GivesP w o.tr) := by
  intro o
  induction o with
  | const n => intro ho w; exact pobs_leaf _ ho rfl w
  | fix s => intro ho w; exact pobs_leaf _ ho rfl w
  | odd v => intro ho w; exact pobs_leaf _ ho rfl w
  | neg o ih =>
    intro ho w
    unfold GivesP
    have hok : o.ok := ho
    have hl := o.isI hok
    have IH := Lib.hid (ih hok)
    clear ih
    unfold GivesP at IH
    unfold Ob.val Ob.tr
    obtain ⟨W1, hW1⟩ : ∃ W1, (w.alloc (.cells #[.int .i64 0, .string ⟨#[]⟩, .int .i64 0, .slice none 0 0] 33)).alloc (.cells #[o.val] 213) = W1 := ⟨_, rfl⟩
    have hb1 := bl_alloc (bl_alloc (bl_refl w) (.cells #[.int .i64 0, .string ⟨#[]⟩, .int .i64 0, .slice none 0 0] 33)) (.cells #[o.val] 213)
    have hkR := (Blk.new w #[.int .i64 0, .string ⟨#[]⟩, .int .i64 0, .slice none 0 0] 33).below (bl_alloc (bl_refl _) (.cells #[o.val] 213))
    have hkX := Blk_new (w.alloc (.cells #[.int .i64 0, .string ⟨#[]⟩, .int .i64 0, .slice none 0 0] 33)) #[o.val] 213 (w.heap.size + 1) (alloc_size _ _).symm
    rw [hW1] at hb1 hkR hkX
    have hlt := hkR.lt
    have hltX := hkX.lt
    have HW1 := Lib.hid hW1; have HB1 := Lib.hid hb1; have HKR := Lib.hid hkR; have HKX := Lib.hid hkX
    clear hW1 hb1 hkR hkX
    have x0 := HKX.out.cell 0
    simp only [List.getElem?_toArray, List.getElem?_cons_zero, List.getElem?_cons_succ] at x0
    go_enter Tryz.func94, Tryz.ntmps94
    go_upto_region 13 with fail
    rw [HW1.out]
    go_wp2_with fail
    refine (IH.out _).mono ?_
    rintro en w2 ⟨v, rfl, hT, hb2⟩
    obtain ⟨A2, c2, cs2, rfl, -, -⟩ := hT.open_
    have hb3 := bl_step hb2 HB1.out
    have hkR2 := HKR.out.below hb2
    have hlt2 := hkR2.lt
    obtain ⟨⟨r0, r1, r2, r3⟩, ⟨f0, f1, f2, f3⟩⟩ := hkR2.four
    have HT := Lib.hid hT; have HB3 := Lib.hid hb3; have HKR2 := Lib.hid hkR2
    clear hT hb3 hkR2
    go_wp2_with fail
    (try simp only [Exit.inBlock, Exit.then])
    refine bodyPost_ret (results_T rfl _ _ w.heap.size _ _ _ _ _ rfl ((HKR2.out.set4 _ _ _ _).below (bl_alloc (bl_refl _) _))) rfl ?_
    have hlt1 := HB1.out.size
    refine ⟨_, rfl, TrAt.mk_ (RowOf.new (Blk_new _ _ _ w2.heap.size (size_set4 _ _ _ _ _ _).symm) (by omega)) (TrsAt.cons (TrAt.mono (((HT.out).set4 (r := w.heap.size) (by have := HKX.out.lt; omega) _ _ _ _).below (bl_alloc (bl_refl _) _)) (by omega)) (TrsAt.nil _ _)), bl_alloc (bl_grown HB3.out (gb4 _ _ _ _ _ _) (Nat.le_refl _)) _⟩
  | add l r ihl ihr =>
    intro ho w
    unfold GivesP
    have hok := ho
    have hl := l.isI ho.1
    have hr := r.isI ho.2
    have hol := ho.1; have hor := ho.2
    have IL := Lib.hid (ihl ho.1); have IR := Lib.hid (ihr ho.2)
    clear ihl ihr
    unfold Ob.val Ob.tr
    obtain ⟨W1, hW1⟩ : ∃ W1, (w.alloc (.cells #[.int .i64 0, .string ⟨#[]⟩, .int .i64 0, .slice none 0 0] 33)).alloc (.cells #[l.val, r.val] 211) = W1 := ⟨_, rfl⟩
    have hb1 := bl_alloc (bl_alloc (bl_refl w) (.cells #[.int .i64 0, .string ⟨#[]⟩, .int .i64 0, .slice none 0 0] 33)) (.cells #[l.val, r.val] 211)
    have hkR := (Blk.new w #[.int .i64 0, .string ⟨#[]⟩, .int .i64 0, .slice none 0 0] 33).below (bl_alloc (bl_refl _) (.cells #[l.val, r.val] 211))
    have hkX := Blk_new (w.alloc (.cells #[.int .i64 0, .string ⟨#[]⟩, .int .i64 0, .slice none 0 0] 33)) #[l.val, r.val] 211 (w.heap.size + 1) (alloc_size _ _).symm
    rw [hW1] at hb1 hkR hkX
    have hlt := hkR.lt
    have hltX := hkX.lt
    have HW1 := Lib.hid hW1; have HB1 := Lib.hid hb1; have HKR := Lib.hid hkR; have HKX := Lib.hid hkX
    clear hW1 hb1 hkR hkX
    have x0 := HKX.out.cell 0
    have x1 := HKX.out.cell 1
    simp only [List.getElem?_toArray, List.getElem?_cons_zero, List.getElem?_cons_succ] at x0 x1
    unfold GivesP at IL IR
    go_enter Tryz.func94, Tryz.ntmps94
    go_upto_region 10 with fail
    rw [HW1.out]
    refine wp_region_noPanic ?_
    refine wp_region_held_drew (S := fun w' => w'.cell? ⟨w.heap.size + 1, 0, none⟩ = some l.val ∧ w'.cell? ⟨w.heap.size + 1, 1, none⟩ = some r.val) (by kernel_rfl) ⟨x0, x1⟩ (fun hH => ?_)
    clear x0 x1 HW1
    refine wpAnyH_world (fun W => Below W1.heap.size W1 W) (bl_drew (bl_refl _)) (fun W2 hb2 => ?_)
    clear hH
    have hH : W2.cell? ⟨w.heap.size + 1, 0, none⟩ = some l.val ∧ W2.cell? ⟨w.heap.size + 1, 1, none⟩ = some r.val := ⟨(HKX.out.below hb2).cell 0, (HKX.out.below hb2).cell 1⟩
    refine tkx 0 rfl ?_
    refine tkx 1 rfl ?_
    refine tkx 3 rfl ?_
    refine tkx 4 rfl ?_
    refine wpAnyH_ready (rs := [2]) (by kernel_rfl) (by simp) ?_
    refine AllReadyH.cons rfl (fun K hK => ?_) AllReadyH.nil
    (try go_simp)
    refine (IL.out _).mono ?_
    rintro en W3 ⟨v1, rfl, hT1, hb3⟩
    (try go_simp)
    have hb4 := bl_step hb3 hb2
    refine hK.out _ _ ⟨(HKX.out.below hb4).cell 0, (HKX.out.below hb4).cell 1⟩ (fun hH9 => ?_)
    clear hK K hH
    have hH := hH9
    clear hH9
    (try dsimp only [Act.put, List.setIfInBounds_toArray, List.set_cons_zero, List.set_cons_succ])
    refine wpAnyH_ready (rs := [5]) (by kernel_rfl) (by simp) ?_
    refine AllReadyH.cons rfl (fun K hK => ?_) AllReadyH.nil
    (try go_simp)
    refine (IR.out _).mono ?_
    rintro en W4 ⟨v2, rfl, hT2, hb5⟩
    (try go_simp)
    have hb6 := bl_step hb5 hb4
    refine hK.out _ _ ⟨(HKX.out.below hb6).cell 0, (HKX.out.below hb6).cell 1⟩ (fun hH9 => ?_)
    clear hK K hH
    have hH := hH9
    clear hH9
    (try dsimp only [Act.put, List.setIfInBounds_toArray, List.set_cons_zero, List.set_cons_succ])
    refine wpAnyH_ready (rs := [6]) (by kernel_rfl) (by simp) ?_
    refine AllReadyH.cons rfl (fun K hK => ?_) AllReadyH.nil
    (try go_simp)
    have hz2 := hb2.size
    have hz3 := hb3.size
    have hz5 := hb5.size
    refine (two_calls 13 l.tr r.tr v1 v2 W1.heap.size W4 (by omega) ((hT1.below hb5).mono (by omega)) (hT2.mono (by omega))).mono ?_
    unfold GivesX
    rintro en W5 ⟨v3, rfl, hT3, hb7⟩
    obtain ⟨A3, c3, cs3, rfl, -, -⟩ := hT3.open_
    simp only [Tr.kind, Tr.s, Tr.n, Tr.ks, List.length_cons, List.length_nil] at hT3 ⊢
    (try go_simp)
    have hb8 := bl_step hb7 hb6
    refine hK.out _ _ ⟨(HKX.out.below hb8).cell 0, (HKX.out.below hb8).cell 1⟩ (fun hH9 => ?_)
    clear hK K hH hH9
    (try dsimp only [Act.put, List.setIfInBounds_toArray, List.set_cons_zero, List.set_cons_succ])
    have HKR5 := Lib.hid (HKR.out.below hb8); have HT3 := Lib.hid hT3; have HB8 := Lib.hid hb8
    clear hT1 hT2 hT3 hb2 hb3 hb4 hb5 hb6 hb7 hz2 hz3 hz5
    obtain ⟨⟨r0, r1, r2, r3⟩, ⟨f0, f1, f2, f3⟩⟩ := HKR5.out.four
    refine wpAnyH_ready (rs := [7]) (by kernel_rfl) (by simp) ?_
    refine AllReadyH.cons rfl (fun K hK => ?_) AllReadyH.nil
    (try go_simp)
    have hkX9 := (HKX.out.below hb8).grown (gb4 W5 w.heap.size (.int .i64 13) (.string nS) (.int .i64 0) (.slice A3 (0 + 1 + 1) c3)) (fun e => by injection e with e; omega)
    refine hK.out _ _ ⟨hkX9.cell 0, hkX9.cell 1⟩ (fun hH9 => ?_)
    clear hK K hH9 hkX9 hb8 r0 r1 r2 r3 f0 f1 f2 f3
    (try dsimp only [Act.put, List.setIfInBounds_toArray, List.set_cons_zero, List.set_cons_succ])
    refine wpAnyH_done (by kernel_rfl) ?_ _
    refine NoPanic.normal ?_
    go_wp2_with fail
    (try simp only [Exit.inBlock, Exit.then])
    refine bodyPost_ret (results_T rfl _ _ w.heap.size _ _ _ _ _ rfl ((HKR5.out).set4 _ _ _ _)) rfl ?_
    have hlt1 := HB1.out.size
    refine ⟨_, rfl, TrAt.mono (HT3.out.set4 (r := w.heap.size) (by omega) _ _ _ _) (by omega), bl_grown (bl_step HB8.out HB1.out) (gb4 _ _ _ _ _ _) (Nat.le_refl _)⟩
  | mul l r ihl ihr =>
    intro ho w
    unfold GivesP
    have hok := ho
    have hl := l.isI ho.1
    have hr := r.isI ho.2
    have hol := ho.1; have hor := ho.2
    have IL := Lib.hid (ihl ho.1); have IR := Lib.hid (ihr ho.2)
    clear ihl ihr
    unfold Ob.val Ob.tr
    obtain ⟨W1, hW1⟩ : ∃ W1, (w.alloc (.cells #[.int .i64 0, .string ⟨#[]⟩, .int .i64 0, .slice none 0 0] 33)).alloc (.cells #[l.val, r.val] 214) = W1 := ⟨_, rfl⟩
    have hb1 := bl_alloc (bl_alloc (bl_refl w) (.cells #[.int .i64 0, .string ⟨#[]⟩, .int .i64 0, .slice none 0 0] 33)) (.cells #[l.val, r.val] 214)
    have hkR := (Blk.new w #[.int .i64 0, .string ⟨#[]⟩, .int .i64 0, .slice none 0 0] 33).below (bl_alloc (bl_refl _) (.cells #[l.val, r.val] 214))
    have hkX := Blk_new (w.alloc (.cells #[.int .i64 0, .string ⟨#[]⟩, .int .i64 0, .slice none 0 0] 33)) #[l.val, r.val] 214 (w.heap.size + 1) (alloc_size _ _).symm
    rw [hW1] at hb1 hkR hkX
    have hlt := hkR.lt
    have hltX := hkX.lt
    have HW1 := Lib.hid hW1; have HB1 := Lib.hid hb1; have HKR := Lib.hid hkR; have HKX := Lib.hid hkX
    clear hW1 hb1 hkR hkX
    have x0 := HKX.out.cell 0
    have x1 := HKX.out.cell 1
    simp only [List.getElem?_toArray, List.getElem?_cons_zero, List.getElem?_cons_succ] at x0 x1
    unfold GivesP at IL IR
    go_enter Tryz.func94, Tryz.ntmps94
    go_upto_region 16 with fail
    rw [HW1.out]
    refine wp_region_noPanic ?_
    refine wp_region_held_drew (S := fun w' => w'.cell? ⟨w.heap.size + 1, 0, none⟩ = some l.val ∧ w'.cell? ⟨w.heap.size + 1, 1, none⟩ = some r.val) (by kernel_rfl) ⟨x0, x1⟩ (fun hH => ?_)
    clear x0 x1 HW1
    refine wpAnyH_world (fun W => Below W1.heap.size W1 W) (bl_drew (bl_refl _)) (fun W2 hb2 => ?_)
    clear hH
    have hH : W2.cell? ⟨w.heap.size + 1, 0, none⟩ = some l.val ∧ W2.cell? ⟨w.heap.size + 1, 1, none⟩ = some r.val := ⟨(HKX.out.below hb2).cell 0, (HKX.out.below hb2).cell 1⟩
    refine tkx 0 rfl ?_
    refine tkx 1 rfl ?_
    refine tkx 3 rfl ?_
    refine tkx 4 rfl ?_
    refine wpAnyH_ready (rs := [2]) (by kernel_rfl) (by simp) ?_
    refine AllReadyH.cons rfl (fun K hK => ?_) AllReadyH.nil
    (try go_simp)
    refine (IL.out _).mono ?_
    rintro en W3 ⟨v1, rfl, hT1, hb3⟩
    (try go_simp)
    have hb4 := bl_step hb3 hb2
    refine hK.out _ _ ⟨(HKX.out.below hb4).cell 0, (HKX.out.below hb4).cell 1⟩ (fun hH9 => ?_)
    clear hK K hH
    have hH := hH9
    clear hH9
    (try dsimp only [Act.put, List.setIfInBounds_toArray, List.set_cons_zero, List.set_cons_succ])
    refine wpAnyH_ready (rs := [5]) (by kernel_rfl) (by simp) ?_
    refine AllReadyH.cons rfl (fun K hK => ?_) AllReadyH.nil
    (try go_simp)
    refine (IR.out _).mono ?_
    rintro en W4 ⟨v2, rfl, hT2, hb5⟩
    (try go_simp)
    have hb6 := bl_step hb5 hb4
    refine hK.out _ _ ⟨(HKX.out.below hb6).cell 0, (HKX.out.below hb6).cell 1⟩ (fun hH9 => ?_)
    clear hK K hH
    have hH := hH9
    clear hH9
    (try dsimp only [Act.put, List.setIfInBounds_toArray, List.set_cons_zero, List.set_cons_succ])
    refine wpAnyH_ready (rs := [6]) (by kernel_rfl) (by simp) ?_
    refine AllReadyH.cons rfl (fun K hK => ?_) AllReadyH.nil
    (try go_simp)
    have hz2 := hb2.size
    have hz3 := hb3.size
    have hz5 := hb5.size
    refine (two_calls 15 l.tr r.tr v1 v2 W1.heap.size W4 (by omega) ((hT1.below hb5).mono (by omega)) (hT2.mono (by omega))).mono ?_
    unfold GivesX
    rintro en W5 ⟨v3, rfl, hT3, hb7⟩
    obtain ⟨A3, c3, cs3, rfl, -, -⟩ := hT3.open_
    simp only [Tr.kind, Tr.s, Tr.n, Tr.ks, List.length_cons, List.length_nil] at hT3 ⊢
    (try go_simp)
    have hb8 := bl_step hb7 hb6
    refine hK.out _ _ ⟨(HKX.out.below hb8).cell 0, (HKX.out.below hb8).cell 1⟩ (fun hH9 => ?_)
    clear hK K hH hH9
    (try dsimp only [Act.put, List.setIfInBounds_toArray, List.set_cons_zero, List.set_cons_succ])
    have HKR5 := Lib.hid (HKR.out.below hb8); have HT3 := Lib.hid hT3; have HB8 := Lib.hid hb8
    clear hT1 hT2 hT3 hb2 hb3 hb4 hb5 hb6 hb7 hz2 hz3 hz5
    obtain ⟨⟨r0, r1, r2, r3⟩, ⟨f0, f1, f2, f3⟩⟩ := HKR5.out.four
    refine wpAnyH_ready (rs := [7]) (by kernel_rfl) (by simp) ?_
    refine AllReadyH.cons rfl (fun K hK => ?_) AllReadyH.nil
    (try go_simp)
    have hkX9 := (HKX.out.below hb8).grown (gb4 W5 w.heap.size (.int .i64 15) (.string nS) (.int .i64 0) (.slice A3 (0 + 1 + 1) c3)) (fun e => by injection e with e; omega)
    refine hK.out _ _ ⟨hkX9.cell 0, hkX9.cell 1⟩ (fun hH9 => ?_)
    clear hK K hH9 hkX9 hb8 r0 r1 r2 r3 f0 f1 f2 f3
    (try dsimp only [Act.put, List.setIfInBounds_toArray, List.set_cons_zero, List.set_cons_succ])
    refine wpAnyH_done (by kernel_rfl) ?_ _
    refine NoPanic.normal ?_
    go_wp2_with fail
    (try simp only [Exit.inBlock, Exit.then])
    refine bodyPost_ret (results_T rfl _ _ w.heap.size _ _ _ _ _ rfl ((HKR5.out).set4 _ _ _ _)) rfl ?_
    have hlt1 := HB1.out.size
    refine ⟨_, rfl, TrAt.mono (HT3.out.set4 (r := w.heap.size) (by omega) _ _ _ _) (by omega), bl_grown (bl_step HB8.out HB1.out) (gb4 _ _ _ _ _ _) (Nat.le_refl _)⟩
  | max l r ihl ihr =>
    intro ho w
    unfold GivesP
    have hok := ho
    have hl := l.isI ho.1
    have hr := r.isI ho.2
    have hol := ho.1; have hor := ho.2
    have IL := Lib.hid (ihl ho.1); have IR := Lib.hid (ihr ho.2)
    clear ihl ihr
    unfold Ob.val Ob.tr
    obtain ⟨W1, hW1⟩ : ∃ W1, (w.alloc (.cells #[.int .i64 0, .string ⟨#[]⟩, .int .i64 0, .slice none 0 0] 33)).alloc (.cells #[l.val, r.val] 215) = W1 := ⟨_, rfl⟩
    have hb1 := bl_alloc (bl_alloc (bl_refl w) (.cells #[.int .i64 0, .string ⟨#[]⟩, .int .i64 0, .slice none 0 0] 33)) (.cells #[l.val, r.val] 215)
    have hkR := (Blk.new w #[.int .i64 0, .string ⟨#[]⟩, .int .i64 0, .slice none 0 0] 33).below (bl_alloc (bl_refl _) (.cells #[l.val, r.val] 215))
    have hkX := Blk_new (w.alloc (.cells #[.int .i64 0, .string ⟨#[]⟩, .int .i64 0, .slice none 0 0] 33)) #[l.val, r.val] 215 (w.heap.size + 1) (alloc_size _ _).symm
    rw [hW1] at hb1 hkR hkX
    have hlt := hkR.lt
    have hltX := hkX.lt
    have HW1 := Lib.hid hW1; have HB1 := Lib.hid hb1; have HKR := Lib.hid hkR; have HKX := Lib.hid hkX
    clear hW1 hb1 hkR hkX
    have x0 := HKX.out.cell 0
    have x1 := HKX.out.cell 1
    simp only [List.getElem?_toArray, List.getElem?_cons_zero, List.getElem?_cons_succ] at x0 x1
    unfold GivesP at IL IR
    go_enter Tryz.func94, Tryz.ntmps94
    go_upto_region 19 with fail
    rw [HW1.out]
    refine wp_region_noPanic ?_
    refine wp_region_held_drew (S := fun w' => w'.cell? ⟨w.heap.size + 1, 0, none⟩ = some l.val ∧ w'.cell? ⟨w.heap.size + 1, 1, none⟩ = some r.val) (by kernel_rfl) ⟨x0, x1⟩ (fun hH => ?_)
    clear x0 x1 HW1
    refine wpAnyH_world (fun W => Below W1.heap.size W1 W) (bl_drew (bl_refl _)) (fun W2 hb2 => ?_)
    clear hH
    have hH : W2.cell? ⟨w.heap.size + 1, 0, none⟩ = some l.val ∧ W2.cell? ⟨w.heap.size + 1, 1, none⟩ = some r.val := ⟨(HKX.out.below hb2).cell 0, (HKX.out.below hb2).cell 1⟩
    refine tkx 0 rfl ?_
    refine tkx 1 rfl ?_
    refine tkx 3 rfl ?_
    refine tkx 4 rfl ?_
    refine wpAnyH_ready (rs := [2]) (by kernel_rfl) (by simp) ?_
    refine AllReadyH.cons rfl (fun K hK => ?_) AllReadyH.nil
    (try go_simp)
    refine (IL.out _).mono ?_
    rintro en W3 ⟨v1, rfl, hT1, hb3⟩
    (try go_simp)
    have hb4 := bl_step hb3 hb2
    refine hK.out _ _ ⟨(HKX.out.below hb4).cell 0, (HKX.out.below hb4).cell 1⟩ (fun hH9 => ?_)
    clear hK K hH
    have hH := hH9
    clear hH9
    (try dsimp only [Act.put, List.setIfInBounds_toArray, List.set_cons_zero, List.set_cons_succ])
    refine wpAnyH_ready (rs := [5]) (by kernel_rfl) (by simp) ?_
    refine AllReadyH.cons rfl (fun K hK => ?_) AllReadyH.nil
    (try go_simp)
    refine (IR.out _).mono ?_
    rintro en W4 ⟨v2, rfl, hT2, hb5⟩
    (try go_simp)
    have hb6 := bl_step hb5 hb4
    refine hK.out _ _ ⟨(HKX.out.below hb6).cell 0, (HKX.out.below hb6).cell 1⟩ (fun hH9 => ?_)
    clear hK K hH
    have hH := hH9
    clear hH9
    (try dsimp only [Act.put, List.setIfInBounds_toArray, List.set_cons_zero, List.set_cons_succ])
    refine wpAnyH_ready (rs := [6]) (by kernel_rfl) (by simp) ?_
    refine AllReadyH.cons rfl (fun K hK => ?_) AllReadyH.nil
    (try go_simp)
    have hz2 := hb2.size
    have hz3 := hb3.size
    have hz5 := hb5.size
    refine (two_calls 16 l.tr r.tr v1 v2 W1.heap.size W4 (by omega) ((hT1.below hb5).mono (by omega)) (hT2.mono (by omega))).mono ?_
    unfold GivesX
    rintro en W5 ⟨v3, rfl, hT3, hb7⟩
    obtain ⟨A3, c3, cs3, rfl, -, -⟩ := hT3.open_
    simp only [Tr.kind, Tr.s, Tr.n, Tr.ks, List.length_cons, List.length_nil] at hT3 ⊢
    (try go_simp)
    have hb8 := bl_step hb7 hb6
    refine hK.out _ _ ⟨(HKX.out.below hb8).cell 0, (HKX.out.below hb8).cell 1⟩ (fun hH9 => ?_)
    clear hK K hH hH9
    (try dsimp only [Act.put, List.setIfInBounds_toArray, List.set_cons_zero, List.set_cons_succ])
    have HKR5 := Lib.hid (HKR.out.below hb8); have HT3 := Lib.hid hT3; have HB8 := Lib.hid hb8
    clear hT1 hT2 hT3 hb2 hb3 hb4 hb5 hb6 hb7 hz2 hz3 hz5
    obtain ⟨⟨r0, r1, r2, r3⟩, ⟨f0, f1, f2, f3⟩⟩ := HKR5.out.four
    refine wpAnyH_ready (rs := [7]) (by kernel_rfl) (by simp) ?_
    refine AllReadyH.cons rfl (fun K hK => ?_) AllReadyH.nil
    (try go_simp)
    have hkX9 := (HKX.out.below hb8).grown (gb4 W5 w.heap.size (.int .i64 16) (.string nS) (.int .i64 0) (.slice A3 (0 + 1 + 1) c3)) (fun e => by injection e with e; omega)
    refine hK.out _ _ ⟨hkX9.cell 0, hkX9.cell 1⟩ (fun hH9 => ?_)
    clear hK K hH9 hkX9 hb8 r0 r1 r2 r3 f0 f1 f2 f3
    (try dsimp only [Act.put, List.setIfInBounds_toArray, List.set_cons_zero, List.set_cons_succ])
    refine wpAnyH_done (by kernel_rfl) ?_ _
    refine NoPanic.normal ?_
    go_wp2_with fail
    (try simp only [Exit.inBlock, Exit.then])
    refine bodyPost_ret (results_T rfl _ _ w.heap.size _ _ _ _ _ rfl ((HKR5.out).set4 _ _ _ _)) rfl ?_
    have hlt1 := HB1.out.size
    refine ⟨_, rfl, TrAt.mono (HT3.out.set4 (r := w.heap.size) (by omega) _ _ _ _) (by omega), bl_grown (bl_step HB8.out HB1.out) (gb4 _ _ _ _ _ _) (Nat.le_refl _)⟩
end Go.Proofs.YtapbkomicihkkaaGreatDoor
namespace Go.Proofs.YtapbkomicihkkaaGreatDoor
open Go.RowKit
set_option linter.unusedVariables false
set_option linter.unusedSimpArgs false

@[go_sem] theorem run_bs_T3 (k1 k2 k3 n1 n2 n3 : Int) (s1 s2 s3 : ByteArray) (A1 A2 A3 : Option Addr) (m1 m2 m3 c1 c2 c3 : Nat) (W : World) :
    (Instr.buildSlice 31 3 #[(0, .agg #[.int .i64 k1, .string s1, .int .i64 n1, .slice A1 m1 c1]), (1, .agg #[.int .i64 k2, .string s2, .int .i64 n2, .slice A2 m2 c2]), (2, .agg #[.int .i64 k3, .string s3, .int .i64 n3, .slice A3 m3 c3])]).run Tryz.prog W = .ok (.slice (some ⟨W.heap.size, 0, none⟩) 3 3) (W.alloc (.cells #[.int .i64 k1, .string s1, .int .i64 n1, .slice A1 m1 c1, .int .i64 k2, .string s2, .int .i64 n2, .slice A2 m2 c2, .int .i64 k3, .string s3, .int .i64 n3, .slice A3 m3 c3] 33)) := by kernel_rfl
set_option maxRecDepth 100000 in
set_option maxHeartbeats 4000000 in
theorem pterm_leaf (o : Tm) (ho : o.ok) (hk : o.kids = []) (w : World) : Calls Tryz.prog 66 #[o.val] w (GivesP w o.tr) := by
  unfold GivesP
  cases o with
  | zero =>
    unfold Tm.val Tm.tr
    obtain ⟨W1, hW1⟩ : ∃ W1, (w.alloc (.cells #[.int .i64 0, .string ⟨#[]⟩, .int .i64 0, .slice none 0 0] 33)).alloc (.cells #[] 40) = W1 := ⟨_, rfl⟩
    have hb1 := bl_alloc (bl_alloc (bl_refl w) (.cells #[.int .i64 0, .string ⟨#[]⟩, .int .i64 0, .slice none 0 0] 33)) (.cells #[] 40)
    have hkR := (Blk.new w #[.int .i64 0, .string ⟨#[]⟩, .int .i64 0, .slice none 0 0] 33).below (bl_alloc (bl_refl _) (.cells #[] 40))
    have hkX := Blk_new (w.alloc (.cells #[.int .i64 0, .string ⟨#[]⟩, .int .i64 0, .slice none 0 0] 33)) #[] 40 (w.heap.size + 1) (alloc_size _ _).symm
    rw [hW1] at hb1 hkR hkX
    have hlt := hkR.lt
    have hltX := hkX.lt
    have HW1 := Lib.hid hW1; have HB1 := Lib.hid hb1; have HKR := Lib.hid hkR; have HKX := Lib.hid hkX
    clear hW1 hb1 hkR hkX
    obtain ⟨⟨r0, r1, r2, r3⟩, ⟨f0, f1, f2, f3⟩⟩ := HKR.out.four
    go_enter Tryz.func66, Tryz.ntmps66
    go_upto_region 4 with fail
    rw [HW1.out]
    go_wp2_with fail
    (try simp only [Exit.inBlock, Exit.then])
    refine bodyPost_ret (results_T rfl _ _ w.heap.size _ _ _ _ _ rfl ((HKR.out).set4 _ _ _ _)) rfl ?_
    exact ⟨_, rfl, TrAt.leaf _ _ _ _ _ _, bl_grown HB1.out (gb4 _ _ _ _ _ _) (Nat.le_refl _)⟩
  | one s =>
    unfold Tm.val Tm.tr
    obtain ⟨W1, hW1⟩ : ∃ W1, (w.alloc (.cells #[.int .i64 0, .string ⟨#[]⟩, .int .i64 0, .slice none 0 0] 33)).alloc (.cells #[.string s] 137) = W1 := ⟨_, rfl⟩
    have hb1 := bl_alloc (bl_alloc (bl_refl w) (.cells #[.int .i64 0, .string ⟨#[]⟩, .int .i64 0, .slice none 0 0] 33)) (.cells #[.string s] 137)
    have hkR := (Blk.new w #[.int .i64 0, .string ⟨#[]⟩, .int .i64 0, .slice none 0 0] 33).below (bl_alloc (bl_refl _) (.cells #[.string s] 137))
    have hkX := Blk_new (w.alloc (.cells #[.int .i64 0, .string ⟨#[]⟩, .int .i64 0, .slice none 0 0] 33)) #[.string s] 137 (w.heap.size + 1) (alloc_size _ _).symm
    rw [hW1] at hb1 hkR hkX
    have hlt := hkR.lt
    have hltX := hkX.lt
    have HW1 := Lib.hid hW1; have HB1 := Lib.hid hb1; have HKR := Lib.hid hkR; have HKX := Lib.hid hkX
    clear hW1 hb1 hkR hkX
    obtain ⟨⟨r0, r1, r2, r3⟩, ⟨f0, f1, f2, f3⟩⟩ := HKR.out.four
    have x0 := HKX.out.cell 0
    go_enter Tryz.func66, Tryz.ntmps66
    go_upto_region 7 with fail
    rw [HW1.out]
    go_wp2_with fail
    (try simp only [Exit.inBlock, Exit.then])
    refine bodyPost_ret (results_T rfl _ _ w.heap.size _ _ _ _ _ rfl ((HKR.out).set4 _ _ _ _)) rfl ?_
    exact ⟨_, rfl, TrAt.leaf _ _ _ _ _ _, bl_grown HB1.out (gb4 _ _ _ _ _ _) (Nat.le_refl _)⟩
  | odd v =>
    unfold Tm.tr
    rcases ho with h | ⟨t, x, h, h1, h2, h3, h4, h5, h6, h7, h8⟩
    all_goals
      subst h
      unfold Tm.val
      go_enter Tryz.func66, Tryz.ntmps66
      go_wp2_with fail
      (try simp only [Exit.inBlock, Exit.then])
      refine bodyPost_ret (results_T rfl _ _ w.heap.size _ _ _ _ _ rfl (Blk.new w _ _)) rfl ?_
      exact ⟨_, rfl, TrAt.leaf _ _ _ _ _ _, bl_alloc (bl_refl w) _⟩
  | _ => cases hk
set_option maxRecDepth 100000 in
set_option maxHeartbeats 4000000 in
theorem plain_when (n : Int) (t : Tm) (ho : (Tm.when_ n t).ok) (IH : ∀ (w : World), Calls Tryz.prog 66 #[t.val] w (GivesP w t.tr)) (w : World) : Calls Tryz.prog 66 #[(Tm.when_ n t).val] w (GivesP w (Tm.when_ n t).tr) := by
  unfold GivesP at IH ⊢
  have hok : t.ok := ho.2
  have hl := t.isI hok
  have IHH := Lib.hid IH
  clear IH
  unfold Tm.val Tm.tr
  obtain ⟨W1, hW1⟩ : ∃ W1, (w.alloc (.cells #[.int .i64 0, .string ⟨#[]⟩, .int .i64 0, .slice none 0 0] 33)).alloc (.cells #[.int .i64 n, t.val] 167) = W1 := ⟨_, rfl⟩
  have hb1 := bl_alloc (bl_alloc (bl_refl w) (.cells #[.int .i64 0, .string ⟨#[]⟩, .int .i64 0, .slice none 0 0] 33)) (.cells #[.int .i64 n, t.val] 167)
  have hkR := (Blk.new w #[.int .i64 0, .string ⟨#[]⟩, .int .i64 0, .slice none 0 0] 33).below (bl_alloc (bl_refl _) (.cells #[.int .i64 n, t.val] 167))
  have hkX := Blk_new (w.alloc (.cells #[.int .i64 0, .string ⟨#[]⟩, .int .i64 0, .slice none 0 0] 33)) #[.int .i64 n, t.val] 167 (w.heap.size + 1) (alloc_size _ _).symm
  rw [hW1] at hb1 hkR hkX
  have hlt := hkR.lt
  have hltX := hkX.lt
  have HW1 := Lib.hid hW1; have HB1 := Lib.hid hb1; have HKR := Lib.hid hkR; have HKX := Lib.hid hkX
  clear hW1 hb1 hkR hkX
  go_enter Tryz.func66, Tryz.ntmps66
  go_upto_region 24 with fail
  rw [HW1.out]
  refine wp_region_noPanic ?_
  refine wp_region_held_drew (S := fun w' => w'.cell? ⟨w.heap.size + 1, 0, none⟩ = some (.int .i64 n) ∧ w'.cell? ⟨w.heap.size + 1, 1, none⟩ = some t.val) (by kernel_rfl) (by exact (And.intro (Blk.cell HKX.out 0) (Blk.cell HKX.out 1))) (fun hH => ?_)
  clear HW1
  refine wpAnyH_world (fun W => Below W1.heap.size W1 W) (bl_drew (bl_refl _)) (fun W2 hbC => ?_)
  clear hH
  have hH : W2.cell? ⟨w.heap.size + 1, 0, none⟩ = some (.int .i64 n) ∧ W2.cell? ⟨w.heap.size + 1, 1, none⟩ = some t.val := (And.intro (Blk.cell (HKX.out.below hbC) 0) (Blk.cell (HKX.out.below hbC) 1))
  refine tkx 0 rfl ?_
  refine tkx 1 rfl ?_
  refine tkx 2 rfl ?_
  refine tkx 3 rfl ?_
  refine wpAnyH_ready (rs := [4]) (by kernel_rfl) (by simp) ?_
  refine AllReadyH.cons rfl (fun K hK => ?_) AllReadyH.nil
  (try go_simp)
  (try go_simp)
  refine (IHH.out _).mono ?_
  rintro en W3 ⟨v1, rfl, hT, hbs⟩
  (try go_simp)
  have hT1 := hT.mono (y := W1.heap.size) hbC.size
  replace hbC := bl_step hbs hbC
  skip
  refine hK.out _ _ (And.intro (Blk.cell (HKX.out.below hbC) 0) (Blk.cell (HKX.out.below hbC) 1)) (fun hH9 => ?_)
  clear hK K hH hT
  have hH : W3.cell? ⟨w.heap.size + 1, 0, none⟩ = some (.int .i64 n) ∧ W3.cell? ⟨w.heap.size + 1, 1, none⟩ = some t.val := hH9
  clear hH9
  (try dsimp only [Act.put, List.setIfInBounds_toArray, List.set_cons_zero, List.set_cons_succ])
  obtain ⟨A3, c3, cs3, rfl, -, -⟩ := hT1.open_
  refine wpAnyH_ready (rs := [5]) (by kernel_rfl) (by simp) ?_
  refine AllReadyH.cons rfl (fun K hK => ?_) AllReadyH.nil
  (try go_simp)
  refine hK.out _ _ (And.intro (Blk.cell (HKX.out.below (bl_alloc hbC _)) 0) (Blk.cell (HKX.out.below (bl_alloc hbC _)) 1)) (fun hH9 => ?_)
  clear hK K hH hH9
  (try dsimp only [Act.put, List.setIfInBounds_toArray, List.set_cons_zero, List.set_cons_succ])
  refine wpAnyH_world (fun W => Below W3.heap.size W3 W ∧ Blk W W3.heap.size #[.int .i64 t.tr.kind, .string t.tr.s, .int .i64 t.tr.n, .slice A3 t.tr.ks.length c3] 33) ⟨bl_alloc (bl_refl _) _, Blk.new _ _ _⟩ (fun W4 h4 => ?_)
  obtain ⟨hbs, hkQ⟩ := h4
  have hqs := hbC.size
  have hbC2 := bl_step hbs hbC
  clear hbC
  have hbC := hbC2
  clear hbC2
  have hH : W4.cell? ⟨w.heap.size + 1, 0, none⟩ = some (.int .i64 n) ∧ W4.cell? ⟨w.heap.size + 1, 1, none⟩ = some t.val := (And.intro (Blk.cell (HKX.out.below hbC) 0) (Blk.cell (HKX.out.below hbC) 1))
  have HT1 := Lib.hid (hT1.below hbs); have HKQ := Lib.hid hkQ; have HQS := Lib.hid hqs
  clear hT1 hkQ hqs hbs
  refine tkx 6 rfl ?_
  have hkr := HKR.out.below hbC
  obtain ⟨⟨r0, r1, r2, r3⟩, ⟨f0, f1, f2, f3⟩⟩ := hkr.four
  have HKR5 := Lib.hid hkr
  clear hkr
  refine wpAnyH_ready (rs := [7]) (by kernel_rfl) (by simp) ?_
  refine AllReadyH.cons rfl (fun K hK => ?_) AllReadyH.nil
  (try go_simp)
  refine hK.out _ _ (And.intro (Blk.cell ((HKX.out.below hbC).grown (gb4 W4 w.heap.size _ _ _ _) (fun e => by injection e with e; omega)) 0) (Blk.cell ((HKX.out.below hbC).grown (gb4 W4 w.heap.size _ _ _ _) (fun e => by injection e with e; omega)) 1)) (fun hH9 => ?_)
  clear hK K hH9 hH r0 r1 r2 r3 f0 f1 f2 f3
  (try dsimp only [Act.put, List.setIfInBounds_toArray, List.set_cons_zero, List.set_cons_succ])
  refine wpAnyH_done (by kernel_rfl) ?_ _
  refine NoPanic.normal ?_
  have HBC := Lib.hid hbC
  clear hbC
  go_wp2_with fail
  (try simp only [Exit.inBlock, Exit.then])
  refine bodyPost_ret (results_T rfl _ _ w.heap.size _ _ _ _ _ rfl ((HKR5.out).set4 _ _ _ _)) rfl ?_
  have hlt1 := HB1.out.size
  have hq := HQS.out
  refine ⟨_, rfl, TrAt.mk_ (RowOf.new (HKQ.out.grown (gb4 _ _ _ _ _ _) (fun e => by injection e with e; omega)) (by omega)) (TrsAt.cons (TrAt.mono (HT1.out.set4 (r := w.heap.size) (by omega) _ _ _ _) (by omega)) (TrsAt.nil _ _)), bl_grown (bl_step HBC.out HB1.out) (gb4 _ _ _ _ _ _) (Nat.le_refl _)⟩
end Go.Proofs.YtapbkomicihkkaaGreatDoor
namespace Go.Proofs.YtapbkomicihkkaaGreatDoor
open Go.RowKit
set_option linter.unusedVariables false
set_option linter.unusedSimpArgs false

set_option maxRecDepth 100000 in
set_option maxHeartbeats 4000000 in
theorem plain_if (o : Ob) (l r : Tm) (ho : (Tm.if_ o l r).ok) (IL : ∀ (w : World), Calls Tryz.prog 66 #[l.val] w (GivesP w l.tr)) (IR : ∀ (w : World), Calls Tryz.prog 66 #[r.val] w (GivesP w r.tr)) (w : World) :
    Calls Tryz.prog 66 #[(Tm.if_ o l r).val] w (GivesP w (Tm.if_ o l r).tr) := by
  have io := plobs_calls o ho.1
  unfold GivesP at IL IR io ⊢
  have hok1 := ho.1
  have hok2 := ho.2.1
  have hok3 := ho.2.2
  have hl1 := o.isI hok1
  have hl2 := l.isI hok2
  have hl3 := r.isI hok3
  have IO := Lib.hid io; have ILL := Lib.hid IL; have IRR := Lib.hid IR
  clear IL IR io ho
  unfold Tm.val Tm.tr
  obtain ⟨W1, hW1⟩ : ∃ W1, (w.alloc (.cells #[.int .i64 0, .string ⟨#[]⟩, .int .i64 0, .slice none 0 0] 33)).alloc (.cells #[o.val, l.val, r.val] 169) = W1 := ⟨_, rfl⟩
  have hb1 := bl_alloc (bl_alloc (bl_refl w) (.cells #[.int .i64 0, .string ⟨#[]⟩, .int .i64 0, .slice none 0 0] 33)) (.cells #[o.val, l.val, r.val] 169)
  have hkR := (Blk.new w #[.int .i64 0, .string ⟨#[]⟩, .int .i64 0, .slice none 0 0] 33).below (bl_alloc (bl_refl _) (.cells #[o.val, l.val, r.val] 169))
  have hkX := Blk_new (w.alloc (.cells #[.int .i64 0, .string ⟨#[]⟩, .int .i64 0, .slice none 0 0] 33)) #[o.val, l.val, r.val] 169 (w.heap.size + 1) (alloc_size _ _).symm
  rw [hW1] at hb1 hkR hkX
  have hlt := hkR.lt
  have hltX := hkX.lt
  have HW1 := Lib.hid hW1; have HB1 := Lib.hid hb1; have HKR := Lib.hid hkR; have HKX := Lib.hid hkX
  clear hW1 hb1 hkR hkX
  go_enter Tryz.func66, Tryz.ntmps66
  go_upto_region 27 with fail
  rw [HW1.out]
  refine wp_region_noPanic ?_
  refine wp_region_held_drew (S := fun w' => w'.cell? ⟨w.heap.size + 1, 0, none⟩ = some o.val ∧ w'.cell? ⟨w.heap.size + 1, 1, none⟩ = some l.val ∧ w'.cell? ⟨w.heap.size + 1, 2, none⟩ = some r.val) (by kernel_rfl) (by exact (And.intro (Blk.cell HKX.out 0) (And.intro (Blk.cell HKX.out 1) (Blk.cell HKX.out 2)))) (fun hH => ?_)
  clear HW1
  refine wpAnyH_world (fun W => Below W1.heap.size W1 W) (bl_drew (bl_refl _)) (fun W2 hbC => ?_)
  clear hH
  have hH : W2.cell? ⟨w.heap.size + 1, 0, none⟩ = some o.val ∧ W2.cell? ⟨w.heap.size + 1, 1, none⟩ = some l.val ∧ W2.cell? ⟨w.heap.size + 1, 2, none⟩ = some r.val := (And.intro (Blk.cell (HKX.out.below hbC) 0) (And.intro (Blk.cell (HKX.out.below hbC) 1) (Blk.cell (HKX.out.below hbC) 2)))
  refine tkx 0 rfl ?_
  refine tkx 1 rfl ?_
  refine tkx 3 rfl ?_
  refine tkx 4 rfl ?_
  refine tkx 6 rfl ?_
  refine tkx 7 rfl ?_
  refine wpAnyH_ready (rs := [2]) (by kernel_rfl) (by simp) ?_
  refine AllReadyH.cons rfl (fun K hK => ?_) AllReadyH.nil
  (try go_simp)
  (try go_simp)
  refine (IO.out _).mono ?_
  rintro en W3 ⟨v1, rfl, hT, hbs⟩
  (try go_simp)
  have hT1 := hT.mono (y := W1.heap.size) hbC.size
  replace hbC := bl_step hbs hbC
  skip
  refine hK.out _ _ (And.intro (Blk.cell (HKX.out.below hbC) 0) (And.intro (Blk.cell (HKX.out.below hbC) 1) (Blk.cell (HKX.out.below hbC) 2))) (fun hH9 => ?_)
  clear hK K hH hT
  have hH : W3.cell? ⟨w.heap.size + 1, 0, none⟩ = some o.val ∧ W3.cell? ⟨w.heap.size + 1, 1, none⟩ = some l.val ∧ W3.cell? ⟨w.heap.size + 1, 2, none⟩ = some r.val := hH9
  clear hH9
  (try dsimp only [Act.put, List.setIfInBounds_toArray, List.set_cons_zero, List.set_cons_succ])
  refine wpAnyH_ready (rs := [5]) (by kernel_rfl) (by simp) ?_
  refine AllReadyH.cons rfl (fun K hK => ?_) AllReadyH.nil
  (try go_simp)
  (try go_simp)
  refine (ILL.out _).mono ?_
  rintro en W4 ⟨v2, rfl, hT, hbs⟩
  (try go_simp)
  have hT2 := hT.mono (y := W1.heap.size) hbC.size
  replace hbC := bl_step hbs hbC
  replace hT1 := hT1.below hbs
  refine hK.out _ _ (And.intro (Blk.cell (HKX.out.below hbC) 0) (And.intro (Blk.cell (HKX.out.below hbC) 1) (Blk.cell (HKX.out.below hbC) 2))) (fun hH9 => ?_)
  clear hK K hH hT
  have hH : W4.cell? ⟨w.heap.size + 1, 0, none⟩ = some o.val ∧ W4.cell? ⟨w.heap.size + 1, 1, none⟩ = some l.val ∧ W4.cell? ⟨w.heap.size + 1, 2, none⟩ = some r.val := hH9
  clear hH9
  (try dsimp only [Act.put, List.setIfInBounds_toArray, List.set_cons_zero, List.set_cons_succ])
  refine wpAnyH_ready (rs := [8]) (by kernel_rfl) (by simp) ?_
  refine AllReadyH.cons rfl (fun K hK => ?_) AllReadyH.nil
  (try go_simp)
  (try go_simp)
  refine (IRR.out _).mono ?_
  rintro en W5 ⟨v3, rfl, hT, hbs⟩
  (try go_simp)
  have hT3 := hT.mono (y := W1.heap.size) hbC.size
  replace hbC := bl_step hbs hbC
  (replace hT1 := hT1.below hbs; replace hT2 := hT2.below hbs)
  refine hK.out _ _ (And.intro (Blk.cell (HKX.out.below hbC) 0) (And.intro (Blk.cell (HKX.out.below hbC) 1) (Blk.cell (HKX.out.below hbC) 2))) (fun hH9 => ?_)
  clear hK K hH hT
  have hH : W5.cell? ⟨w.heap.size + 1, 0, none⟩ = some o.val ∧ W5.cell? ⟨w.heap.size + 1, 1, none⟩ = some l.val ∧ W5.cell? ⟨w.heap.size + 1, 2, none⟩ = some r.val := hH9
  clear hH9
  (try dsimp only [Act.put, List.setIfInBounds_toArray, List.set_cons_zero, List.set_cons_succ])
  obtain ⟨A1, c1, cs1, rfl, -, -⟩ := hT1.open_
  obtain ⟨A2, c2, cs2, rfl, -, -⟩ := hT2.open_
  obtain ⟨A3, c3, cs3, rfl, -, -⟩ := hT3.open_
  have HA := Lib.hid hT1; have HB := Lib.hid hT2; have HC := Lib.hid hT3
  clear hT1 hT2 hT3 hbs
  refine wpAnyH_ready (rs := [9]) (by kernel_rfl) (by simp) ?_
  refine AllReadyH.cons rfl (fun K hK => ?_) AllReadyH.nil
  (try go_simp)
  refine hK.out _ _ (And.intro (Blk.cell (HKX.out.below (bl_alloc hbC _)) 0) (And.intro (Blk.cell (HKX.out.below (bl_alloc hbC _)) 1) (Blk.cell (HKX.out.below (bl_alloc hbC _)) 2))) (fun hH9 => ?_)
  clear hK K hH hH9
  (try dsimp only [Act.put, List.setIfInBounds_toArray, List.set_cons_zero, List.set_cons_succ])
  refine wpAnyH_world (fun W => Below W5.heap.size W5 W ∧ Blk W W5.heap.size #[.int .i64 o.tr.kind, .string o.tr.s, .int .i64 o.tr.n, .slice A1 o.tr.ks.length c1, .int .i64 l.tr.kind, .string l.tr.s, .int .i64 l.tr.n, .slice A2 l.tr.ks.length c2, .int .i64 r.tr.kind, .string r.tr.s, .int .i64 r.tr.n, .slice A3 r.tr.ks.length c3] 33) ⟨bl_alloc (bl_refl _) _, Blk.new _ _ _⟩ (fun W6 h4 => ?_)
  obtain ⟨hbs, hkQ⟩ := h4
  have hqs := hbC.size
  have hbC2 := bl_step hbs hbC
  clear hbC
  have hbC := hbC2
  clear hbC2
  have hH : W6.cell? ⟨w.heap.size + 1, 0, none⟩ = some o.val ∧ W6.cell? ⟨w.heap.size + 1, 1, none⟩ = some l.val ∧ W6.cell? ⟨w.heap.size + 1, 2, none⟩ = some r.val := (And.intro (Blk.cell (HKX.out.below hbC) 0) (And.intro (Blk.cell (HKX.out.below hbC) 1) (Blk.cell (HKX.out.below hbC) 2)))
  have HA6 := Lib.hid (HA.out.below hbs); have HB6 := Lib.hid (HB.out.below hbs); have HC6 := Lib.hid (HC.out.below hbs); have HKQ := Lib.hid hkQ; have HQS := Lib.hid hqs
  clear HA HB HC hkQ hqs hbs
  refine tkx 10 rfl ?_
  have hkr := HKR.out.below hbC
  obtain ⟨⟨r0, r1, r2, r3⟩, ⟨f0, f1, f2, f3⟩⟩ := hkr.four
  have HKR5 := Lib.hid hkr
  clear hkr
  refine wpAnyH_ready (rs := [11]) (by kernel_rfl) (by simp) ?_
  refine AllReadyH.cons rfl (fun K hK => ?_) AllReadyH.nil
  (try go_simp)
  refine hK.out _ _ (And.intro (Blk.cell ((HKX.out.below hbC).grown (gb4 W6 w.heap.size _ _ _ _) (fun e => by injection e with e; omega)) 0) (And.intro (Blk.cell ((HKX.out.below hbC).grown (gb4 W6 w.heap.size _ _ _ _) (fun e => by injection e with e; omega)) 1) (Blk.cell ((HKX.out.below hbC).grown (gb4 W6 w.heap.size _ _ _ _) (fun e => by injection e with e; omega)) 2))) (fun hH9 => ?_)
  clear hK K hH9 hH r0 r1 r2 r3 f0 f1 f2 f3
  (try dsimp only [Act.put, List.setIfInBounds_toArray, List.set_cons_zero, List.set_cons_succ])
  refine wpAnyH_done (by kernel_rfl) ?_ _
  refine NoPanic.normal ?_
  have HBC := Lib.hid hbC
  clear hbC
  go_wp2_with fail
  (try simp only [Exit.inBlock, Exit.then])
  refine bodyPost_ret (results_T rfl _ _ w.heap.size _ _ _ _ _ rfl ((HKR5.out).set4 _ _ _ _)) rfl ?_
  have hlt1 := HB1.out.size
  have hq := HQS.out
  refine ⟨_, rfl, TrAt.mk_ (RowOf.new (HKQ.out.grown (gb4 _ _ _ _ _ _) (fun e => by injection e with e; omega)) (by omega)) (TrsAt.cons (TrAt.mono (HA6.out.set4 (r := w.heap.size) (by omega) _ _ _ _) (by omega)) (TrsAt.cons (TrAt.mono (HB6.out.set4 (r := w.heap.size) (by omega) _ _ _ _) (by omega)) (TrsAt.cons (TrAt.mono (HC6.out.set4 (r := w.heap.size) (by omega) _ _ _ _) (by omega)) (TrsAt.nil _ _)))), bl_grown (bl_step HBC.out HB1.out) (gb4 _ _ _ _ _ _) (Nat.le_refl _)⟩
end Go.Proofs.YtapbkomicihkkaaGreatDoor
namespace Go.Proofs.YtapbkomicihkkaaGreatDoor
open Go.RowKit
set_option linter.unusedVariables false
set_option linter.unusedSimpArgs false

theorem TrAt.rename {x : Nat} {w : World} {k n : Int} {s s' : ByteArray} {ks : List Tr} {A : Option Addr} {c m : Nat} (h : TrAt x w (.mk k s n ks) (.agg #[.int .i64 k, .string s, .int .i64 n, .slice A m c])) : TrAt x w (.mk k s' n ks) (.agg #[.int .i64 k, .string s', .int .i64 n, .slice A m c]) := by
  obtain ⟨A', c', cs, e, h1, h2⟩ := h.open_
  injection e with e
  simp [Tr.kind, Tr.s, Tr.n, Tr.ks] at e
  obtain ⟨rfl, rfl, rfl⟩ := e
  exact TrAt.mk_ h1 h2
set_option maxRecDepth 100000 in
set_option maxHeartbeats 8000000 in
theorem plain_or (s : ByteArray) (l r : Tm) (ho : (Tm.or s l r).ok) (IL : ∀ (w : World), Calls Tryz.prog 66 #[l.val] w (GivesP w l.tr)) (IR : ∀ (w : World), Calls Tryz.prog 66 #[r.val] w (GivesP w r.tr)) (w : World) :
    Calls Tryz.prog 66 #[(Tm.or s l r).val] w (GivesP w (Tm.or s l r).tr) := by
  unfold GivesP at IL IR ⊢
  have hok2 := ho.2.1
  have hok3 := ho.2.2
  have hl2 := l.isI hok2
  have hl3 := r.isI hok3
  have ILL := Lib.hid IL; have IRR := Lib.hid IR
  clear IL IR ho
  unfold Tm.val Tm.tr
  obtain ⟨W1, hW1⟩ : ∃ W1, (w.alloc (.cells #[.int .i64 0, .string ⟨#[]⟩, .int .i64 0, .slice none 0 0] 33)).alloc (.cells #[.string s, l.val, r.val] 162) = W1 := ⟨_, rfl⟩
  have hb1 := bl_alloc (bl_alloc (bl_refl w) (.cells #[.int .i64 0, .string ⟨#[]⟩, .int .i64 0, .slice none 0 0] 33)) (.cells #[.string s, l.val, r.val] 162)
  have hkR := (Blk.new w #[.int .i64 0, .string ⟨#[]⟩, .int .i64 0, .slice none 0 0] 33).below (bl_alloc (bl_refl _) (.cells #[.string s, l.val, r.val] 162))
  have hkX := Blk_new (w.alloc (.cells #[.int .i64 0, .string ⟨#[]⟩, .int .i64 0, .slice none 0 0] 33)) #[.string s, l.val, r.val] 162 (w.heap.size + 1) (alloc_size _ _).symm
  rw [hW1] at hb1 hkR hkX
  have hlt := hkR.lt
  have hltX := hkX.lt
  have HW1 := Lib.hid hW1; have HB1 := Lib.hid hb1; have HKR := Lib.hid hkR; have HKX := Lib.hid hkX
  clear hW1 hb1 hkR hkX
  go_enter Tryz.func66, Tryz.ntmps66
  go_upto_region 16 with fail
  rw [HW1.out]
  refine wp_region_noPanic ?_
  refine wp_region_held_drew (S := fun w' => w'.cell? ⟨w.heap.size + 1, 1, none⟩ = some l.val ∧ w'.cell? ⟨w.heap.size + 1, 2, none⟩ = some r.val) (by kernel_rfl) (by exact (And.intro (Blk.cell HKX.out 1) (Blk.cell HKX.out 2))) (fun hH => ?_)
  clear HW1
  refine wpAnyH_world (fun W => Below W1.heap.size W1 W) (bl_drew (bl_refl _)) (fun W2 hbC => ?_)
  clear hH
  have hH : W2.cell? ⟨w.heap.size + 1, 1, none⟩ = some l.val ∧ W2.cell? ⟨w.heap.size + 1, 2, none⟩ = some r.val := (And.intro (Blk.cell (HKX.out.below hbC) 1) (Blk.cell (HKX.out.below hbC) 2))
  refine tkx 0 rfl ?_
  refine tkx 1 rfl ?_
  refine tkx 3 rfl ?_
  refine tkx 4 rfl ?_
  refine wpAnyH_ready (rs := [2, 7]) (by kernel_rfl) (by simp) ?_
  refine AllReadyH.cons rfl (fun K hK => ?_) (AllReadyH.cons rfl (fun K hK => ?_) AllReadyH.nil)
  · skip
    (try go_simp)
    refine (ILL.out _).mono ?_
    rintro en W3 ⟨v1, rfl, hT, hbs⟩
    (try go_simp)
    have hT1 := hT.mono (y := W1.heap.size) hbC.size
    replace hbC := bl_step hbs hbC
    skip
    refine hK.out _ _ (And.intro (Blk.cell (HKX.out.below hbC) 1) (Blk.cell (HKX.out.below hbC) 2)) (fun hH9 => ?_)
    clear hK K hH hT
    have hH : W3.cell? ⟨w.heap.size + 1, 1, none⟩ = some l.val ∧ W3.cell? ⟨w.heap.size + 1, 2, none⟩ = some r.val := hH9
    clear hH9
    (try dsimp only [Act.put, List.setIfInBounds_toArray, List.set_cons_zero, List.set_cons_succ])
    clear hbs
    refine wpAnyH_ready (rs := [5, 7]) (by kernel_rfl) (by simp) ?_
    refine AllReadyH.cons rfl (fun K hK => ?_) (AllReadyH.cons rfl (fun K hK => ?_) AllReadyH.nil)
    · skip
      (try go_simp)
      refine (IRR.out _).mono ?_
      rintro en W4 ⟨v2, rfl, hT, hbs⟩
      (try go_simp)
      have hT2 := hT.mono (y := W1.heap.size) hbC.size
      replace hbC := bl_step hbs hbC
      replace hT1 := hT1.below hbs
      refine hK.out _ _ (And.intro (Blk.cell (HKX.out.below hbC) 1) (Blk.cell (HKX.out.below hbC) 2)) (fun hH9 => ?_)
      clear hK K hH hT
      have hH : W4.cell? ⟨w.heap.size + 1, 1, none⟩ = some l.val ∧ W4.cell? ⟨w.heap.size + 1, 2, none⟩ = some r.val := hH9
      clear hH9
      (try dsimp only [Act.put, List.setIfInBounds_toArray, List.set_cons_zero, List.set_cons_succ])
      clear hbs
      refine wpAnyH_ready (rs := [6, 7]) (by kernel_rfl) (by simp) ?_
      refine AllReadyH.cons rfl (fun K hK => ?_) (AllReadyH.cons rfl (fun K hK => ?_) AllReadyH.nil)
      · (try go_simp)
        refine (two_calls 5 l.tr r.tr v1 v2 W1.heap.size W4 hbC.size hT1 hT2).mono ?_
        unfold GivesX
        rintro en W5 ⟨v3, rfl, hT3, hbs⟩
        (try go_simp)
        have hbC2 := bl_step hbs hbC
        clear hbC
        have hbC := hbC2
        clear hbC2 hbs hT1 hT2
        refine hK.out _ _ (And.intro (Blk.cell (HKX.out.below hbC) 1) (Blk.cell (HKX.out.below hbC) 2)) (fun hH9 => ?_)
        clear hK K hH
        have hH : W5.cell? ⟨w.heap.size + 1, 1, none⟩ = some l.val ∧ W5.cell? ⟨w.heap.size + 1, 2, none⟩ = some r.val := hH9
        clear hH9
        (try simp only [Act.put, List.setIfInBounds_toArray, List.set_cons_zero, List.set_cons_succ])
        refine wpAnyH_ready (rs := [7]) (by kernel_rfl) (by simp) ?_
        refine AllReadyH.cons rfl (fun K hK => ?_) AllReadyH.nil
        (try go_simp)
        (try go_simp)
        refine hK.out _ _ (And.intro (Blk.cell (HKX.out.below (bl_alloc hbC _)) 1) (Blk.cell (HKX.out.below (bl_alloc hbC _)) 2)) (fun hH9 => ?_)
        clear hK K hH hH9
        (try simp only [Act.put, List.setIfInBounds_toArray, List.set_cons_zero, List.set_cons_succ])
        obtain ⟨q, hq⟩ : ∃ q, W5.heap.size = q := ⟨_, rfl⟩
        have hqs : W1.heap.size ≤ q := by rw [← hq]; exact hbC.size
        rw [hq]
        refine wpAnyH_world (fun W => Below W5.heap.size W5 W ∧ Blk W q #[.int .i64 0, .string ⟨#[]⟩, .int .i64 0, .slice none 0 0] 33) ⟨bl_alloc (bl_refl _) _, Blk_new _ _ _ q hq.symm⟩ (fun W6 h4 => ?_)
        obtain ⟨hbs, hkQ⟩ := h4
        have kT3 := TrK.old (q := q) hT3 hbs (Nat.le_of_eq hq)
        clear hT3
        have hbC2 := bl_step hbs hbC
        clear hbC
        have hbC := hbC2
        clear hbC2 hbs
        have hH : W6.cell? ⟨w.heap.size + 1, 1, none⟩ = some l.val ∧ W6.cell? ⟨w.heap.size + 1, 2, none⟩ = some r.val := (And.intro (Blk.cell (HKX.out.below hbC) 1) (Blk.cell (HKX.out.below hbC) 2))
        obtain ⟨A3, c3, cs3, rfl, -, -⟩ := kT3.at_.open_
        simp only [Tr.kind, Tr.s, Tr.n, Tr.ks, List.length_cons, List.length_nil] at kT3 ⊢
        obtain ⟨⟨y0, y1, y2, y3⟩, ⟨z0, z1, z2, z3⟩⟩ := hkQ.four
        refine wpAnyH_ready (rs := [8]) (by kernel_rfl) (by simp) ?_
        refine AllReadyH.cons rfl (fun K hK => ?_) AllReadyH.nil
        (try go_simp)
        have hltx := HKX.out.lt
        have hX8 := (HKX.out.below hbC).grown (gb4 W6 q (.int .i64 5) (.string nS) (.int .i64 0) (.slice A3 (0 + 1 + 1) c3)) (fun e => by injection e with e; omega)
        refine hK.out _ _ (And.intro (Blk.cell hX8 1) (Blk.cell hX8 2)) (fun hH9 => ?_)
        clear hK K hH9 hH y0 y1 y2 y3 z0 z1 z2 z3
        (try simp only [Act.put, List.setIfInBounds_toArray, List.set_cons_zero, List.set_cons_succ])
        have hR8 := (HKR.out.below hbC).grown (gb4 W6 q (.int .i64 5) (.string nS) (.int .i64 0) (.slice A3 (0 + 1 + 1) c3)) (fun e => by injection e with e; omega)
        have hQ8 := hkQ.set4 (.int .i64 5) (.string nS) (.int .i64 0) (.slice A3 (0 + 1 + 1) c3)
        have hb8 := bl_grown hbC (gb4 W6 q (.int .i64 5) (.string nS) (.int .i64 0) (.slice A3 (0 + 1 + 1) c3)) hqs
        have kT8 : TrK q W1.heap.size _ _ _ := fun W' hg => kT3 W' (gb_trans (gb4 W6 q (.int .i64 5) (.string nS) (.int .i64 0) (.slice A3 (0 + 1 + 1) c3)) hg)
        refine wpAnyH_world (fun W => Blk W (w.heap.size + 1) #[.string s, l.val, r.val] 162 ∧ Blk W w.heap.size #[.int .i64 0, .string ⟨#[]⟩, .int .i64 0, .slice none 0 0] 33 ∧ Blk W q #[.int .i64 5, .string nS, .int .i64 0, .slice A3 (0 + 1 + 1) c3] 33 ∧ Below W1.heap.size W1 W ∧ TrK q W1.heap.size W (.mk 5 nS 0 [l.tr, r.tr]) (.agg #[.int .i64 5, .string nS, .int .i64 0, .slice A3 (0 + 1 + 1) c3])) ⟨hX8, hR8, hQ8, hb8, kT8⟩ (fun W9 h9 => ?_)
        clear hX8 hR8 hQ8 hb8 kT8 kT3 hkQ hbC
        obtain ⟨hX9, hR9, hQ9, hb9, kT9⟩ := h9
        refine wpAnyH_done (by kernel_rfl) ?_ _
        refine NoPanic.normal ?_
        obtain ⟨⟨y0, y1, y2, y3⟩, ⟨z0, z1, z2, z3⟩⟩ := hQ9.four
        obtain ⟨⟨r0, r1, r2, r3⟩, ⟨f0, f1, f2, f3⟩⟩ := hR9.four
        have x0 := hX9.cell 0
        simp only [List.getElem?_toArray, List.getElem?_cons_zero, List.getElem?_cons_succ] at x0
        have hqr : w.heap.size ≠ q := by omega
        have hqr2 : q ≠ w.heap.size := by omega
        have hqx : w.heap.size + 1 ≠ q := by omega
        have HR9 := Lib.hid hR9; have HB9 := Lib.hid hb9; have KT9 := Lib.hid kT9; have HQS := Lib.hid hqs; have HLX := Lib.hid hltx
        clear hX9 hR9 hQ9 hb9 kT9 hqs hltx
        go_wp2_with fail
        (try simp only [Exit.inBlock, Exit.then])
        refine bodyPost_ret (results_T rfl _ _ w.heap.size _ _ _ _ _ rfl (((HR9.out.far ⟨q, 1, none⟩ hqr _)).set4 _ _ _ _)) rfl ?_
        have hq2 := HQS.out
        have hl2 := HLX.out
        have hlt1 := HB1.out.size
        exact ⟨_, rfl, TrAt.mono (TrAt.set4 (r := w.heap.size) (TrAt.rename (KT9.out _ (gb_set 1 (.string s)))) (by omega) _ _ _ _) (by omega), bl_grown (bl_grown (bl_step HB9.out HB1.out) (gb_set (g := q) 1 (.string s)) (by omega)) (gb4 _ _ _ _ _ _) (Nat.le_refl _)⟩
      · skip
        (try go_simp)
        refine hK.out _ _ (And.intro (Blk.cell (HKX.out.below (bl_alloc hbC _)) 1) (Blk.cell (HKX.out.below (bl_alloc hbC _)) 2)) (fun hH9 => ?_)
        clear hK K hH hH9
        (try simp only [Act.put, List.setIfInBounds_toArray, List.set_cons_zero, List.set_cons_succ])
        obtain ⟨q, hq⟩ : ∃ q, W4.heap.size = q := ⟨_, rfl⟩
        have hqs : W1.heap.size ≤ q := by rw [← hq]; exact hbC.size
        rw [hq]
        refine wpAnyH_world (fun W => Below W4.heap.size W4 W ∧ Blk W q #[.int .i64 0, .string ⟨#[]⟩, .int .i64 0, .slice none 0 0] 33) ⟨bl_alloc (bl_refl _) _, Blk_new _ _ _ q hq.symm⟩ (fun W5 h4 => ?_)
        obtain ⟨hbs, hkQ⟩ := h4
        have kT1 := TrK.old (q := q) hT1 hbs (Nat.le_of_eq hq); have kT2 := TrK.old (q := q) hT2 hbs (Nat.le_of_eq hq)
        clear hT1 hT2
        have hbC2 := bl_step hbs hbC
        clear hbC
        have hbC := hbC2
        clear hbC2 hbs
        have hH : W5.cell? ⟨w.heap.size + 1, 1, none⟩ = some l.val ∧ W5.cell? ⟨w.heap.size + 1, 2, none⟩ = some r.val := (And.intro (Blk.cell (HKX.out.below hbC) 1) (Blk.cell (HKX.out.below hbC) 2))
        refine wpAnyH_ready (rs := [6]) (by kernel_rfl) (by simp) ?_
        refine AllReadyH.cons rfl (fun K hK => ?_) AllReadyH.nil
        (try go_simp)
        (try go_simp)
        refine (two_keep 5 l.tr r.tr v1 v2 q W1.heap.size _ hbC.size (Nat.le_of_lt hkQ.lt) kT1 kT2).mono ?_
        unfold GivesK
        rintro en W6 ⟨v3, rfl, kT3, hbs⟩
        (try go_simp)
        have hkQ2 := hkQ.below hbs
        clear hkQ
        have hkQ := hkQ2
        clear hkQ2
        have hbC2 := bl_step hbs hbC
        clear hbC
        have hbC := hbC2
        clear hbC2 hbs kT1 kT2
        refine hK.out _ _ (And.intro (Blk.cell (HKX.out.below hbC) 1) (Blk.cell (HKX.out.below hbC) 2)) (fun hH9 => ?_)
        clear hK K hH
        have hH : W6.cell? ⟨w.heap.size + 1, 1, none⟩ = some l.val ∧ W6.cell? ⟨w.heap.size + 1, 2, none⟩ = some r.val := hH9
        clear hH9
        (try simp only [Act.put, List.setIfInBounds_toArray, List.set_cons_zero, List.set_cons_succ])
        obtain ⟨A3, c3, cs3, rfl, -, -⟩ := kT3.at_.open_
        simp only [Tr.kind, Tr.s, Tr.n, Tr.ks, List.length_cons, List.length_nil] at kT3 ⊢
        obtain ⟨⟨y0, y1, y2, y3⟩, ⟨z0, z1, z2, z3⟩⟩ := hkQ.four
        refine wpAnyH_ready (rs := [8]) (by kernel_rfl) (by simp) ?_
        refine AllReadyH.cons rfl (fun K hK => ?_) AllReadyH.nil
        (try go_simp)
        have hltx := HKX.out.lt
        have hX8 := (HKX.out.below hbC).grown (gb4 W6 q (.int .i64 5) (.string nS) (.int .i64 0) (.slice A3 (0 + 1 + 1) c3)) (fun e => by injection e with e; omega)
        refine hK.out _ _ (And.intro (Blk.cell hX8 1) (Blk.cell hX8 2)) (fun hH9 => ?_)
        clear hK K hH9 hH y0 y1 y2 y3 z0 z1 z2 z3
        (try simp only [Act.put, List.setIfInBounds_toArray, List.set_cons_zero, List.set_cons_succ])
        have hR8 := (HKR.out.below hbC).grown (gb4 W6 q (.int .i64 5) (.string nS) (.int .i64 0) (.slice A3 (0 + 1 + 1) c3)) (fun e => by injection e with e; omega)
        have hQ8 := hkQ.set4 (.int .i64 5) (.string nS) (.int .i64 0) (.slice A3 (0 + 1 + 1) c3)
        have hb8 := bl_grown hbC (gb4 W6 q (.int .i64 5) (.string nS) (.int .i64 0) (.slice A3 (0 + 1 + 1) c3)) hqs
        have kT8 : TrK q W1.heap.size _ _ _ := fun W' hg => kT3 W' (gb_trans (gb4 W6 q (.int .i64 5) (.string nS) (.int .i64 0) (.slice A3 (0 + 1 + 1) c3)) hg)
        refine wpAnyH_world (fun W => Blk W (w.heap.size + 1) #[.string s, l.val, r.val] 162 ∧ Blk W w.heap.size #[.int .i64 0, .string ⟨#[]⟩, .int .i64 0, .slice none 0 0] 33 ∧ Blk W q #[.int .i64 5, .string nS, .int .i64 0, .slice A3 (0 + 1 + 1) c3] 33 ∧ Below W1.heap.size W1 W ∧ TrK q W1.heap.size W (.mk 5 nS 0 [l.tr, r.tr]) (.agg #[.int .i64 5, .string nS, .int .i64 0, .slice A3 (0 + 1 + 1) c3])) ⟨hX8, hR8, hQ8, hb8, kT8⟩ (fun W9 h9 => ?_)
        clear hX8 hR8 hQ8 hb8 kT8 kT3 hkQ hbC
        obtain ⟨hX9, hR9, hQ9, hb9, kT9⟩ := h9
        refine wpAnyH_done (by kernel_rfl) ?_ _
        refine NoPanic.normal ?_
        obtain ⟨⟨y0, y1, y2, y3⟩, ⟨z0, z1, z2, z3⟩⟩ := hQ9.four
        obtain ⟨⟨r0, r1, r2, r3⟩, ⟨f0, f1, f2, f3⟩⟩ := hR9.four
        have x0 := hX9.cell 0
        simp only [List.getElem?_toArray, List.getElem?_cons_zero, List.getElem?_cons_succ] at x0
        have hqr : w.heap.size ≠ q := by omega
        have hqr2 : q ≠ w.heap.size := by omega
        have hqx : w.heap.size + 1 ≠ q := by omega
        have HR9 := Lib.hid hR9; have HB9 := Lib.hid hb9; have KT9 := Lib.hid kT9; have HQS := Lib.hid hqs; have HLX := Lib.hid hltx
        clear hX9 hR9 hQ9 hb9 kT9 hqs hltx
        go_wp2_with fail
        (try simp only [Exit.inBlock, Exit.then])
        refine bodyPost_ret (results_T rfl _ _ w.heap.size _ _ _ _ _ rfl (((HR9.out.far ⟨q, 1, none⟩ hqr _)).set4 _ _ _ _)) rfl ?_
        have hq2 := HQS.out
        have hl2 := HLX.out
        have hlt1 := HB1.out.size
        exact ⟨_, rfl, TrAt.mono (TrAt.set4 (r := w.heap.size) (TrAt.rename (KT9.out _ (gb_set 1 (.string s)))) (by omega) _ _ _ _) (by omega), bl_grown (bl_grown (bl_step HB9.out HB1.out) (gb_set (g := q) 1 (.string s)) (by omega)) (gb4 _ _ _ _ _ _) (Nat.le_refl _)⟩
    · skip
      (try go_simp)
      refine hK.out _ _ (And.intro (Blk.cell (HKX.out.below (bl_alloc hbC _)) 1) (Blk.cell (HKX.out.below (bl_alloc hbC _)) 2)) (fun hH9 => ?_)
      clear hK K hH hH9
      (try simp only [Act.put, List.setIfInBounds_toArray, List.set_cons_zero, List.set_cons_succ])
      obtain ⟨q, hq⟩ : ∃ q, W3.heap.size = q := ⟨_, rfl⟩
      have hqs : W1.heap.size ≤ q := by rw [← hq]; exact hbC.size
      rw [hq]
      refine wpAnyH_world (fun W => Below W3.heap.size W3 W ∧ Blk W q #[.int .i64 0, .string ⟨#[]⟩, .int .i64 0, .slice none 0 0] 33) ⟨bl_alloc (bl_refl _) _, Blk_new _ _ _ q hq.symm⟩ (fun W4 h4 => ?_)
      obtain ⟨hbs, hkQ⟩ := h4
      have kT1 := TrK.old (q := q) hT1 hbs (Nat.le_of_eq hq)
      clear hT1
      have hbC2 := bl_step hbs hbC
      clear hbC
      have hbC := hbC2
      clear hbC2 hbs
      have hH : W4.cell? ⟨w.heap.size + 1, 1, none⟩ = some l.val ∧ W4.cell? ⟨w.heap.size + 1, 2, none⟩ = some r.val := (And.intro (Blk.cell (HKX.out.below hbC) 1) (Blk.cell (HKX.out.below hbC) 2))
      refine wpAnyH_ready (rs := [5]) (by kernel_rfl) (by simp) ?_
      refine AllReadyH.cons rfl (fun K hK => ?_) AllReadyH.nil
      (try go_simp)
      (try go_simp)
      refine (IRR.out _).mono ?_
      rintro en W5 ⟨v2, rfl, hT, hbs⟩
      (try go_simp)
      have kT2 : TrK q W1.heap.size W5 _ v2 := TrK.new hT hkQ.lt hbC.size
      replace kT1 := kT1.below hbs
      have hkQ2 := hkQ.below hbs
      clear hkQ
      have hkQ := hkQ2
      clear hkQ2
      have hbC2 := bl_step hbs hbC
      clear hbC
      have hbC := hbC2
      clear hbC2 hbs hT
      refine hK.out _ _ (And.intro (Blk.cell (HKX.out.below hbC) 1) (Blk.cell (HKX.out.below hbC) 2)) (fun hH9 => ?_)
      clear hK K hH
      have hH : W5.cell? ⟨w.heap.size + 1, 1, none⟩ = some l.val ∧ W5.cell? ⟨w.heap.size + 1, 2, none⟩ = some r.val := hH9
      clear hH9
      (try simp only [Act.put, List.setIfInBounds_toArray, List.set_cons_zero, List.set_cons_succ])
      refine wpAnyH_ready (rs := [6]) (by kernel_rfl) (by simp) ?_
      refine AllReadyH.cons rfl (fun K hK => ?_) AllReadyH.nil
      (try go_simp)
      (try go_simp)
      refine (two_keep 5 l.tr r.tr v1 v2 q W1.heap.size _ hbC.size (Nat.le_of_lt hkQ.lt) kT1 kT2).mono ?_
      unfold GivesK
      rintro en W6 ⟨v3, rfl, kT3, hbs⟩
      (try go_simp)
      have hkQ2 := hkQ.below hbs
      clear hkQ
      have hkQ := hkQ2
      clear hkQ2
      have hbC2 := bl_step hbs hbC
      clear hbC
      have hbC := hbC2
      clear hbC2 hbs kT1 kT2
      refine hK.out _ _ (And.intro (Blk.cell (HKX.out.below hbC) 1) (Blk.cell (HKX.out.below hbC) 2)) (fun hH9 => ?_)
      clear hK K hH
      have hH : W6.cell? ⟨w.heap.size + 1, 1, none⟩ = some l.val ∧ W6.cell? ⟨w.heap.size + 1, 2, none⟩ = some r.val := hH9
      clear hH9
      (try simp only [Act.put, List.setIfInBounds_toArray, List.set_cons_zero, List.set_cons_succ])
      obtain ⟨A3, c3, cs3, rfl, -, -⟩ := kT3.at_.open_
      simp only [Tr.kind, Tr.s, Tr.n, Tr.ks, List.length_cons, List.length_nil] at kT3 ⊢
      obtain ⟨⟨y0, y1, y2, y3⟩, ⟨z0, z1, z2, z3⟩⟩ := hkQ.four
      refine wpAnyH_ready (rs := [8]) (by kernel_rfl) (by simp) ?_
      refine AllReadyH.cons rfl (fun K hK => ?_) AllReadyH.nil
      (try go_simp)
      have hltx := HKX.out.lt
      have hX8 := (HKX.out.below hbC).grown (gb4 W6 q (.int .i64 5) (.string nS) (.int .i64 0) (.slice A3 (0 + 1 + 1) c3)) (fun e => by injection e with e; omega)
      refine hK.out _ _ (And.intro (Blk.cell hX8 1) (Blk.cell hX8 2)) (fun hH9 => ?_)
      clear hK K hH9 hH y0 y1 y2 y3 z0 z1 z2 z3
      (try simp only [Act.put, List.setIfInBounds_toArray, List.set_cons_zero, List.set_cons_succ])
      have hR8 := (HKR.out.below hbC).grown (gb4 W6 q (.int .i64 5) (.string nS) (.int .i64 0) (.slice A3 (0 + 1 + 1) c3)) (fun e => by injection e with e; omega)
      have hQ8 := hkQ.set4 (.int .i64 5) (.string nS) (.int .i64 0) (.slice A3 (0 + 1 + 1) c3)
      have hb8 := bl_grown hbC (gb4 W6 q (.int .i64 5) (.string nS) (.int .i64 0) (.slice A3 (0 + 1 + 1) c3)) hqs
      have kT8 : TrK q W1.heap.size _ _ _ := fun W' hg => kT3 W' (gb_trans (gb4 W6 q (.int .i64 5) (.string nS) (.int .i64 0) (.slice A3 (0 + 1 + 1) c3)) hg)
      refine wpAnyH_world (fun W => Blk W (w.heap.size + 1) #[.string s, l.val, r.val] 162 ∧ Blk W w.heap.size #[.int .i64 0, .string ⟨#[]⟩, .int .i64 0, .slice none 0 0] 33 ∧ Blk W q #[.int .i64 5, .string nS, .int .i64 0, .slice A3 (0 + 1 + 1) c3] 33 ∧ Below W1.heap.size W1 W ∧ TrK q W1.heap.size W (.mk 5 nS 0 [l.tr, r.tr]) (.agg #[.int .i64 5, .string nS, .int .i64 0, .slice A3 (0 + 1 + 1) c3])) ⟨hX8, hR8, hQ8, hb8, kT8⟩ (fun W9 h9 => ?_)
      clear hX8 hR8 hQ8 hb8 kT8 kT3 hkQ hbC
      obtain ⟨hX9, hR9, hQ9, hb9, kT9⟩ := h9
      refine wpAnyH_done (by kernel_rfl) ?_ _
      refine NoPanic.normal ?_
      obtain ⟨⟨y0, y1, y2, y3⟩, ⟨z0, z1, z2, z3⟩⟩ := hQ9.four
      obtain ⟨⟨r0, r1, r2, r3⟩, ⟨f0, f1, f2, f3⟩⟩ := hR9.four
      have x0 := hX9.cell 0
      simp only [List.getElem?_toArray, List.getElem?_cons_zero, List.getElem?_cons_succ] at x0
      have hqr : w.heap.size ≠ q := by omega
      have hqr2 : q ≠ w.heap.size := by omega
      have hqx : w.heap.size + 1 ≠ q := by omega
      have HR9 := Lib.hid hR9; have HB9 := Lib.hid hb9; have KT9 := Lib.hid kT9; have HQS := Lib.hid hqs; have HLX := Lib.hid hltx
      clear hX9 hR9 hQ9 hb9 kT9 hqs hltx
      go_wp2_with fail
      (try simp only [Exit.inBlock, Exit.then])
      refine bodyPost_ret (results_T rfl _ _ w.heap.size _ _ _ _ _ rfl (((HR9.out.far ⟨q, 1, none⟩ hqr _)).set4 _ _ _ _)) rfl ?_
      have hq2 := HQS.out
      have hl2 := HLX.out
      have hlt1 := HB1.out.size
      exact ⟨_, rfl, TrAt.mono (TrAt.set4 (r := w.heap.size) (TrAt.rename (KT9.out _ (gb_set 1 (.string s)))) (by omega) _ _ _ _) (by omega), bl_grown (bl_grown (bl_step HB9.out HB1.out) (gb_set (g := q) 1 (.string s)) (by omega)) (gb4 _ _ _ _ _ _) (Nat.le_refl _)⟩
  · skip
    (try go_simp)
    refine hK.out _ _ (And.intro (Blk.cell (HKX.out.below (bl_alloc hbC _)) 1) (Blk.cell (HKX.out.below (bl_alloc hbC _)) 2)) (fun hH9 => ?_)
    clear hK K hH hH9
    (try simp only [Act.put, List.setIfInBounds_toArray, List.set_cons_zero, List.set_cons_succ])
    obtain ⟨q, hq⟩ : ∃ q, W2.heap.size = q := ⟨_, rfl⟩
    have hqs : W1.heap.size ≤ q := by rw [← hq]; exact hbC.size
    rw [hq]
    refine wpAnyH_world (fun W => Below W2.heap.size W2 W ∧ Blk W q #[.int .i64 0, .string ⟨#[]⟩, .int .i64 0, .slice none 0 0] 33) ⟨bl_alloc (bl_refl _) _, Blk_new _ _ _ q hq.symm⟩ (fun W3 h4 => ?_)
    obtain ⟨hbs, hkQ⟩ := h4
    skip
    skip
    have hbC2 := bl_step hbs hbC
    clear hbC
    have hbC := hbC2
    clear hbC2 hbs
    have hH : W3.cell? ⟨w.heap.size + 1, 1, none⟩ = some l.val ∧ W3.cell? ⟨w.heap.size + 1, 2, none⟩ = some r.val := (And.intro (Blk.cell (HKX.out.below hbC) 1) (Blk.cell (HKX.out.below hbC) 2))
    refine wpAnyH_ready (rs := [2]) (by kernel_rfl) (by simp) ?_
    refine AllReadyH.cons rfl (fun K hK => ?_) AllReadyH.nil
    (try go_simp)
    (try go_simp)
    refine (ILL.out _).mono ?_
    rintro en W4 ⟨v1, rfl, hT, hbs⟩
    (try go_simp)
    have kT1 : TrK q W1.heap.size W4 _ v1 := TrK.new hT hkQ.lt hbC.size
    skip
    have hkQ2 := hkQ.below hbs
    clear hkQ
    have hkQ := hkQ2
    clear hkQ2
    have hbC2 := bl_step hbs hbC
    clear hbC
    have hbC := hbC2
    clear hbC2 hbs hT
    refine hK.out _ _ (And.intro (Blk.cell (HKX.out.below hbC) 1) (Blk.cell (HKX.out.below hbC) 2)) (fun hH9 => ?_)
    clear hK K hH
    have hH : W4.cell? ⟨w.heap.size + 1, 1, none⟩ = some l.val ∧ W4.cell? ⟨w.heap.size + 1, 2, none⟩ = some r.val := hH9
    clear hH9
    (try simp only [Act.put, List.setIfInBounds_toArray, List.set_cons_zero, List.set_cons_succ])
    refine wpAnyH_ready (rs := [5]) (by kernel_rfl) (by simp) ?_
    refine AllReadyH.cons rfl (fun K hK => ?_) AllReadyH.nil
    (try go_simp)
    (try go_simp)
    refine (IRR.out _).mono ?_
    rintro en W5 ⟨v2, rfl, hT, hbs⟩
    (try go_simp)
    have kT2 : TrK q W1.heap.size W5 _ v2 := TrK.new hT hkQ.lt hbC.size
    replace kT1 := kT1.below hbs
    have hkQ2 := hkQ.below hbs
    clear hkQ
    have hkQ := hkQ2
    clear hkQ2
    have hbC2 := bl_step hbs hbC
    clear hbC
    have hbC := hbC2
    clear hbC2 hbs hT
    refine hK.out _ _ (And.intro (Blk.cell (HKX.out.below hbC) 1) (Blk.cell (HKX.out.below hbC) 2)) (fun hH9 => ?_)
    clear hK K hH
    have hH : W5.cell? ⟨w.heap.size + 1, 1, none⟩ = some l.val ∧ W5.cell? ⟨w.heap.size + 1, 2, none⟩ = some r.val := hH9
    clear hH9
    (try simp only [Act.put, List.setIfInBounds_toArray, List.set_cons_zero, List.set_cons_succ])
    refine wpAnyH_ready (rs := [6]) (by kernel_rfl) (by simp) ?_
    refine AllReadyH.cons rfl (fun K hK => ?_) AllReadyH.nil
    (try go_simp)
    (try go_simp)
    refine (two_keep 5 l.tr r.tr v1 v2 q W1.heap.size _ hbC.size (Nat.le_of_lt hkQ.lt) kT1 kT2).mono ?_
    unfold GivesK
    rintro en W6 ⟨v3, rfl, kT3, hbs⟩
    (try go_simp)
    have hkQ2 := hkQ.below hbs
    clear hkQ
    have hkQ := hkQ2
    clear hkQ2
    have hbC2 := bl_step hbs hbC
    clear hbC
    have hbC := hbC2
    clear hbC2 hbs kT1 kT2
    refine hK.out _ _ (And.intro (Blk.cell (HKX.out.below hbC) 1) (Blk.cell (HKX.out.below hbC) 2)) (fun hH9 => ?_)
    clear hK K hH
    have hH : W6.cell? ⟨w.heap.size + 1, 1, none⟩ = some l.val ∧ W6.cell? ⟨w.heap.size + 1, 2, none⟩ = some r.val := hH9
    clear hH9
    (try simp only [Act.put, List.setIfInBounds_toArray, List.set_cons_zero, List.set_cons_succ])
    obtain ⟨A3, c3, cs3, rfl, -, -⟩ := kT3.at_.open_
    simp only [Tr.kind, Tr.s, Tr.n, Tr.ks, List.length_cons, List.length_nil] at kT3 ⊢
    obtain ⟨⟨y0, y1, y2, y3⟩, ⟨z0, z1, z2, z3⟩⟩ := hkQ.four
    refine wpAnyH_ready (rs := [8]) (by kernel_rfl) (by simp) ?_
    refine AllReadyH.cons rfl (fun K hK => ?_) AllReadyH.nil
    (try go_simp)
    have hltx := HKX.out.lt
    have hX8 := (HKX.out.below hbC).grown (gb4 W6 q (.int .i64 5) (.string nS) (.int .i64 0) (.slice A3 (0 + 1 + 1) c3)) (fun e => by injection e with e; omega)
    refine hK.out _ _ (And.intro (Blk.cell hX8 1) (Blk.cell hX8 2)) (fun hH9 => ?_)
    clear hK K hH9 hH y0 y1 y2 y3 z0 z1 z2 z3
    (try simp only [Act.put, List.setIfInBounds_toArray, List.set_cons_zero, List.set_cons_succ])
    have hR8 := (HKR.out.below hbC).grown (gb4 W6 q (.int .i64 5) (.string nS) (.int .i64 0) (.slice A3 (0 + 1 + 1) c3)) (fun e => by injection e with e; omega)
    have hQ8 := hkQ.set4 (.int .i64 5) (.string nS) (.int .i64 0) (.slice A3 (0 + 1 + 1) c3)
    have hb8 := bl_grown hbC (gb4 W6 q (.int .i64 5) (.string nS) (.int .i64 0) (.slice A3 (0 + 1 + 1) c3)) hqs
    have kT8 : TrK q W1.heap.size _ _ _ := fun W' hg => kT3 W' (gb_trans (gb4 W6 q (.int .i64 5) (.string nS) (.int .i64 0) (.slice A3 (0 + 1 + 1) c3)) hg)
    refine wpAnyH_world (fun W => Blk W (w.heap.size + 1) #[.string s, l.val, r.val] 162 ∧ Blk W w.heap.size #[.int .i64 0, .string ⟨#[]⟩, .int .i64 0, .slice none 0 0] 33 ∧ Blk W q #[.int .i64 5, .string nS, .int .i64 0, .slice A3 (0 + 1 + 1) c3] 33 ∧ Below W1.heap.size W1 W ∧ TrK q W1.heap.size W (.mk 5 nS 0 [l.tr, r.tr]) (.agg #[.int .i64 5, .string nS, .int .i64 0, .slice A3 (0 + 1 + 1) c3])) ⟨hX8, hR8, hQ8, hb8, kT8⟩ (fun W9 h9 => ?_)
    clear hX8 hR8 hQ8 hb8 kT8 kT3 hkQ hbC
    obtain ⟨hX9, hR9, hQ9, hb9, kT9⟩ := h9
    refine wpAnyH_done (by kernel_rfl) ?_ _
    refine NoPanic.normal ?_
    obtain ⟨⟨y0, y1, y2, y3⟩, ⟨z0, z1, z2, z3⟩⟩ := hQ9.four
    obtain ⟨⟨r0, r1, r2, r3⟩, ⟨f0, f1, f2, f3⟩⟩ := hR9.four
    have x0 := hX9.cell 0
    simp only [List.getElem?_toArray, List.getElem?_cons_zero, List.getElem?_cons_succ] at x0
    have hqr : w.heap.size ≠ q := by omega
    have hqr2 : q ≠ w.heap.size := by omega
    have hqx : w.heap.size + 1 ≠ q := by omega
    have HR9 := Lib.hid hR9; have HB9 := Lib.hid hb9; have KT9 := Lib.hid kT9; have HQS := Lib.hid hqs; have HLX := Lib.hid hltx
    clear hX9 hR9 hQ9 hb9 kT9 hqs hltx
    go_wp2_with fail
    (try simp only [Exit.inBlock, Exit.then])
    refine bodyPost_ret (results_T rfl _ _ w.heap.size _ _ _ _ _ rfl (((HR9.out.far ⟨q, 1, none⟩ hqr _)).set4 _ _ _ _)) rfl ?_
    have hq2 := HQS.out
    have hl2 := HLX.out
    have hlt1 := HB1.out.size
    exact ⟨_, rfl, TrAt.mono (TrAt.set4 (r := w.heap.size) (TrAt.rename (KT9.out _ (gb_set 1 (.string s)))) (by omega) _ _ _ _) (by omega), bl_grown (bl_grown (bl_step HB9.out HB1.out) (gb_set (g := q) 1 (.string s)) (by omega)) (gb4 _ _ _ _ _ _) (Nat.le_refl _)⟩
set_option maxRecDepth 100000 in
set_option maxHeartbeats 8000000 in
theorem plterm_calls : ∀ (o : Tm), o.ok → ∀ (w : World), Calls Tryz.prog 66 #[o.val] w (GivesP w o.tr) := by
  intro o
  induction o with
  | zero => intro ho w; exact pterm_leaf _ ho rfl w
  | one s => intro ho w; exact pterm_leaf _ ho rfl w
  | odd v => intro ho w; exact pterm_leaf _ ho rfl w
  | when_ n t ih => intro ho w; exact plain_when n t ho (ih ho.2) w
  | if_ o l r il ir => intro ho w; exact plain_if o l r ho (il ho.2.1) (ir ho.2.2) w
  | or s l r il ir => intro ho w; exact plain_or s l r ho (il ho.2.1) (ir ho.2.2) w
  | give o ih =>
    intro ho w
    unfold GivesP
    have hok : o.ok := ho
    have hl := o.isI hok
    have IH := Lib.hid (ih hok)
    clear ih
    unfold GivesP at IH
    unfold Tm.val Tm.tr
    obtain ⟨W1, hW1⟩ : ∃ W1, (w.alloc (.cells #[.int .i64 0, .string ⟨#[]⟩, .int .i64 0, .slice none 0 0] 33)).alloc (.cells #[o.val] 158) = W1 := ⟨_, rfl⟩
    have hb1 := bl_alloc (bl_alloc (bl_refl w) (.cells #[.int .i64 0, .string ⟨#[]⟩, .int .i64 0, .slice none 0 0] 33)) (.cells #[o.val] 158)
    have hkR := (Blk.new w #[.int .i64 0, .string ⟨#[]⟩, .int .i64 0, .slice none 0 0] 33).below (bl_alloc (bl_refl _) (.cells #[o.val] 158))
    have hkX := Blk_new (w.alloc (.cells #[.int .i64 0, .string ⟨#[]⟩, .int .i64 0, .slice none 0 0] 33)) #[o.val] 158 (w.heap.size + 1) (alloc_size _ _).symm
    rw [hW1] at hb1 hkR hkX
    have hlt := hkR.lt
    have hltX := hkX.lt
    have HW1 := Lib.hid hW1; have HB1 := Lib.hid hb1; have HKR := Lib.hid hkR; have HKX := Lib.hid hkX
    clear hW1 hb1 hkR hkX
    have x0 := HKX.out.cell 0
    simp only [List.getElem?_toArray, List.getElem?_cons_zero, List.getElem?_cons_succ] at x0
    go_enter Tryz.func66, Tryz.ntmps66
    go_upto_region 10 with fail
    rw [HW1.out]
    go_wp2_with fail
    refine (IH.out _).mono ?_
    rintro en w2 ⟨v, rfl, hT, hb2⟩
    obtain ⟨A2, c2, cs2, rfl, -, -⟩ := hT.open_
    have hb3 := bl_step hb2 HB1.out
    have hkR2 := HKR.out.below hb2
    have hlt2 := hkR2.lt
    obtain ⟨⟨r0, r1, r2, r3⟩, ⟨f0, f1, f2, f3⟩⟩ := hkR2.four
    have HT := Lib.hid hT; have HB3 := Lib.hid hb3; have HKR2 := Lib.hid hkR2
    clear hT hb3 hkR2
    go_wp2_with fail
    (try simp only [Exit.inBlock, Exit.then])
    refine bodyPost_ret (results_T rfl _ _ w.heap.size _ _ _ _ _ rfl ((HKR2.out.set4 _ _ _ _).below (bl_alloc (bl_refl _) _))) rfl ?_
    have hlt1 := HB1.out.size
    refine ⟨_, rfl, TrAt.mk_ (RowOf.new (Blk_new _ _ _ w2.heap.size (size_set4 _ _ _ _ _ _).symm) (by omega)) (TrsAt.cons (TrAt.mono (((HT.out).set4 (r := w.heap.size) (by have := HKX.out.lt; omega) _ _ _ _).below (bl_alloc (bl_refl _) _)) (by omega)) (TrsAt.nil _ _)), bl_alloc (bl_grown HB3.out (gb4 _ _ _ _ _ _) (Nat.le_refl _)) _⟩
  | and l r ihl ihr =>
    intro ho w
    unfold GivesP
    have hok := ho
    have hl := l.isI ho.1
    have hr := r.isI ho.2
    have hol := ho.1; have hor := ho.2
    have IL := Lib.hid (ihl ho.1); have IR := Lib.hid (ihr ho.2)
    clear ihl ihr
    unfold Tm.val Tm.tr
    obtain ⟨W1, hW1⟩ : ∃ W1, (w.alloc (.cells #[.int .i64 0, .string ⟨#[]⟩, .int .i64 0, .slice none 0 0] 33)).alloc (.cells #[l.val, r.val] 160) = W1 := ⟨_, rfl⟩
    have hb1 := bl_alloc (bl_alloc (bl_refl w) (.cells #[.int .i64 0, .string ⟨#[]⟩, .int .i64 0, .slice none 0 0] 33)) (.cells #[l.val, r.val] 160)
    have hkR := (Blk.new w #[.int .i64 0, .string ⟨#[]⟩, .int .i64 0, .slice none 0 0] 33).below (bl_alloc (bl_refl _) (.cells #[l.val, r.val] 160))
    have hkX := Blk_new (w.alloc (.cells #[.int .i64 0, .string ⟨#[]⟩, .int .i64 0, .slice none 0 0] 33)) #[l.val, r.val] 160 (w.heap.size + 1) (alloc_size _ _).symm
    rw [hW1] at hb1 hkR hkX
    have hlt := hkR.lt
    have hltX := hkX.lt
    have HW1 := Lib.hid hW1; have HB1 := Lib.hid hb1; have HKR := Lib.hid hkR; have HKX := Lib.hid hkX
    clear hW1 hb1 hkR hkX
    have x0 := HKX.out.cell 0
    have x1 := HKX.out.cell 1
    simp only [List.getElem?_toArray, List.getElem?_cons_zero, List.getElem?_cons_succ] at x0 x1
    unfold GivesP at IL IR
    go_enter Tryz.func66, Tryz.ntmps66
    go_upto_region 13 with fail
    rw [HW1.out]
    refine wp_region_noPanic ?_
    refine wp_region_held_drew (S := fun w' => w'.cell? ⟨w.heap.size + 1, 0, none⟩ = some l.val ∧ w'.cell? ⟨w.heap.size + 1, 1, none⟩ = some r.val) (by kernel_rfl) ⟨x0, x1⟩ (fun hH => ?_)
    clear x0 x1 HW1
    refine wpAnyH_world (fun W => Below W1.heap.size W1 W) (bl_drew (bl_refl _)) (fun W2 hb2 => ?_)
    clear hH
    have hH : W2.cell? ⟨w.heap.size + 1, 0, none⟩ = some l.val ∧ W2.cell? ⟨w.heap.size + 1, 1, none⟩ = some r.val := ⟨(HKX.out.below hb2).cell 0, (HKX.out.below hb2).cell 1⟩
    refine tkx 0 rfl ?_
    refine tkx 1 rfl ?_
    refine tkx 3 rfl ?_
    refine tkx 4 rfl ?_
    refine wpAnyH_ready (rs := [2]) (by kernel_rfl) (by simp) ?_
    refine AllReadyH.cons rfl (fun K hK => ?_) AllReadyH.nil
    (try go_simp)
    refine (IL.out _).mono ?_
    rintro en W3 ⟨v1, rfl, hT1, hb3⟩
    (try go_simp)
    have hb4 := bl_step hb3 hb2
    refine hK.out _ _ ⟨(HKX.out.below hb4).cell 0, (HKX.out.below hb4).cell 1⟩ (fun hH9 => ?_)
    clear hK K hH
    have hH := hH9
    clear hH9
    (try dsimp only [Act.put, List.setIfInBounds_toArray, List.set_cons_zero, List.set_cons_succ])
    refine wpAnyH_ready (rs := [5]) (by kernel_rfl) (by simp) ?_
    refine AllReadyH.cons rfl (fun K hK => ?_) AllReadyH.nil
    (try go_simp)
    refine (IR.out _).mono ?_
    rintro en W4 ⟨v2, rfl, hT2, hb5⟩
    (try go_simp)
    have hb6 := bl_step hb5 hb4
    refine hK.out _ _ ⟨(HKX.out.below hb6).cell 0, (HKX.out.below hb6).cell 1⟩ (fun hH9 => ?_)
    clear hK K hH
    have hH := hH9
    clear hH9
    (try dsimp only [Act.put, List.setIfInBounds_toArray, List.set_cons_zero, List.set_cons_succ])
    refine wpAnyH_ready (rs := [6]) (by kernel_rfl) (by simp) ?_
    refine AllReadyH.cons rfl (fun K hK => ?_) AllReadyH.nil
    (try go_simp)
    have hz2 := hb2.size
    have hz3 := hb3.size
    have hz5 := hb5.size
    refine (two_calls 4 l.tr r.tr v1 v2 W1.heap.size W4 (by omega) ((hT1.below hb5).mono (by omega)) (hT2.mono (by omega))).mono ?_
    unfold GivesX
    rintro en W5 ⟨v3, rfl, hT3, hb7⟩
    obtain ⟨A3, c3, cs3, rfl, -, -⟩ := hT3.open_
    simp only [Tr.kind, Tr.s, Tr.n, Tr.ks, List.length_cons, List.length_nil] at hT3 ⊢
    (try go_simp)
    have hb8 := bl_step hb7 hb6
    refine hK.out _ _ ⟨(HKX.out.below hb8).cell 0, (HKX.out.below hb8).cell 1⟩ (fun hH9 => ?_)
    clear hK K hH hH9
    (try dsimp only [Act.put, List.setIfInBounds_toArray, List.set_cons_zero, List.set_cons_succ])
    have HKR5 := Lib.hid (HKR.out.below hb8); have HT3 := Lib.hid hT3; have HB8 := Lib.hid hb8
    clear hT1 hT2 hT3 hb2 hb3 hb4 hb5 hb6 hb7 hz2 hz3 hz5
    obtain ⟨⟨r0, r1, r2, r3⟩, ⟨f0, f1, f2, f3⟩⟩ := HKR5.out.four
    refine wpAnyH_ready (rs := [7]) (by kernel_rfl) (by simp) ?_
    refine AllReadyH.cons rfl (fun K hK => ?_) AllReadyH.nil
    (try go_simp)
    have hkX9 := (HKX.out.below hb8).grown (gb4 W5 w.heap.size (.int .i64 4) (.string nS) (.int .i64 0) (.slice A3 (0 + 1 + 1) c3)) (fun e => by injection e with e; omega)
    refine hK.out _ _ ⟨hkX9.cell 0, hkX9.cell 1⟩ (fun hH9 => ?_)
    clear hK K hH9 hkX9 hb8 r0 r1 r2 r3 f0 f1 f2 f3
    (try dsimp only [Act.put, List.setIfInBounds_toArray, List.set_cons_zero, List.set_cons_succ])
    refine wpAnyH_done (by kernel_rfl) ?_ _
    refine NoPanic.normal ?_
    go_wp2_with fail
    (try simp only [Exit.inBlock, Exit.then])
    refine bodyPost_ret (results_T rfl _ _ w.heap.size _ _ _ _ _ rfl ((HKR5.out).set4 _ _ _ _)) rfl ?_
    have hlt1 := HB1.out.size
    refine ⟨_, rfl, TrAt.mono (HT3.out.set4 (r := w.heap.size) (by omega) _ _ _ _) (by omega), bl_grown (bl_step HB8.out HB1.out) (gb4 _ _ _ _ _ _) (Nat.le_refl _)⟩
  | scale l r ihr =>
    intro ho w
    have ihl := plobs_calls l
    unfold GivesP
    have hok := ho
    have hl := l.isI ho.1
    have hr := r.isI ho.2
    have hol := ho.1; have hor := ho.2
    have IL := Lib.hid (ihl ho.1); have IR := Lib.hid (ihr ho.2)
    clear ihl ihr
    unfold Tm.val Tm.tr
    obtain ⟨W1, hW1⟩ : ∃ W1, (w.alloc (.cells #[.int .i64 0, .string ⟨#[]⟩, .int .i64 0, .slice none 0 0] 33)).alloc (.cells #[l.val, r.val] 165) = W1 := ⟨_, rfl⟩
    have hb1 := bl_alloc (bl_alloc (bl_refl w) (.cells #[.int .i64 0, .string ⟨#[]⟩, .int .i64 0, .slice none 0 0] 33)) (.cells #[l.val, r.val] 165)
    have hkR := (Blk.new w #[.int .i64 0, .string ⟨#[]⟩, .int .i64 0, .slice none 0 0] 33).below (bl_alloc (bl_refl _) (.cells #[l.val, r.val] 165))
    have hkX := Blk_new (w.alloc (.cells #[.int .i64 0, .string ⟨#[]⟩, .int .i64 0, .slice none 0 0] 33)) #[l.val, r.val] 165 (w.heap.size + 1) (alloc_size _ _).symm
    rw [hW1] at hb1 hkR hkX
    have hlt := hkR.lt
    have hltX := hkX.lt
    have HW1 := Lib.hid hW1; have HB1 := Lib.hid hb1; have HKR := Lib.hid hkR; have HKX := Lib.hid hkX
    clear hW1 hb1 hkR hkX
    have x0 := HKX.out.cell 0
    have x1 := HKX.out.cell 1
    simp only [List.getElem?_toArray, List.getElem?_cons_zero, List.getElem?_cons_succ] at x0 x1
    unfold GivesP at IL IR
    go_enter Tryz.func66, Tryz.ntmps66
    go_upto_region 21 with fail
    rw [HW1.out]
    refine wp_region_noPanic ?_
    refine wp_region_held_drew (S := fun w' => w'.cell? ⟨w.heap.size + 1, 0, none⟩ = some l.val ∧ w'.cell? ⟨w.heap.size + 1, 1, none⟩ = some r.val) (by kernel_rfl) ⟨x0, x1⟩ (fun hH => ?_)
    clear x0 x1 HW1
    refine wpAnyH_world (fun W => Below W1.heap.size W1 W) (bl_drew (bl_refl _)) (fun W2 hb2 => ?_)
    clear hH
    have hH : W2.cell? ⟨w.heap.size + 1, 0, none⟩ = some l.val ∧ W2.cell? ⟨w.heap.size + 1, 1, none⟩ = some r.val := ⟨(HKX.out.below hb2).cell 0, (HKX.out.below hb2).cell 1⟩
    refine tkx 0 rfl ?_
    refine tkx 1 rfl ?_
    refine tkx 3 rfl ?_
    refine tkx 4 rfl ?_
    refine wpAnyH_ready (rs := [2]) (by kernel_rfl) (by simp) ?_
    refine AllReadyH.cons rfl (fun K hK => ?_) AllReadyH.nil
    (try go_simp)
    refine (IL.out _).mono ?_
    rintro en W3 ⟨v1, rfl, hT1, hb3⟩
    (try go_simp)
    have hb4 := bl_step hb3 hb2
    refine hK.out _ _ ⟨(HKX.out.below hb4).cell 0, (HKX.out.below hb4).cell 1⟩ (fun hH9 => ?_)
    clear hK K hH
    have hH := hH9
    clear hH9
    (try dsimp only [Act.put, List.setIfInBounds_toArray, List.set_cons_zero, List.set_cons_succ])
    refine wpAnyH_ready (rs := [5]) (by kernel_rfl) (by simp) ?_
    refine AllReadyH.cons rfl (fun K hK => ?_) AllReadyH.nil
    (try go_simp)
    refine (IR.out _).mono ?_
    rintro en W4 ⟨v2, rfl, hT2, hb5⟩
    (try go_simp)
    have hb6 := bl_step hb5 hb4
    refine hK.out _ _ ⟨(HKX.out.below hb6).cell 0, (HKX.out.below hb6).cell 1⟩ (fun hH9 => ?_)
    clear hK K hH
    have hH := hH9
    clear hH9
    (try dsimp only [Act.put, List.setIfInBounds_toArray, List.set_cons_zero, List.set_cons_succ])
    refine wpAnyH_ready (rs := [6]) (by kernel_rfl) (by simp) ?_
    refine AllReadyH.cons rfl (fun K hK => ?_) AllReadyH.nil
    (try go_simp)
    have hz2 := hb2.size
    have hz3 := hb3.size
    have hz5 := hb5.size
    refine (two_calls 6 l.tr r.tr v1 v2 W1.heap.size W4 (by omega) ((hT1.below hb5).mono (by omega)) (hT2.mono (by omega))).mono ?_
    unfold GivesX
    rintro en W5 ⟨v3, rfl, hT3, hb7⟩
    obtain ⟨A3, c3, cs3, rfl, -, -⟩ := hT3.open_
    simp only [Tr.kind, Tr.s, Tr.n, Tr.ks, List.length_cons, List.length_nil] at hT3 ⊢
    (try go_simp)
    have hb8 := bl_step hb7 hb6
    refine hK.out _ _ ⟨(HKX.out.below hb8).cell 0, (HKX.out.below hb8).cell 1⟩ (fun hH9 => ?_)
    clear hK K hH hH9
    (try dsimp only [Act.put, List.setIfInBounds_toArray, List.set_cons_zero, List.set_cons_succ])
    have HKR5 := Lib.hid (HKR.out.below hb8); have HT3 := Lib.hid hT3; have HB8 := Lib.hid hb8
    clear hT1 hT2 hT3 hb2 hb3 hb4 hb5 hb6 hb7 hz2 hz3 hz5
    obtain ⟨⟨r0, r1, r2, r3⟩, ⟨f0, f1, f2, f3⟩⟩ := HKR5.out.four
    refine wpAnyH_ready (rs := [7]) (by kernel_rfl) (by simp) ?_
    refine AllReadyH.cons rfl (fun K hK => ?_) AllReadyH.nil
    (try go_simp)
    have hkX9 := (HKX.out.below hb8).grown (gb4 W5 w.heap.size (.int .i64 6) (.string nS) (.int .i64 0) (.slice A3 (0 + 1 + 1) c3)) (fun e => by injection e with e; omega)
    refine hK.out _ _ ⟨hkX9.cell 0, hkX9.cell 1⟩ (fun hH9 => ?_)
    clear hK K hH9 hkX9 hb8 r0 r1 r2 r3 f0 f1 f2 f3
    (try dsimp only [Act.put, List.setIfInBounds_toArray, List.set_cons_zero, List.set_cons_succ])
    refine wpAnyH_done (by kernel_rfl) ?_ _
    refine NoPanic.normal ?_
    go_wp2_with fail
    (try simp only [Exit.inBlock, Exit.then])
    refine bodyPost_ret (results_T rfl _ _ w.heap.size _ _ _ _ _ rfl ((HKR5.out).set4 _ _ _ _)) rfl ?_
    have hlt1 := HB1.out.size
    refine ⟨_, rfl, TrAt.mono (HT3.out.set4 (r := w.heap.size) (by omega) _ _ _ _) (by omega), bl_grown (bl_step HB8.out HB1.out) (gb4 _ _ _ _ _ _) (Nat.le_refl _)⟩
end Go.Proofs.YtapbkomicihkkaaGreatDoor
namespace Go.Proofs.YtapbkomicihkkaaGreatDoor
open Go.RowKit
set_option linter.unusedVariables false
set_option linter.unusedSimpArgs false

@[go_sem ↓] theorem bd_REvent (parts : Array (Nat × Value)) : Instr.build 35 parts = bdN 35 parts := rfl
@[go_sem] theorem run_bd_REvent (k d v k2 n2 : Int) (x1 x2 x3 x4 s2 : ByteArray) (A : Option Addr) (m c : Nat) (W : World) : (bdN 35 #[(0, .int .i64 k), (1, .string x1), (2, .string x2), (3, .string x3), (4, .string x4), (5, .int .i64 d), (6, .int .i64 v), (7, .agg #[.int .i64 k2, .string s2, .int .i64 n2, .slice A m c])]).run Tryz.prog W = .ok (.agg #[.int .i64 k, .string x1, .string x2, .string x3, .string x4, .int .i64 d, .int .i64 v, .int .i64 k2, .string s2, .int .i64 n2, .slice A m c]) W := by kernel_rfl
/-- It returns an event of the document's, in new memory. -/
def RetREv (w : World) (e : Ev) (en : Ending) (w' : World) : Prop := ∃ v, en = .returned v ∧ EvAt w.heap.size w' e v ∧ Below w.heap.size w w'
set_option maxRecDepth 100000 in
set_option maxHeartbeats 8000000 in
theorem event_calls (e : Ev) (hok : e.term.ok) (w : World) : Calls Tryz.prog 37 #[e.val] w (RetREv w e) := by
  have hti := e.term.isI hok
  have htm := fun W => plterm_calls e.term hok W
  unfold GivesP at htm
  unfold RetREv
  have hval : Hid (e.val = .agg #[.int .i64 e.kind, .string e.id, .string e.name, .string e.label, .string e.cur, .int .i64 e.day, .int .i64 e.value, e.term.val]) := rfl
  rw [hval.out]
  clear hval
  have hte := e.term.one_ hok
  have hk1 := (Blk.new w #[.int .i64 e.kind, .string e.id, .string e.name, .string e.label, .string e.cur, .int .i64 e.day, .int .i64 e.value, e.term.val] 30).below (bl_alloc (bl_refl _) (.cells #[.int .i64 0, .string ⟨#[]⟩, .string ⟨#[]⟩, .string ⟨#[]⟩, .string ⟨#[]⟩, .int .i64 0, .int .i64 0, .int .i64 0, .string ⟨#[]⟩, .int .i64 0, .slice none 0 0] 35))
  have hk2 := Blk_new (w.alloc (.cells #[.int .i64 e.kind, .string e.id, .string e.name, .string e.label, .string e.cur, .int .i64 e.day, .int .i64 e.value, e.term.val] 30)) #[.int .i64 0, .string ⟨#[]⟩, .string ⟨#[]⟩, .string ⟨#[]⟩, .string ⟨#[]⟩, .int .i64 0, .int .i64 0, .int .i64 0, .string ⟨#[]⟩, .int .i64 0, .slice none 0 0] 35 (w.heap.size + 1) (alloc_size _ _).symm
  have hb1 := bl_alloc (bl_alloc (bl_refl w) (.cells #[.int .i64 e.kind, .string e.id, .string e.name, .string e.label, .string e.cur, .int .i64 e.day, .int .i64 e.value, e.term.val] 30)) (.cells #[.int .i64 0, .string ⟨#[]⟩, .string ⟨#[]⟩, .string ⟨#[]⟩, .string ⟨#[]⟩, .int .i64 0, .int .i64 0, .int .i64 0, .string ⟨#[]⟩, .int .i64 0, .slice none 0 0] 35)
  obtain ⟨W1, hW1⟩ : ∃ W1, (w.alloc (.cells #[.int .i64 e.kind, .string e.id, .string e.name, .string e.label, .string e.cur, .int .i64 e.day, .int .i64 e.value, e.term.val] 30)).alloc (.cells #[.int .i64 0, .string ⟨#[]⟩, .string ⟨#[]⟩, .string ⟨#[]⟩, .string ⟨#[]⟩, .int .i64 0, .int .i64 0, .int .i64 0, .string ⟨#[]⟩, .int .i64 0, .slice none 0 0] 35) = W1 := ⟨_, rfl⟩
  rw [hW1] at hk1 hk2 hb1
  have hcc := e.term.cells_ hok
  have HW1 := Lib.hid hW1; have HK1 := Lib.hid hk1; have HK2 := Lib.hid hk2; have HB1 := Lib.hid hb1; have HTM := Lib.hid htm
  clear hW1 hk1 hk2 hb1 htm
  obtain ⟨k0, k1, k2, k3, k4, k5, k6, k7⟩ := HK1.out.eight
  go_enter Tryz.func37, Tryz.ntmps37
  go_upto_region 1 with fail
  rw [HW1.out]
  refine wp_region_noPanic ?_
  refine wp_region_held_drew (S := fun w' => w'.cell? ⟨w.heap.size, 0, none⟩ = some (.int .i64 e.kind) ∧ w'.cell? ⟨w.heap.size, 1, none⟩ = some (.string e.id) ∧ w'.cell? ⟨w.heap.size, 2, none⟩ = some (.string e.name) ∧ w'.cell? ⟨w.heap.size, 3, none⟩ = some (.string e.label) ∧ w'.cell? ⟨w.heap.size, 4, none⟩ = some (.string e.cur) ∧ w'.cell? ⟨w.heap.size, 5, none⟩ = some (.int .i64 e.day) ∧ w'.cell? ⟨w.heap.size, 6, none⟩ = some (.int .i64 e.value) ∧ w'.cell? ⟨w.heap.size, 7, none⟩ = some e.term.val) (by kernel_rfl) ⟨k0, k1, k2, k3, k4, k5, k6, k7⟩ (fun hH => ?_)
  clear k0 k1 k2 k3 k4 k5 k6 k7 HW1
  refine wpAnyH_world (fun W => Below W1.heap.size W1 W) (bl_drew (bl_refl _)) (fun W2 hb2 => ?_)
  clear hH
  obtain ⟨k0, k1, k2, k3, k4, k5, k6, k7⟩ := (HK1.out.below hb2).eight
  have hH : W2.cell? ⟨w.heap.size, 0, none⟩ = some (.int .i64 e.kind) ∧ W2.cell? ⟨w.heap.size, 1, none⟩ = some (.string e.id) ∧ W2.cell? ⟨w.heap.size, 2, none⟩ = some (.string e.name) ∧ W2.cell? ⟨w.heap.size, 3, none⟩ = some (.string e.label) ∧ W2.cell? ⟨w.heap.size, 4, none⟩ = some (.string e.cur) ∧ W2.cell? ⟨w.heap.size, 5, none⟩ = some (.int .i64 e.day) ∧ W2.cell? ⟨w.heap.size, 6, none⟩ = some (.int .i64 e.value) ∧ W2.cell? ⟨w.heap.size, 7, none⟩ = some e.term.val := ⟨k0, k1, k2, k3, k4, k5, k6, k7⟩
  clear k0 k1 k2 k3 k4 k5 k6 k7
  refine tkx 0 rfl ?_
  refine tkx 1 rfl ?_
  refine tkx 2 rfl ?_
  refine tkx 3 rfl ?_
  refine tkx 4 rfl ?_
  refine tkx 5 rfl ?_
  refine tkx 6 rfl ?_
  refine tkx 7 rfl ?_
  refine tkx 8 rfl ?_
  refine tkx 9 rfl ?_
  refine tkx 10 rfl ?_
  refine tkx 11 rfl ?_
  refine tkx 12 rfl ?_
  refine tkx 13 rfl ?_
  refine tkx 14 rfl ?_
  refine tkx 15 rfl ?_
  refine wpAnyH_ready (rs := [16]) (by kernel_rfl) (by simp) ?_
  refine AllReadyH.cons rfl (fun K hK => ?_) AllReadyH.nil
  (try go_simp)
  refine (HTM.out _).mono ?_
  rintro en W3 ⟨v, rfl, hT, hb3⟩
  obtain ⟨A, c, cs, rfl, -, -⟩ := hT.open_
  (try go_simp)
  have hb4 := bl_step hb3 hb2
  have hz2 := hb2.size
  have hT1 := hT.mono (y := W1.heap.size) hz2
  obtain ⟨k0, k1, k2, k3, k4, k5, k6, k7⟩ := (HK1.out.below hb4).eight
  refine hK.out _ _ ⟨k0, k1, k2, k3, k4, k5, k6, k7⟩ (fun hH9 => ?_)
  clear hK K hH hb2 hb3 k0 k1 k2 k3 k4 k5 k6 k7 hT hz2
  (try simp only [Act.put, List.setIfInBounds_toArray, List.set_cons_zero, List.set_cons_succ])
  refine tkx 17 rfl ?_
  have HK3 := Lib.hid (HK2.out.below hb4); have HT1 := Lib.hid hT1
  clear hT1
  obtain ⟨r0, r1, r2, r3, r4, r5, r6, r7, r8, r9, r10⟩ := HK3.out.eleven
  have rz := fun j => HK3.out.frozen j
  refine wpAnyH_ready (rs := [18]) (by kernel_rfl) (by simp) ?_
  refine AllReadyH.cons rfl (fun K hK => ?_) AllReadyH.nil
  (try go_simp)
  have hk5 := (HK1.out.below hb4).grown (gb_set11 W3 (w.heap.size + 1) (.int .i64 e.kind) (.string e.id) (.string e.name) (.string e.label) (.string e.cur) (.int .i64 e.day) (.int .i64 e.value) (.int .i64 e.term.tr.kind) (.string e.term.tr.s) (.int .i64 e.term.tr.n) (.slice A e.term.tr.ks.length c)) (fun e => by injection e with e; omega)
  obtain ⟨k0, k1, k2, k3, k4, k5, k6, k7⟩ := hk5.eight
  refine hK.out _ _ ⟨k0, k1, k2, k3, k4, k5, k6, k7⟩ (fun hH8 => ?_)
  clear hK K hH9 hH8 k0 k1 k2 k3 k4 k5 k6 k7 hk5
  (try simp only [Act.put, List.setIfInBounds_toArray, List.set_cons_zero, List.set_cons_succ])
  refine wpAnyH_done (by kernel_rfl) ?_ _
  refine NoPanic.normal ?_
  clear r0 r1 r2 r3 r4 r5 r6 r7 r8 r9 r10 rz
  have HB4 := Lib.hid hb4
  clear hb4
  go_wp2_with fail
  (try simp only [Exit.inBlock, Exit.then])
  refine bodyPost_ret (results_E rfl _ _ (w.heap.size + 1) _ _ _ _ _ _ _ _ _ _ _ _ rfl (HK3.out.set11 _ _ _ _ _ _ _ _ _ _ _)) rfl ?_
  have hl := HK2.out.lt
  have hz := HB1.out.size
  exact ⟨_, rfl, ⟨_, _, _, _, rfl, TrAt.mono (TrAt.grown HT1.out (gb_set11 _ (w.heap.size + 1) _ _ _ _ _ _ _ _ _ _ _) (by omega)) (by omega)⟩, bl_grown (bl_step HB4.out HB1.out) (gb_set11 _ _ _ _ _ _ _ _ _ _ _ _ _) (by omega)⟩
/-- What Some gives: an event of the program's, the document's, and whether its term is odd. -/
def RetSome (w : World) (en : Ending) (w' : World) : Prop := ∃ (e : Ev) (x : Value), en = .returned (.tuple #[e.val, x, .bool false]) ∧ EvAt w.heap.size w' e x ∧ e.fit ∧ Below w.heap.size w w'
end Go.Proofs.YtapbkomicihkkaaGreatDoor
