/- The document's trees as numbers of the program. -/
import Derived.Test.YtapbkomicihkkaaGreatDoorPlan1
namespace Go.Proofs.YtapbkomicihkkaaGreatDoor
open Go.RowKit
set_option linter.unusedVariables false
set_option linter.unusedSimpArgs false

theorem RowOf.some_ {x : Nat} {w : World} {A : Option Addr} {v : Value} {cs : List Value} (h : RowOf x w A (v :: cs)) : ∃ q, A = some ⟨q, 0, none⟩ ∧ ∀ j (u : Value), (v :: cs)[j]? = some u → w.cell? ⟨q, j, none⟩ = some u := by
  rcases h with h | ⟨b, h1, h2, h3⟩
  · cases h.2
  · exact ⟨b, h1, h3⟩
theorem TrAt.one {x : Nat} {w : World} {k : Int} {s : ByteArray} {n : Int} {a : Tr} {v : Value} (h : TrAt x w (.mk k s n [a]) v) :
    ∃ (q c : Nat) (c0 c1 c2 c3 : Value), v = .agg #[.int .i64 k, .string s, .int .i64 n, .slice (some ⟨q, 0, none⟩) 1 c] ∧ (w.cell? ⟨q, 0, none⟩ = some c0 ∧ w.cell? ⟨q, 1, none⟩ = some c1 ∧ w.cell? ⟨q, 2, none⟩ = some c2 ∧ w.cell? ⟨q, 3, none⟩ = some c3) ∧ TrAt x w a (.agg #[c0, c1, c2, c3]) := by
  obtain ⟨A, c, cs, rfl, hr, ht⟩ := h.open_
  obtain ⟨c0, c1, c2, c3, rest, rfl, h0, _⟩ := TrsAt.uncons ht
  obtain ⟨q, rfl, hq⟩ := hr.some_
  exact ⟨q, c, c0, c1, c2, c3, rfl, ⟨hq 0 _ rfl, hq 1 _ rfl, hq 2 _ rfl, hq 3 _ rfl⟩, h0⟩
theorem TrAt.two {x : Nat} {w : World} {k : Int} {s : ByteArray} {n : Int} {a b : Tr} {v : Value} (h : TrAt x w (.mk k s n [a, b]) v) :
    ∃ (q c : Nat) (c0 c1 c2 c3 c4 c5 c6 c7 : Value), v = .agg #[.int .i64 k, .string s, .int .i64 n, .slice (some ⟨q, 0, none⟩) 2 c] ∧ (w.cell? ⟨q, 0, none⟩ = some c0 ∧ w.cell? ⟨q, 1, none⟩ = some c1 ∧ w.cell? ⟨q, 2, none⟩ = some c2 ∧ w.cell? ⟨q, 3, none⟩ = some c3) ∧ (w.cell? ⟨q, 4, none⟩ = some c4 ∧ w.cell? ⟨q, 5, none⟩ = some c5 ∧ w.cell? ⟨q, 6, none⟩ = some c6 ∧ w.cell? ⟨q, 7, none⟩ = some c7) ∧ TrAt x w a (.agg #[c0, c1, c2, c3]) ∧ TrAt x w b (.agg #[c4, c5, c6, c7]) := by
  obtain ⟨A, c, cs, rfl, hr, ht⟩ := h.open_
  obtain ⟨c0, c1, c2, c3, rest, rfl, h0, ht⟩ := TrsAt.uncons ht
  obtain ⟨c4, c5, c6, c7, rest, rfl, h1, _⟩ := TrsAt.uncons ht
  obtain ⟨q, rfl, hq⟩ := hr.some_
  exact ⟨q, c, c0, c1, c2, c3, c4, c5, c6, c7, rfl, ⟨hq 0 _ rfl, hq 1 _ rfl, hq 2 _ rfl, hq 3 _ rfl⟩, ⟨hq 4 _ rfl, hq 5 _ rfl, hq 6 _ rfl, hq 7 _ rfl⟩, h0, h1⟩
theorem TrAt.three {x : Nat} {w : World} {k : Int} {s : ByteArray} {n : Int} {a b d : Tr} {v : Value} (h : TrAt x w (.mk k s n [a, b, d]) v) :
    ∃ (q c : Nat) (c0 c1 c2 c3 c4 c5 c6 c7 c8 c9 ca cb : Value), v = .agg #[.int .i64 k, .string s, .int .i64 n, .slice (some ⟨q, 0, none⟩) 3 c] ∧ (w.cell? ⟨q, 0, none⟩ = some c0 ∧ w.cell? ⟨q, 1, none⟩ = some c1 ∧ w.cell? ⟨q, 2, none⟩ = some c2 ∧ w.cell? ⟨q, 3, none⟩ = some c3) ∧ (w.cell? ⟨q, 4, none⟩ = some c4 ∧ w.cell? ⟨q, 5, none⟩ = some c5 ∧ w.cell? ⟨q, 6, none⟩ = some c6 ∧ w.cell? ⟨q, 7, none⟩ = some c7) ∧ (w.cell? ⟨q, 8, none⟩ = some c8 ∧ w.cell? ⟨q, 9, none⟩ = some c9 ∧ w.cell? ⟨q, 10, none⟩ = some ca ∧ w.cell? ⟨q, 11, none⟩ = some cb) ∧ TrAt x w a (.agg #[c0, c1, c2, c3]) ∧ TrAt x w b (.agg #[c4, c5, c6, c7]) ∧ TrAt x w d (.agg #[c8, c9, ca, cb]) := by
  obtain ⟨A, c, cs, rfl, hr, ht⟩ := h.open_
  obtain ⟨c0, c1, c2, c3, rest, rfl, h0, ht⟩ := TrsAt.uncons ht
  obtain ⟨c4, c5, c6, c7, rest, rfl, h1, ht⟩ := TrsAt.uncons ht
  obtain ⟨c8, c9, ca, cb, rest, rfl, h2, _⟩ := TrsAt.uncons ht
  obtain ⟨q, rfl, hq⟩ := hr.some_
  exact ⟨q, c, c0, c1, c2, c3, c4, c5, c6, c7, c8, c9, ca, cb, rfl, ⟨hq 0 _ rfl, hq 1 _ rfl, hq 2 _ rfl, hq 3 _ rfl⟩, ⟨hq 4 _ rfl, hq 5 _ rfl, hq 6 _ rfl, hq 7 _ rfl⟩, ⟨hq 8 _ rfl, hq 9 _ rfl, hq 10 _ rfl, hq 11 _ rfl⟩, h0, h1, h2⟩
/-- What a number's tree gives: the number, in new memory. -/
def GivesO (w : World) (o : Ob) : Ending → World → Prop := fun e w' => e = .returned o.val ∧ Below w.heap.size w w'
theorem Blk.fours {w : World} {r : Nat} {a b c d : Value} {t : TypeId} (h : Blk w r #[a, b, c, d] t) : w.cell? ⟨r, 0, none⟩ = some a ∧ w.cell? ⟨r, 1, none⟩ = some b ∧ w.cell? ⟨r, 2, none⟩ = some c ∧ w.cell? ⟨r, 3, none⟩ = some d :=
  ⟨h.cell 0, h.cell 1, h.cell 2, h.cell 3⟩
set_option maxRecDepth 100000 in
set_option maxHeartbeats 4000000 in
theorem cobs_calls : ∀ (o : Ob), o.fine → ∀ (x : Nat) (w : World) (v : Value), TrAt x w o.tr v → Calls Tryz.prog 73 #[v] w (GivesO w o) := by
  intro o
  induction o with
  | odd v => intro h; exact h.elim
  | const n =>
    intro hf x w v ht
    obtain ⟨A, c, cs, rfl, -, -⟩ := ht.open_
    unfold Ob.tr at *
    simp only [Tr.kind, Tr.s, Tr.n, Tr.ks, List.length_nil]
    clear ht
    unfold nS
    obtain ⟨W1, hW1⟩ : ∃ W1, w.alloc (.cells #[.int .i64 11, .string ⟨#[]⟩, .int .i64 n, .slice A 0 c] 33) = W1 := ⟨_, rfl⟩
    have hk := Blk.new w #[.int .i64 11, .string ⟨#[]⟩, .int .i64 n, .slice A 0 c] 33
    have hbA := bl_alloc (bl_refl w) (.cells #[.int .i64 11, .string ⟨#[]⟩, .int .i64 n, .slice A 0 c] 33)
    rw [hW1] at hk hbA
    obtain ⟨k0, k1, k2, k3⟩ := hk.fours
    have HW1 := Lib.hid hW1
    clear hW1 hk
    go_enter Tryz.func73, Tryz.ntmps73
    go_wp2_with (rw [HW1.out])
    go_ret
    exact ⟨rfl, hbA⟩
  | fix s =>
    intro hf x w v ht
    obtain ⟨A, c, cs, rfl, -, -⟩ := ht.open_
    unfold Ob.tr at *
    simp only [Tr.kind, Tr.s, Tr.n, Tr.ks, List.length_nil]
    clear ht
    obtain ⟨W1, hW1⟩ : ∃ W1, w.alloc (.cells #[.int .i64 12, .string s, .int .i64 0, .slice A 0 c] 33) = W1 := ⟨_, rfl⟩
    have hk := Blk.new w #[.int .i64 12, .string s, .int .i64 0, .slice A 0 c] 33
    have hbA := bl_alloc (bl_refl w) (.cells #[.int .i64 12, .string s, .int .i64 0, .slice A 0 c] 33)
    rw [hW1] at hk hbA
    obtain ⟨k0, k1, k2, k3⟩ := hk.fours
    have HW1 := Lib.hid hW1
    clear hW1 hk
    go_enter Tryz.func73, Tryz.ntmps73
    go_wp2_with (rw [HW1.out])
    go_ret
    exact ⟨rfl, hbA⟩
  | neg o ih =>
    intro hf x w v ht
    obtain ⟨q, c, c0, c1, c2, c3, rfl, ⟨h0, h1, h2, h3⟩, ha⟩ := ht.one
    have hl := o.isI (Ob.fine.ok (o := o) hf)
    clear ht
    obtain ⟨W1, hW1⟩ : ∃ W1, w.alloc (.cells #[.int .i64 14, .string nS, .int .i64 0, .slice (some ⟨q, 0, none⟩) 1 c] 33) = W1 := ⟨_, rfl⟩
    have hk := Blk.new w #[.int .i64 14, .string nS, .int .i64 0, .slice (some ⟨q, 0, none⟩) 1 c] 33
    have hbA := bl_alloc (bl_refl w) (.cells #[.int .i64 14, .string nS, .int .i64 0, .slice (some ⟨q, 0, none⟩) 1 c] 33)
    rw [hW1] at hk hbA
    obtain ⟨k0, k1, k2, k3⟩ := hk.fours
    have HW1 := Lib.hid hW1
    clear hW1 hk
    replace h0 := cell_below hbA h0
    replace h1 := cell_below hbA h1
    replace h2 := cell_below hbA h2
    replace h3 := cell_below hbA h3
    have hn := ih hf x W1 _ (ha.below hbA)
    unfold GivesO at *
    unfold nS at *
    have HN := Lib.hid hn
    clear hn ih ha
    go_enter Tryz.func73, Tryz.ntmps73
    go_wp2_with (rw [HW1.out])
    refine HN.out.mono ?_
    rintro e wX ⟨rfl, hbX⟩
    go_wp2_with fail
    go_ret
    exact ⟨rfl, bl_step hbX hbA⟩
  | add l r ihl ihr =>
    intro hf x w v ht
    obtain ⟨q, c, c0, c1, c2, c3, c4, c5, c6, c7, rfl, ⟨h0, h1, h2, h3⟩, ⟨h4, h5, h6, h7⟩, ha, hb⟩ := ht.two
    clear ht
    obtain ⟨W1, hW1⟩ : ∃ W1, w.alloc (.cells #[.int .i64 13, .string nS, .int .i64 0, .slice (some ⟨q, 0, none⟩) 2 c] 33) = W1 := ⟨_, rfl⟩
    have hk := Blk.new w #[.int .i64 13, .string nS, .int .i64 0, .slice (some ⟨q, 0, none⟩) 2 c] 33
    have hbA := bl_alloc (bl_refl w) (.cells #[.int .i64 13, .string nS, .int .i64 0, .slice (some ⟨q, 0, none⟩) 2 c] 33)
    rw [hW1] at hk hbA
    obtain ⟨k0, k1, k2, k3⟩ := hk.fours
    have HW1 := Lib.hid hW1
    clear hW1 hk
    replace h0 := cell_below hbA h0
    replace h1 := cell_below hbA h1
    replace h2 := cell_below hbA h2
    replace h3 := cell_below hbA h3
    replace h4 := cell_below hbA h4
    replace h5 := cell_below hbA h5
    replace h6 := cell_below hbA h6
    replace h7 := cell_below hbA h7
    have HA := Lib.hid (ha.below hbA); have HB := Lib.hid (hb.below hbA)
    clear ha hb
    have hl := l.isI hf.1.ok
    have hr := r.isI hf.2.ok
    have IL := Lib.hid (ihl hf.1); have IR := Lib.hid (ihr hf.2)
    clear ihl ihr
    unfold GivesO at *
    unfold nS at *
    go_enter Tryz.func73, Tryz.ntmps73
    go_upto_region 7 with (rw [HW1.out])
    have HA1 := Lib.hid (HA.out.below (bl_drew (bl_refl _)))
    go_region_held3 (fun w' => w'.cell? ⟨w.heap.size, 3, none⟩ = some (.slice (some ⟨q, 0, none⟩) 2 c) ∧ w'.cell? ⟨q, 0, none⟩ = some c0 ∧ w'.cell? ⟨q, 1, none⟩ = some c1 ∧ w'.cell? ⟨q, 2, none⟩ = some c2 ∧ w'.cell? ⟨q, 3, none⟩ = some c3 ∧ w'.cell? ⟨q, 4, none⟩ = some c4 ∧ w'.cell? ⟨q, 5, none⟩ = some c5 ∧ w'.cell? ⟨q, 6, none⟩ = some c6 ∧ w'.cell? ⟨q, 7, none⟩ = some c7) (first | exact ⟨cell_below hbX k3, cell_below hbX h0, cell_below hbX h1, cell_below hbX h2, cell_below hbX h3, cell_below hbX h4, cell_below hbX h5, cell_below hbX h6, cell_below hbX h7⟩ | exact ⟨k3, h0, h1, h2, h3, h4, h5, h6, h7⟩ | go_keep) (((first | go_at_call 73 | go_at_call 73); first | (refine (IR.out x wX _ HB2.out).mono ?_; rintro e wY ⟨rfl, hb0⟩; have hbZ := bl_step hb0 hbX; clear hbX; have hbX := hbZ) | (refine (IL.out x W1.drew _ HA1.out).mono ?_; rintro e wX ⟨rfl, hb0⟩; have hbX := bl_step hb0 (bl_drew (bl_refl W1)); have HB2 := Lib.hid (HB.out.below hbX))))
    go_wp2_with fail
    go_ret
    exact ⟨rfl, bl_step hbX hbA⟩
  | mul l r ihl ihr =>
    intro hf x w v ht
    obtain ⟨q, c, c0, c1, c2, c3, c4, c5, c6, c7, rfl, ⟨h0, h1, h2, h3⟩, ⟨h4, h5, h6, h7⟩, ha, hb⟩ := ht.two
    clear ht
    obtain ⟨W1, hW1⟩ : ∃ W1, w.alloc (.cells #[.int .i64 15, .string nS, .int .i64 0, .slice (some ⟨q, 0, none⟩) 2 c] 33) = W1 := ⟨_, rfl⟩
    have hk := Blk.new w #[.int .i64 15, .string nS, .int .i64 0, .slice (some ⟨q, 0, none⟩) 2 c] 33
    have hbA := bl_alloc (bl_refl w) (.cells #[.int .i64 15, .string nS, .int .i64 0, .slice (some ⟨q, 0, none⟩) 2 c] 33)
    rw [hW1] at hk hbA
    obtain ⟨k0, k1, k2, k3⟩ := hk.fours
    have HW1 := Lib.hid hW1
    clear hW1 hk
    replace h0 := cell_below hbA h0
    replace h1 := cell_below hbA h1
    replace h2 := cell_below hbA h2
    replace h3 := cell_below hbA h3
    replace h4 := cell_below hbA h4
    replace h5 := cell_below hbA h5
    replace h6 := cell_below hbA h6
    replace h7 := cell_below hbA h7
    have HA := Lib.hid (ha.below hbA); have HB := Lib.hid (hb.below hbA)
    clear ha hb
    have hl := l.isI hf.1.ok
    have hr := r.isI hf.2.ok
    have IL := Lib.hid (ihl hf.1); have IR := Lib.hid (ihr hf.2)
    clear ihl ihr
    unfold GivesO at *
    unfold nS at *
    go_enter Tryz.func73, Tryz.ntmps73
    go_upto_region 11 with (rw [HW1.out])
    have HA1 := Lib.hid (HA.out.below (bl_drew (bl_refl _)))
    go_region_held3 (fun w' => w'.cell? ⟨w.heap.size, 3, none⟩ = some (.slice (some ⟨q, 0, none⟩) 2 c) ∧ w'.cell? ⟨q, 0, none⟩ = some c0 ∧ w'.cell? ⟨q, 1, none⟩ = some c1 ∧ w'.cell? ⟨q, 2, none⟩ = some c2 ∧ w'.cell? ⟨q, 3, none⟩ = some c3 ∧ w'.cell? ⟨q, 4, none⟩ = some c4 ∧ w'.cell? ⟨q, 5, none⟩ = some c5 ∧ w'.cell? ⟨q, 6, none⟩ = some c6 ∧ w'.cell? ⟨q, 7, none⟩ = some c7) (first | exact ⟨cell_below hbX k3, cell_below hbX h0, cell_below hbX h1, cell_below hbX h2, cell_below hbX h3, cell_below hbX h4, cell_below hbX h5, cell_below hbX h6, cell_below hbX h7⟩ | exact ⟨k3, h0, h1, h2, h3, h4, h5, h6, h7⟩ | go_keep) (((first | go_at_call 73 | go_at_call 73); first | (refine (IR.out x wX _ HB2.out).mono ?_; rintro e wY ⟨rfl, hb0⟩; have hbZ := bl_step hb0 hbX; clear hbX; have hbX := hbZ) | (refine (IL.out x W1.drew _ HA1.out).mono ?_; rintro e wX ⟨rfl, hb0⟩; have hbX := bl_step hb0 (bl_drew (bl_refl W1)); have HB2 := Lib.hid (HB.out.below hbX))))
    go_wp2_with fail
    go_ret
    exact ⟨rfl, bl_step hbX hbA⟩
  | max l r ihl ihr =>
    intro hf x w v ht
    obtain ⟨q, c, c0, c1, c2, c3, c4, c5, c6, c7, rfl, ⟨h0, h1, h2, h3⟩, ⟨h4, h5, h6, h7⟩, ha, hb⟩ := ht.two
    clear ht
    obtain ⟨W1, hW1⟩ : ∃ W1, w.alloc (.cells #[.int .i64 16, .string nS, .int .i64 0, .slice (some ⟨q, 0, none⟩) 2 c] 33) = W1 := ⟨_, rfl⟩
    have hk := Blk.new w #[.int .i64 16, .string nS, .int .i64 0, .slice (some ⟨q, 0, none⟩) 2 c] 33
    have hbA := bl_alloc (bl_refl w) (.cells #[.int .i64 16, .string nS, .int .i64 0, .slice (some ⟨q, 0, none⟩) 2 c] 33)
    rw [hW1] at hk hbA
    obtain ⟨k0, k1, k2, k3⟩ := hk.fours
    have HW1 := Lib.hid hW1
    clear hW1 hk
    replace h0 := cell_below hbA h0
    replace h1 := cell_below hbA h1
    replace h2 := cell_below hbA h2
    replace h3 := cell_below hbA h3
    replace h4 := cell_below hbA h4
    replace h5 := cell_below hbA h5
    replace h6 := cell_below hbA h6
    replace h7 := cell_below hbA h7
    have HA := Lib.hid (ha.below hbA); have HB := Lib.hid (hb.below hbA)
    clear ha hb
    have hl := l.isI hf.1.ok
    have hr := r.isI hf.2.ok
    have IL := Lib.hid (ihl hf.1); have IR := Lib.hid (ihr hf.2)
    clear ihl ihr
    unfold GivesO at *
    unfold nS at *
    go_enter Tryz.func73, Tryz.ntmps73
    go_upto_region 13 with (rw [HW1.out])
    have HA1 := Lib.hid (HA.out.below (bl_drew (bl_refl _)))
    go_region_held3 (fun w' => w'.cell? ⟨w.heap.size, 3, none⟩ = some (.slice (some ⟨q, 0, none⟩) 2 c) ∧ w'.cell? ⟨q, 0, none⟩ = some c0 ∧ w'.cell? ⟨q, 1, none⟩ = some c1 ∧ w'.cell? ⟨q, 2, none⟩ = some c2 ∧ w'.cell? ⟨q, 3, none⟩ = some c3 ∧ w'.cell? ⟨q, 4, none⟩ = some c4 ∧ w'.cell? ⟨q, 5, none⟩ = some c5 ∧ w'.cell? ⟨q, 6, none⟩ = some c6 ∧ w'.cell? ⟨q, 7, none⟩ = some c7) (first | exact ⟨cell_below hbX k3, cell_below hbX h0, cell_below hbX h1, cell_below hbX h2, cell_below hbX h3, cell_below hbX h4, cell_below hbX h5, cell_below hbX h6, cell_below hbX h7⟩ | exact ⟨k3, h0, h1, h2, h3, h4, h5, h6, h7⟩ | go_keep) (((first | go_at_call 73 | go_at_call 73); first | (refine (IR.out x wX _ HB2.out).mono ?_; rintro e wY ⟨rfl, hb0⟩; have hbZ := bl_step hb0 hbX; clear hbX; have hbX := hbZ) | (refine (IL.out x W1.drew _ HA1.out).mono ?_; rintro e wX ⟨rfl, hb0⟩; have hbX := bl_step hb0 (bl_drew (bl_refl W1)); have HB2 := Lib.hid (HB.out.below hbX))))
    go_wp2_with fail
    go_ret
    exact ⟨rfl, bl_step hbX hbA⟩
end Go.Proofs.YtapbkomicihkkaaGreatDoor
