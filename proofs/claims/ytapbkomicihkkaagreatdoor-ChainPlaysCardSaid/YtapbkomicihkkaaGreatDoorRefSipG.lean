/- The document's answer for the keyed sum. -/
import Derived.Test.YtapbkomicihkkaaGreatDoorKeyG
import Derived.Test.YtapbkomicihkkaaGreatDoorSipG
namespace Go.Proofs.YtapbkomicihkkaaGreatDoor
open Go.RowKit
set_option linter.unusedVariables false
set_option linter.unusedSimpArgs false

/-- How many zeros the document's answer puts behind the bytes. -/
def padN (n : Nat) : Nat := 7 - n % 8
def padded (b : List UInt8) : List UInt8 := b ++ List.replicate (padN b.length) 0 ++ [UInt8.ofNat b.length]
theorem padded_length (b : List UInt8) : (padded b).length = 8 * (b.length / 8 + 1) := by
 unfold padded padN
 simp
 omega
theorem valN_zeros (k : Nat) : valN (List.replicate k 0) = 0 := by
 induction k with
 | zero => rfl
 | succ k ih => rw [List.replicate_succ]; simp [valN, ih]
theorem padded_block (b : List UInt8) (j : Nat) (h : j < b.length / 8) : ((padded b).drop (8 * j)).take 8 = (b.drop (8 * j)).take 8 := by
 unfold padded
 rw [List.append_assoc, List.drop_append_of_le_length (by omega), List.take_append_of_le_length (by rw [List.length_drop]; omega)]
theorem padded_last (b : List UInt8) : ((padded b).drop (8 * (b.length / 8))).take 8 = b.drop (8 * (b.length / 8)) ++ (List.replicate (padN b.length) 0 ++ [UInt8.ofNat b.length]) := by
 unfold padded
 rw [List.append_assoc, List.drop_append_of_le_length (by omega)]
 apply List.take_of_length_le
 unfold padN
 simp
 omega
theorem last_eq (b : List UInt8) (hb : b.length < 9223372036854775808) : lowI (((padded b).drop (8 * (b.length / 8))).take 8) = lastNum b := by
 rw [padded_last]
 have hr : (b.drop (8 * (b.length / 8))).length ≤ 7 := by rw [List.length_drop]; omega
 have hlen : (b.drop (8 * (b.length / 8))).length + padN b.length = 7 := by rw [List.length_drop]; unfold padN; omega
 rw [lowI_val _ (by simp only [List.length_append, List.length_replicate, List.length_cons, List.length_nil]; omega)]
 rw [valN_append, valN_append, valN_zeros]
 unfold lastNum
 rw [lowI_val _ (by omega)]
 have hv := valN_lt (b.drop (8 * (b.length / 8)))
 generalize hR : b.drop (8 * (b.length / 8)) = R at *
 have h7 : 256 ^ R.length ≤ 256 ^ 7 := Nat.pow_le_pow_right (by omega) (by omega)
 have e1 : (((b.length : Int)) * 72057594037927936) % 18446744073709551616 = (((b.length % 256) * 72057594037927936 : Nat) : Int) := by omega
 rw [IntKind.wrap_u64, e1]
 have h56 : (256 : Nat) ^ 7 = 72057594037927936 := by decide
 rw [bits_or_u64_nat _ _ (by omega) (by omega)]
 congr 1
 have h2 : valN R < 2 ^ 56 := by
  have : (2 : Nat) ^ 56 = 72057594037927936 := by decide
  omega
 rw [Nat.or_comm, Nat.mul_comm (b.length % 256), show (72057594037927936 : Nat) = 2 ^ 56 by decide, ← Nat.two_pow_add_eq_or_of_lt h2]
 rw [Nat.zero_add, ← Nat.mul_assoc, ← Nat.pow_add, List.length_replicate, hlen, h56]
 simp only [valN, Nat.mul_zero, Nat.add_zero, Nat.zero_add]
 rw [show (UInt8.ofNat b.length).toNat = b.length % 256 by simp]
 omega
theorem blocks_padded (s : Four) (b : List UInt8) : ∀ j, j ≤ b.length / 8 → blocks s (padded b) j = blocks s b j := by
 intro j
 induction j with
 | zero => intro _; rfl
 | succ j ih => intro h; simp only [blocks]; rw [ih (by omega), padded_block b j (by omega)]
/-- What the document's answer reckons. -/
def refOf (s : Four) (p : List UInt8) : Int := (Four.rnds 4 (blocks s p (p.length / 8)).fin).out
theorem ref_eq (s : Four) (b : List UInt8) (hb : b.length < 9223372036854775808) : refOf s (padded b) = sipOf s b := by
 unfold refOf sipOf
 rw [padded_length, show 8 * (b.length / 8 + 1) / 8 = b.length / 8 + 1 by omega]
 simp only [blocks]
 rw [blocks_padded s b _ (Nat.le_refl _), last_eq b hb]
theorem number_at (A : Option Addr) (c n : Nat) (l : List UInt8) (w : World) (hr : Rd w A (byts l)) (hl : l.length = 8) (hn : n = 8) :
  Calls Tryz.prog 86 #[.slice A n c] w fun e w' => e = .returned (.int .u64 (lowI l)) ∧ w' = w := by
 subst hn
 have := refnum_calls A c l w hr hl
 rwa [refNum_low l (by omega)] at this
theorem refround_at (s : Four) (hU : s.U) (w : World) :
  Calls Tryz.prog 87 #[.agg s.cells] w fun e w' => e = .returned (.agg s.rnd.cells) ∧ Below w.heap.size w w' := refround_calls s.a s.b s.c s.d w hU
/-- How long a slice is. -/
def lenOfV : Value → Nat | .slice _ n _ => n | _ => 0
theorem byts_snoc (l : List UInt8) (x : UInt8) : byts (l ++ [x]) = byts l ++ [.int .u8 (x.toNat : Int)] := by simp [byts]
theorem rep_snoc (b : List UInt8) (j : Nat) : b ++ List.replicate (j + 1) (0 : UInt8) = (b ++ List.replicate j 0) ++ [0] := by
 rw [List.append_assoc]; congr 1; rw [List.replicate_succ']

/-- The state of the document's answer: its array, the padded bytes, nothing else changed. -/
structure RSt (w wr : World) (g : Nat) (v : Value) (n : Nat) (xs : List Value) (s : Four) : Prop where
 blk : Blk wr g s.cells 182
 own : Own w wr 5 1 v n xs
 hU : s.U
 bel : Below w.heap.size w wr
 hg : w.heap.size ≤ g
theorem RSt.after {w wr w' : World} {g n : Nat} {v : Value} {xs : List Value} {s : Four} (h : RSt w wr g v n xs s) (hb : Below wr.heap.size wr w') : RSt w w' g v n xs s :=
 ⟨h.blk.below hb, h.own.below hb, h.hU, bl_step hb h.bel, h.hg⟩
theorem RSt.drew {w wr : World} {g n : Nat} {v : Value} {xs : List Value} {s : Four} (h : RSt w wr g v n xs s) : RSt w wr.drew g v n xs s := h.after (bl_refl wr).drew
theorem RSt.cell {w wr : World} {g n : Nat} {v : Value} {xs : List Value} {s t : Four} (h : RSt w wr g v n xs s) (j : Nat) (x : Int) (e : s.cells.setIfInBounds j (.int .u64 x) = t.cells) (hU : t.U) : RSt w (wr.setCell ⟨g, j, none⟩ (.int .u64 x)) g v n xs t :=
 ⟨e ▸ h.blk.set j _, h.own.kept (gb_set (g := g) j _) (.inr (h.own.ne_blk h.blk (by decide))), hU, bl_grown h.bel (gb_set j _) h.hg, h.hg⟩
theorem gb_row {w : World} {g : Nat} (new : Array Value) : w.grownBy (w.setRow g new) (some g) :=
 ⟨rfl, rfl, rfl, by simp [World.setRow], fun k _ hne => by
  have : ¬ g = k := fun e => hne (by subst e; rfl)
  simp [World.setRow, Array.getElem?_modify, this]⟩
theorem RSt.row {w wr : World} {g n : Nat} {v : Value} {xs : List Value} {s t : Four} (h : RSt w wr g v n xs s) (hU : t.U) : RSt w (wr.setRow g t.cells) g v n xs t :=
 ⟨h.blk.setRow _, h.own.kept (gb_row (g := g) _) (.inr (h.own.ne_blk h.blk (by decide))), hU, bl_grown h.bel (gb_row _) h.hg, h.hg⟩
theorem RSt.facts {w wr : World} {g n : Nat} {v : Value} {xs : List Value} {s : Four} (h : RSt w wr g v n xs s) : (wr.cell? ⟨g, 0, none⟩ = some (.int .u64 s.a) ∧ wr.cell? ⟨g, 1, none⟩ = some (.int .u64 s.b) ∧ wr.cell? ⟨g, 2, none⟩ = some (.int .u64 s.c) ∧ wr.cell? ⟨g, 3, none⟩ = some (.int .u64 s.d)) ∧
  wr.frozen? ⟨g, 0, none⟩ = false ∧ wr.frozen? ⟨g, 1, none⟩ = false ∧ wr.frozen? ⟨g, 2, none⟩ = false ∧ wr.frozen? ⟨g, 3, none⟩ = false :=
 ⟨⟨h.blk.cell 0, h.blk.cell 1, h.blk.cell 2, h.blk.cell 3⟩, h.blk.frozen 0, h.blk.frozen 1, h.blk.frozen 2, h.blk.frozen 3⟩
set_option maxRecDepth 100000 in
set_option maxHeartbeats 4000000 in
theorem sip_calls (key : List UInt8) (hkey : key.length = 16) (A : Option Addr) (c n : Nat) (b : List UInt8) (w : World) (hn : b.length = n) (hr : Rd w A (byts b)) (hl : n ≤ 100000000) :
  Calls Tryz.prog 56 #[.agg (byts key).toArray, .slice A n c] w fun e w' => e = .returned (.int .u64 (sipSum key b)) ∧ Below w.heap.size w w' := by
 have hb1 : ∀ (W : World) (x : Int), (Instr.buildSlice 51 1 #[(0, .int .u8 x)]).run Tryz.prog W = .ok (.slice (some ⟨W.heap.size, 0, none⟩) 1 1) (W.alloc (.cells #[.int .u8 x] 5)) := fun _ _ => by kernel_rfl
 obtain ⟨k0, k1, k2, k3, k4, k5, k6, k7, k8, k9, k10, k11, k12, k13, k14, k15, rfl⟩ : ∃ k0 k1 k2 k3 k4 k5 k6 k7 k8 k9 k10 k11 k12 k13 k14 k15, key = [k0, k1, k2, k3, k4, k5, k6, k7, k8, k9, k10, k11, k12, k13, k14, k15] := by
  match key, hkey with
  | [k0, k1, k2, k3, k4, k5, k6, k7, k8, k9, k10, k11, k12, k13, k14, k15], _ => exact ⟨k0, k1, k2, k3, k4, k5, k6, k7, k8, k9, k10, k11, k12, k13, k14, k15, rfl⟩
 have HR := Lib.hid hr
 have HN := Lib.hid hn
 clear hr hn
 simp only [byts, List.map_cons, List.map_nil]
 go_enter Tryz.func56, Tryz.ntmps56
 go_wp2_with fail
 have hB := bl_alloc (bl_refl w) (.cells (byts [k0, k1, k2, k3, k4, k5, k6, k7, k8, k9, k10, k11, k12, k13, k14, k15]).toArray 54)
 have hk := Blk.new w (byts [k0, k1, k2, k3, k4, k5, k6, k7, k8, k9, k10, k11, k12, k13, k14, k15]).toArray 54
 have hr1 : Rd (w.alloc (.cells (byts [k0, k1, k2, k3, k4, k5, k6, k7, k8, k9, k10, k11, k12, k13, k14, k15]).toArray 54)) (some ⟨w.heap.size, 0, none⟩) (byts [k0, k1, k2, k3, k4, k5, k6, k7]) := by
  have := hk.rd.take 8
  simpa [byts] using this
 have hr2 : Rd (w.alloc (.cells (byts [k0, k1, k2, k3, k4, k5, k6, k7, k8, k9, k10, k11, k12, k13, k14, k15]).toArray 54)) (some ⟨w.heap.size, 8, none⟩) (byts [k8, k9, k10, k11, k12, k13, k14, k15]) := by
  have := hk.rd_at 8
  simpa [byts] using this
 clear hk
 have HE : Hid (sipSum [k0, k1, k2, k3, k4, k5, k6, k7, k8, k9, k10, k11, k12, k13, k14, k15] b = refOf (st0 (lowI [k0, k1, k2, k3, k4, k5, k6, k7]) (lowI [k8, k9, k10, k11, k12, k13, k14, k15])) (padded b)) := by
  show sipSum [k0, k1, k2, k3, k4, k5, k6, k7, k8, k9, k10, k11, k12, k13, k14, k15] b = _
  rw [ref_eq _ b (by rw [HN.out]; omega)]
  rfl
 change Code.wp _ _ _ _ (w.alloc (.cells (byts [k0, k1, k2, k3, k4, k5, k6, k7, k8, k9, k10, k11, k12, k13, k14, k15]).toArray 54))
 generalize (w.alloc (.cells (byts [k0, k1, k2, k3, k4, k5, k6, k7, k8, k9, k10, k11, k12, k13, k14, k15]).toArray 54)) = w1 at hB hr1 hr2 ⊢
 refine wp_region_still_lit (by kernel_rfl) (by kernel_rfl) ?_
 repeat still_step
 still_call (number_at _ _ 8 [k0, k1, k2, k3, k4, k5, k6, k7] _ hr1 rfl rfl)
 repeat still_step
 still_call (number_at _ _ 8 [k8, k9, k10, k11, k12, k13, k14, k15] _ hr2 rfl rfl)
 repeat still_step
 refine wpStill_nil ?_
 clear hr1 hr2
 change Exit.then _ _ _ _ (World.drew _)
 replace hB := hB.drew
 generalize World.drew _ = w2 at hB ⊢
 generalize lowI [k0, k1, k2, k3, k4, k5, k6, k7] = K0 at HE ⊢
 generalize lowI [k8, k9, k10, k11, k12, k13, k14, k15] = K1 at HE ⊢
 have hst := Blk.new w2 (st0 K0 K1).cells 182
 have hBa := bl_alloc hB (.cells (st0 K0 K1).cells 182)
 have hsz := hB.size
 have hU : (st0 K0 K1).U := st0_U K0 K1
 go_wp2_with (at_builtin; refine append_any (w0 := w) rfl _ _ 51 5 _ 1 1 rfl Tryz.underlying51 info_u8 rfl (by decide) _ 0 [] A n c (byts b) (Own.nil _ _ _ _) hBa (HR.out.below hBa) rfl rfl (by rw [byts_length, HN.out, Nat.mul_one]) (byts_one b) (by omega) (by omega) ?_; intro v1 w3 HO1 HB1 HG1)
 have hb3 := hst.grown HG1 (by simp [Value.ownBlock])
 rw [Nat.zero_add, List.nil_append] at HO1
 clear hst hBa HG1 hB
 generalize hG : w2.heap.size = g at hsz hb3 ⊢
 clear hG
 generalize st0 K0 K1 = s0 at HE hb3 hU ⊢
 have hpad : Hid (padN n ≤ 7 ∧ (n + padN n) % 8 = 7) := by show padN n ≤ 7 ∧ (n + padN n) % 8 = 7; unfold padN; omega
 go_loopw [8] (fun p wr => ∃ j : Nat, j ≤ padN n ∧ Own w wr 5 1 p (n + j) (byts (b ++ List.replicate j 0)) ∧ Blk wr g s0.cells 182 ∧ Below w.heap.size w wr) (fun p _ => n + padN n - lenOfV p)
 case atStart => exact ⟨0, by omega, by simpa using HO1, hb3, HB1⟩
 case round =>
  clear HO1 hb3 HB1
  obtain ⟨j, hj, HO, hb, HB⟩ := hrel
  obtain ⟨P, pc, rfl, hP, hpc, _⟩ := HO.read
  obtain ⟨hp7, hp8⟩ := hpad.out
  have hj7 : j ≤ 7 := by omega
  by_cases hlt : j < padN n
  ·have hmod : Hid (((n + j) % 8 ≠ 7)) := by
    show (n + j) % 8 ≠ 7
    unfold padN at hlt hp8
    omega
   have hne : ((((n + j : Nat) : Int) % 8) != 7) = true := by
    have := hmod.out
    simp only [bne_iff_ne, ne_eq]
    omega
   clear hp8 hP
   have hln := byts_length (b ++ List.replicate j 0)
   go_wp2_with (at_builtin; refine append_one (w0 := w) rfl _ _ 51 5 _ 1 rfl Tryz.underlying51 info_u8 rfl _ _ _ _ HO HB rfl rfl rfl (by omega) (by omega) ?_; intro v1 w3 HO1 HB1 HG1)
   have hb1 := hb.grown HG1 (HO.ne_blk hb (by decide))
   go_roundw
   case rel => exact ⟨j + 1, by omega, by rw [rep_snoc, byts_snoc]; exact HO1, hb1, HB1⟩
   case measure => 
    obtain ⟨P1, pc1, rfl, _⟩ := HO1.read
    simp [lenOfV]; omega
  ·obtain rfl : j = padN n := by omega
   have hne : ((((n + padN n : Nat) : Int) % 8) != 7) = false := by
    simp only [bne_eq_false_iff_eq]; omega
   clear hp8 hP
   go_wp2_with (at_builtin; refine append_one (w0 := w) rfl _ _ 51 5 _ 1 rfl Tryz.underlying51 info_u8 rfl _ _ _ _ HO HB rfl rfl rfl (by omega) (by omega) ?_; intro v1 w3 HO1 HB1 HG1)
   have hb1 := hb.grown HG1 (HO.ne_blk hb (by decide))
   have hpd : byts (b ++ List.replicate (padN n) 0) ++ [.int .u8 (IntKind.u8.wrap (n : Int))] = byts (padded b) := by
    unfold padded
    rw [HN.out, byts_snoc]
    congr 3
   obtain ⟨P1, pc1, rfl, hP1, hpc1, _⟩ := HO1.read
   have hS : RSt w w3 g (.slice P1 (n + padN n + 1) pc1) (n + padN n + 1) (byts (padded b)) s0 := ⟨hb1, by rw [← hpd]; exact HO1, hU, HB1, hsz⟩
   clear HO HO1 hP1 hb hb1 hpd HB HG1 HB1 hU hne
   have hL := padded_length b
   have hn8 : n + padN n + 1 = (padded b).length := by rw [hL, HN.out]; unfold padN; omega
   clear hpad hp7 hj7 hlt hj
   obtain ⟨m, hm⟩ : ∃ m, n / 8 + 1 = m := ⟨_, rfl⟩
   rw [HN.out, hm] at hL
   rw [hn8, hL] at hpc1 hS ⊢
   generalize padded b = p at *
   have hm2 : m ≤ 20000000 := by omega
   clear hn8 hm HR HN hl
   go_loopw [9, 10] (fun i y wr => ∃ j : Nat, j ≤ m ∧ i = .int .i64 ((8 * j : Nat) : Int) ∧ RSt w wr g (.slice P1 (8 * m) pc1) (8 * m) (byts p) (blocks s0 p j)) (fun i _ _ => (8 * m) - (intOf i).toNat)
   case atStart => exact ⟨0, Nat.zero_le _, rfl, hS⟩
   case round =>
    clear hS
    obtain ⟨j, hj, rfl, hS⟩ := hrel
    by_cases hlt : j < m
    ·obtain ⟨_, _, e, hP, _⟩ := hS.own.read
     injection e with e1 e2 e3
     subst e1 e3
     cases P1 with
     | none => 
      obtain ⟨_, e, _⟩ := hP 0 _ (byts_get p 0 (by omega))
      cases e
     | some ad =>
     have hlo := Lib.hid (show Rd _ (some (ad.add (8 * j))) (byts ((p.drop (8 * j)).take 8)) by rw [byts_take, byts_drop]; exact (hP.drop (8 * j)).take 8)
     have hln : ((p.drop (8 * j)).take 8).length = 8 := by simp; omega
     have hi0 : (0 : Int) ≤ ((8 * j : Nat) : Int) := by omega
     have hi1 : ((8 * j : Nat) : Int) + 8 ≤ pc1 := by omega
     go_wp2_with fail
     refine (number_at _ _ _ _ _ hlo.out hln rfl).mono ?_
     rintro e w4 ⟨rfl, rfl⟩
     clear hlo hln
     have hb8 : blocks s0 p (j + 1) = (blocks s0 p j).take (lowI ((p.drop (8 * j)).take 8)) := rfl
     generalize lowI ((p.drop (8 * j)).take 8) = x at hb8
     generalize blocks s0 p j = s at hb8 hS
     have HB8 := Lib.hid hb8
     clear hb8
     obtain ⟨⟨c0, c1, c2, c3⟩, f0, f1, f2, f3⟩ := hS.facts
     have hS1 := hS.cell (t := s.pre x) 3 (xor64 s.d x) rfl ⟨hS.hU.1, hS.hU.2.1, hS.hU.2.2.1, isU_xor _ _⟩
     clear HE
     go_wp2_with (fail)
     clear c0 c1 c2 c3 f0 f1 f2 f3
     refine (refround_at (s.pre x) hS1.hU _).mono ?_
     rintro e w5 ⟨rfl, h5⟩
     have hS2 := hS1.after h5
     clear h5 hS1 hS
     go_wp2_with fail
     refine (refround_at _ (Four.rnd_U _) _).mono ?_
     rintro e w6 ⟨rfl, h5⟩
     have hS3 := hS2.after h5
     clear h5 hS2
     have ht : s.take x = (s.pre x).rnd.rnd.put x := rfl
     have htU := Four.rnd_U (s.pre x).rnd
     generalize (s.pre x).rnd.rnd = t at ht htU ⊢
     have hS4 := hS3.row htU
     obtain ⟨⟨c0, c1, c2, c3⟩, f0, f1, f2, f3⟩ := hS4.facts
     have hS5 := hS4.cell (t := s.take x) 0 (xor64 t.a x) (by rw [ht]; rfl) (by rw [ht]; exact ⟨isU_xor _ _, htU.2⟩)
     clear hS4 ht
     go_wp2_with (refine wpList_store_row rfl 182 _ _ rfl g _ rfl rfl 182 _ hS3.blk (by kernel_rfl) (by kernel_rfl) (by kernel_rfl) ?_)
     go_roundw
     case rel => exact ⟨j + 1, by omega, by go_num, by rw [HB8.out]; exact hS5⟩
     case measure => simp [intOf]; omega
    ·obtain rfl : j = m := by omega
     clear hlt hj
     have HE1 : Hid (sipSum [k0, k1, k2, k3, k4, k5, k6, k7, k8, k9, k10, k11, k12, k13, k14, k15] b = (Four.rnds 4 (blocks s0 p j).fin).out) := by
      show sipSum [k0, k1, k2, k3, k4, k5, k6, k7, k8, k9, k10, k11, k12, k13, k14, k15] b = _
      rw [HE.out]
      unfold refOf
      rw [hL, Nat.mul_div_cancel_left _ (by omega)]
     clear HE
     generalize blocks s0 p j = s at HE1 hS
     obtain ⟨⟨c0, c1, c2, c3⟩, f0, f1, f2, f3⟩ := hS.facts
     have hS1 := hS.cell (t := s.fin) 2 (xor64 s.c 255) rfl ⟨hS.hU.1, hS.hU.2.1, isU_xor _ _, hS.hU.2.2.2⟩
     go_wp2_with (fail)
     clear c0 c1 c2 c3 f0 f1 f2 f3
     refine (refround_at s.fin hS1.hU _).mono ?_
     rintro e w5 ⟨rfl, h5⟩
     replace hS1 := hS1.after h5
     clear h5 hS
     go_wp2_with fail
     refine (refround_at _ (Four.rnd_U _) _).mono ?_
     rintro e w6 ⟨rfl, h5⟩
     replace hS1 := hS1.after h5
     clear h5
     go_wp2_with fail
     refine (refround_at _ (Four.rnd_U _) _).mono ?_
     rintro e w7 ⟨rfl, h5⟩
     replace hS1 := hS1.after h5
     clear h5
     go_wp2_with fail
     refine (refround_at _ (Four.rnd_U _) _).mono ?_
     rintro e w8 ⟨rfl, h5⟩
     have hS3 := hS1.after h5
     clear h5 hS1
     have HE2 : Hid (sipSum [k0, k1, k2, k3, k4, k5, k6, k7, k8, k9, k10, k11, k12, k13, k14, k15] b = s.fin.rnd.rnd.rnd.rnd.out) := HE1
     have htU := Four.rnd_U s.fin.rnd.rnd.rnd
     clear HE1
     generalize s.fin.rnd.rnd.rnd.rnd = t at htU HE2 ⊢
     have hS4 := hS3.row htU
     obtain ⟨⟨c0, c1, c2, c3⟩, f0, f1, f2, f3⟩ := hS4.facts
     go_wp2_with (refine wpList_store_row rfl 182 _ _ rfl g _ rfl rfl 182 _ hS3.blk (by kernel_rfl) (by kernel_rfl) (by kernel_rfl) ?_)
     go_ret
     exact ⟨by rw [HE2.out]; rfl, hS4.bel⟩
end Go.Proofs.YtapbkomicihkkaaGreatDoor
