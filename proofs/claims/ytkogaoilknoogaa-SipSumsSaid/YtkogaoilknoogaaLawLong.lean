/- SipLong: the walk. -/
import Derived.Test.YtkogaoilknoogaaRefSip
import Derived.Test.YtkogaoilknoogaaSip6
import Derived.Test.YtkogaoilknoogaaBytes3
import Derived.Test.YtkogaoilknoogaaFill
import Derived.Test.YtkogaoilknoogaaKeep
import Derived.Laws.CopyOwn
namespace Go.Proofs.Ytkogaoilknoogaa
open Go.RowKit

/-- The key that is made of bytes: the first sixteen, then zeros. -/
def keyOf (k : List UInt8) : List UInt8 := k.take 16 ++ List.replicate (16 - min 16 k.length) 0
theorem keyOf_length (k : List UInt8) : (keyOf k).length = 16 := by simp [keyOf]; omega
def zeros16 : List Value := [.int .u8 0, .int .u8 0, .int .u8 0, .int .u8 0, .int .u8 0, .int .u8 0, .int .u8 0, .int .u8 0, .int .u8 0, .int .u8 0, .int .u8 0, .int .u8 0, .int .u8 0, .int .u8 0, .int .u8 0, .int .u8 0]
theorem key_splice (k : List UInt8) : splice zeros16 0 (byts (k.take 16)) = byts (keyOf k) := by
  have hz : zeros16 = List.replicate 16 (.int .u8 0) := rfl
  rw [hz]
  unfold splice keyOf
  rw [byts_length, List.take_zero, List.nil_append, List.drop_replicate, List.length_take, Nat.zero_add]
  simp [byts]
theorem Blk.range {w : World} {g : Nat} {xs : List Value} {t : TypeId} (h : Blk w g xs.toArray t) : w.rangeAt g 0 xs := fun j v hv => by
  rw [Nat.zero_add, h.cell]; simpa using hv
theorem range_below {w w1 : World} {g : Nat} {xs : List Value} (h : w.rangeAt g 0 xs) (hb : Below w.heap.size w w1) : w1.rangeAt g 0 xs := fun j v hv => cell_below hb (h j v hv)
theorem make_u8 (m : Nat) (hm : m ≤ 1000000) (f : Nat → Value) (W : World) : (Instr.makeSlice 22 (.int .i64 (m : Int)) (.int .i64 (m : Int))).run Try.prog W = .ok (.slice (some ⟨W.heap.size, 0, none⟩) m m) (W.alloc (.cells (filled m 0 f (.int .u8 0)) 5)) := by
  obtain ⟨i0, hi, hzz⟩ := Option.map_eq_some_iff.1 info_u8
  simp only [Prod.mk.injEq] at hzz
  obtain ⟨hz0, hz1, hz2⟩ := hzz
  have h := run_makeSlice (P := Try.prog) (w := W) 22 5 i0 (.int .u8 0) Try.underlying22 hi hz0 .i64 .i64 (m : Int) (m : Int) (by omega) (Int.le_refl _) (by rw [hz1]; omega) (by rw [hz2]; omega) (by omega)
  rw [h]
  congr 3
  rw [filled_zero, hz1]
  simp only [Int.toNat_natCast, Nat.mul_one]
  apply Array.ext
  · simp [madeCells]
  · intro j h1 h2
    simp [madeCells, Value.cells, Nat.mod_one]
/-- The bytes that the law sums. -/
def longB (m : Nat) (s : Nat) : List UInt8 := (List.range m).map fun j => UInt8.ofNat (j * s)
def longV (s : Nat) (j : Nat) : Value := .int .u8 (((j : Int) * (s : Int)) % 256)
theorem byts_longB (m s : Nat) : byts (longB m s) = (List.range m).map (longV s) := by
  unfold byts longB
  rw [List.map_map]
  apply List.map_congr_left
  intro j _
  simp only [Function.comp, longV]
  simp

theorem stopAt {p : Prop} (h : Hid p) : p := h.out
set_option maxRecDepth 100000 in
set_option maxHeartbeats 1000000 in
theorem long_calls (A : Option Addr) (c l : Nat) (k : List UInt8) (n step : Int) (w : World) (hl : k.length = l) (hr : Rd w A (byts k)) (hn : -9223372036854775808 ≤ n ∧ n ≤ 9223372036854775807) (hs : -9223372036854775808 ≤ step ∧ step ≤ 9223372036854775807) :
    Calls Try.prog 3 #[.slice A l c, .int .i64 n, .int .i64 step] w fun e w' => e = .returned (.bool true) ∧ Below w.heap.size w w' := by
  have HR := Lib.hid hr
  have HL := Lib.hid hl
  clear hr hl
  go_enter Try.func3, Try.ntmps3
  obtain ⟨X, hX⟩ : ∃ X, byts (k.take 16) = X := ⟨_, rfl⟩
  have HX := Lib.hid hX
  clear hX
  go_wp2_with (refine wpList_copy_splice (o := ⟨some 12, _, _, _, _, _⟩) rfl (.tmp 10) (.tmp 11) 22 22 rfl 5 Try.underlying22 (by kernel_rfl) _ A _ _ l c rfl rfl w.heap.size 0 zeros16 24 (Blk.new w zeros16.toArray 24) X ?c1 ?c2 ?c3 ?c4 w.heap.size w (bl_alloc (bl_refl w) _) (Nat.le_refl _) ?c5)
  case c1 => rw [← HX.out, byts_length, List.length_take, HL.out]; exact Nat.min_comm _ _
  case c2 =>
    intro hp
    have hrd : Rd (w.alloc (.cells zeros16.toArray 24)) A X := by
      rw [← HX.out, byts_take]
      exact (HR.out.below (bl_alloc (bl_refl w) _)).take 16
    obtain ⟨y, hy⟩ : ∃ y, X[0]? = some y := ⟨X[0], by simp [hp]⟩
    obtain ⟨ad, e, _⟩ := hrd 0 y hy
    refine ⟨ad, e, ?_⟩
    intro j v hv
    obtain ⟨ad', e', hc⟩ := hrd j v hv
    rw [e] at e'; cases e'
    exact hc
  case c3 => rw [← HX.out, byts_length, List.length_take]; simp only [zeros16, Nat.zero_add, List.length_cons, List.length_nil]; exact Nat.min_le_left _ _
  case c4 => rw [← HX.out]; exact byts_one _
  intro w2 HG hB
  have hK : Blk w2 w.heap.size (byts (keyOf k)).toArray 24 := by
    have := HG.out
    rw [← HX.out, key_splice] at this
    exact this
  clear HG HX HR HL
  have hkl := keyOf_length k
  generalize keyOf k = key at hkl hK
  go_wp2_with fail
  refine (within_calls n 300 w2 hn (by omega)).mono ?_
  rintro e w2 ⟨rfl, rfl⟩
  have hk0 := Int.emod_nonneg n (show (300 : Int) ≠ 0 by omega)
  have hk1 := Int.emod_lt_of_pos n (show (0 : Int) < 300 by omega)
  generalize n % 300 = m at hk0 hk1 ⊢
  obtain ⟨m, rfl⟩ := Int.eq_ofNat_of_zero_le hk0
  have hm : m < 300 := by omega
  have hWs := Lib.hid (within_calls step 256)
  have hs0 := Int.emod_nonneg step (show (256 : Int) ≠ 0 by omega)
  have hs1 := Int.emod_lt_of_pos step (show (0 : Int) < 256 by omega)
  obtain ⟨s, hse⟩ := Int.eq_ofNat_of_zero_le hs0
  have hs2 : s < 256 := by omega
  have hmk := make_u8 m (by omega) (longV s)
  clear hk0 hk1 hn hs0 hs1
  go_wp2_with fail
  clear hmk
  have hK1 := hK.below ((bl_refl w2).alloc (Nat.le_refl _) (.cells (filled m 0 (longV s) (.int .u8 0)) 5))
  have hb := Blk.new w2 (filled m 0 (longV s) (.int .u8 0)) 5
  have hB1 := bl_alloc hB (.cells (filled m 0 (longV s) (.int .u8 0)) 5)
  have hsz := hB.size
  have hne : w2.heap.size ≠ w.heap.size := by have := hK.lt; omega
  clear hK hB
  change Code.wp _ _ _ _ (w2.alloc (.cells (filled m 0 (longV s) (.int .u8 0)) 5))
  generalize w2.alloc (.cells (filled m 0 (longV s) (.int .u8 0)) 5) = w3 at hK1 hb hB1 ⊢
  generalize w2.heap.size = g at hb hsz hne ⊢
  go_loopw [19] (fun i wr => ∃ j : Nat, j ≤ m ∧ i = .int .i64 j ∧ Blk wr g (filled m j (longV s) (.int .u8 0)) 5 ∧ Blk wr w.heap.size (byts key).toArray 24 ∧ Below w.heap.size w wr) (fun i _ => m - (intOf i).toNat)
  case atStart => exact ⟨0, by omega, rfl, hb, hK1, hB1⟩
  case round =>
    clear hb hK1 hB1
    obtain ⟨j, hj, rfl, hb, hK, hB⟩ := hrel
    by_cases hlt : j < m
    · have hc := (hb.cell j).trans (filled_get m j _ _ j hlt)
      have hf := hb.frozen j
      rw [if_neg (Nat.lt_irrefl _)] at hc
      have hjs0 : (0 : Int) ≤ (j : Int) * (s : Int) := by rw [← Int.natCast_mul]; omega
      have hjs1 : (j : Int) * (s : Int) ≤ 76800 := by
        rw [← Int.natCast_mul]
        have := Nat.mul_le_mul (show j ≤ 300 by omega) (show s ≤ 256 by omega)
        omega
      obtain ⟨q, hq⟩ : ∃ q, (j : Int) * (s : Int) = q := ⟨_, rfl⟩
      rw [hq] at hjs0 hjs1
      go_wp2_with (go_at_call 8; refine (hWs.out _ hs (by omega)).mono ?_; rw [hse]; rintro e w' ⟨rfl, rfl⟩; simp only [hq])
      go_roundw
      case rel => exact ⟨j + 1, by omega, by go_num, by rw [← filled_set]; simp only [longV, hq]; exact hb.set j _, hK.far _ (by simpa using Ne.symm hne) _, hB.setCell hsz _⟩
      case measure => simp [intOf]; omega
    · obtain rfl : j = m := by omega
      rw [filled_all, ← byts_longB] at hb
      have hRd := hb.rd
      clear hlt hj hWs hse hs
      simp only [List.toList_toArray] at hRd
      have hbl : (longB j s).length = j := by simp [longB]
      generalize longB j s = b at hbl hRd
      have HRd := Lib.hid hRd
      have HBl := Lib.hid hbl
      clear hb hRd hbl
      have hra : wr.rangeAt w.heap.size 0 (byts key) := hK.range
      clear hK
      have hu := Try.underlying24
      have hi : (Try.prog.info? 24).map (·.size) = some (byts key).length := by rw [byts_length, hkl]; kernel_rfl
      have HKl := Lib.hid hkl
      clear hkl
      go_wp2_with fail
      refine wp_region_held_drew (S := fun w' => w'.rangeAt w.heap.size 0 (byts key)) (by kernel_rfl) hra (fun hHeld => ?_)
      have hB0 := hB.drew
      have HRd0 : Hid (Rd wr.drew _ _) := HRd
      clear hra HRd hB
      generalize wr.drew = w4 at hHeld hB0 HRd0 ⊢
      refine wpAnyH_take (i := 0) (oi := ⟨some 31, .load 24 (.tmp 7), _, _, _, _⟩) (v := .agg (List.toArray (byts key))) rfl (by kernel_rfl) (by kernel_rfl) (by kernel_rfl) (fun _ _ _ h => h) (yieldsIf_load_mid (by rfl) _ _ rfl _ _ rfl (byts key) _ (fun w h => h) hu rfl hi) (by assumption) ?_
      simp only [Act.put, List.setIfInBounds_toArray, List.set_cons_zero, List.set_cons_succ]
      refine wpAnyH_take (i := 3) (oi := ⟨some 34, .load 24 (.tmp 7), _, _, _, _⟩) (v := .agg (List.toArray (byts key))) rfl (by kernel_rfl) (by kernel_rfl) (by kernel_rfl) (fun _ _ _ h => h) (yieldsIf_load_mid (by rfl) _ _ rfl _ _ rfl (byts key) _ (fun w h => h) hu rfl hi) (by assumption) ?_
      simp only [Act.put, List.setIfInBounds_toArray, List.set_cons_zero, List.set_cons_succ]
      refine wpAnyH_take (i := 1) (oi := ⟨some 32, .move (.tmp 8), _, _, _, _⟩) (v := .slice (some ⟨g, 0, none⟩) j j) rfl (by kernel_rfl) (by kernel_rfl) (by kernel_rfl) (fun _ _ _ h => h) (Or.inl ⟨by rfl, ?_⟩) (by assumption) ?_
      · intro w hSw; go_simp; try with_reducible rfl
      simp only [Act.put, List.setIfInBounds_toArray, List.set_cons_zero, List.set_cons_succ]
      refine wpAnyH_take (i := 4) (oi := ⟨some 35, .move (.tmp 8), _, _, _, _⟩) (v := .slice (some ⟨g, 0, none⟩) j j) rfl (by kernel_rfl) (by kernel_rfl) (by kernel_rfl) (fun _ _ _ h => h) (Or.inl ⟨by rfl, ?_⟩) (by assumption) ?_
      · intro w hSw; go_simp; try with_reducible rfl
      simp only [Act.put, List.setIfInBounds_toArray, List.set_cons_zero, List.set_cons_succ]
      refine wpAnyH_ready (rs := [2]) (by kernel_rfl) (by simp) ?_
      refine AllReadyH.cons (o := ⟨some 33, .call _, _, _, _, _⟩) rfl (fun K hK => ?_) AllReadyH.nil
      go_simp
      refine (sum_at key HKl.out _ j j b _ HBl.out HRd0.out (by omega) (by omega)).mono ?_
      rintro e w5 ⟨rfl, hb⟩
      go_wp2_with fail
      refine hK.out _ _ ?_ (fun hHeld => ?_)
      · exact range_below hHeld hb
      clear hK K
      try simp only [Act.put, List.setIfInBounds_toArray, List.set_cons_zero, List.set_cons_succ]
      have hB1 := bl_step hb hB0
      have HRd1 := Lib.hid (HRd0.out.below hb)
      clear hb hB0 HRd0
      refine wpAnyH_ready (rs := [5]) (by kernel_rfl) (by simp) ?_
      refine AllReadyH.cons (o := ⟨some 36, .call _, _, _, _, _⟩) rfl (fun K hK => ?_) AllReadyH.nil
      go_simp
      refine (sip_calls key HKl.out _ j j b _ HBl.out HRd1.out (by omega)).mono ?_
      rintro e w6 ⟨rfl, hb⟩
      go_wp2_with fail
      refine hK.out _ _ ?_ (fun hHeld => ?_)
      · exact range_below hHeld hb
      clear hK K
      try simp only [Act.put, List.setIfInBounds_toArray, List.set_cons_zero, List.set_cons_succ]
      have hB2 := bl_step hb hB1
      clear hb hB1 HRd1
      refine wpAnyH_take (i := 6) (oi := ⟨some 37, .binOp .eql 26 (.tmp 33) (.tmp 36) 26, _, _, _, _⟩) (v := .bool true) rfl (by kernel_rfl) (by kernel_rfl) (by kernel_rfl) (fun _ _ _ h => h) (Or.inl ⟨by rfl, ?_⟩) (by assumption) ?_
      · intro w hSw; go_simp; try with_reducible rfl
      simp only [Act.put, List.setIfInBounds_toArray, List.set_cons_zero, List.set_cons_succ]
      refine wpAnyH_take (i := 7) (oi := ⟨some 38, .move (.tmp 37), _, _, _, _⟩) (v := .bool true) rfl (by kernel_rfl) (by kernel_rfl) (by kernel_rfl) (fun _ _ _ h => h) (Or.inl ⟨by rfl, ?_⟩) (by assumption) ?_
      · intro w hSw; go_simp; try with_reducible rfl
      simp only [Act.put, List.setIfInBounds_toArray, List.set_cons_zero, List.set_cons_succ]
      refine wpAnyH_ready (rs := [8]) (by kernel_rfl) (by simp) ?_
      refine AllReadyH.cons (o := ⟨some 39, .call _, _, _, _, _⟩) rfl (fun K hK => ?_) AllReadyH.nil
      go_simp
      refine (wakes_calls _).mono ?_
      rintro e w7 ⟨rfl, hb⟩
      go_wp2_with fail
      refine hK.out _ _ ?_ (fun hHeld => ?_)
      · exact range_below hHeld hb
      clear hK K
      try simp only [Act.put, List.setIfInBounds_toArray, List.set_cons_zero, List.set_cons_succ]
      have hB3 := bl_step hb hB2
      refine wpAnyH_take (i := 9) (oi := ⟨some 40, .pick (.tmp 38) (.tmp 39) _, _, _, _, _⟩) (v := .bool true) rfl (by kernel_rfl) (by kernel_rfl) (by kernel_rfl) (fun _ _ _ h => h) (Or.inl ⟨by rfl, ?_⟩) (by assumption) ?_
      · intro w hSw; go_simp; try with_reducible rfl
      simp only [Act.put, List.setIfInBounds_toArray, List.set_cons_zero, List.set_cons_succ]
      refine wpAnyH_take (i := 10) (oi := ⟨some 6, .assign (.tmp 40), _, _, _, _⟩) (v := .bool true) rfl (by kernel_rfl) (by kernel_rfl) (by kernel_rfl) (fun _ _ _ h => h) (Or.inl ⟨by rfl, ?_⟩) (by assumption) ?_
      · intro w hSw; go_simp; try with_reducible rfl
      simp only [Act.put, List.setIfInBounds_toArray, List.set_cons_zero, List.set_cons_succ]
      refine wpAnyH_done (by kernel_rfl) ?_ _
      go_wp2_with fail
      go_ret
      exact ⟨rfl, hB3⟩
end Go.Proofs.Ytkogaoilknoogaa
