/- SipSums: the walk. -/
import Derived.Test.YtkogaoilknoogaaLawLong
import Derived.Test.YtkogaoilknoogaaLend
namespace Go.Proofs.Ytkogaoilknoogaa
open Go.RowKit

set_option maxRecDepth 100000 in
set_option maxHeartbeats 1000000 in
theorem sums_calls (A B : Option Addr) (c l d m : Nat) (k b : List UInt8) (n : Int) (w : World) (hl : k.length = l) (hr : Rd w A (byts k)) (hm : b.length = m) (hrb : Rd w B (byts b)) (hmd : m ≤ d) (hm1 : m ≤ 140737488351232) (hn : isU n) :
    Calls Try.prog 7 #[.slice A l c, .slice B m d, .int .u64 n] w fun e w' => e = .returned (.bool true) ∧ Below w.heap.size w w' := by
  have HR := Lib.hid hr
  have HL := Lib.hid hl
  have HRb := Lib.hid hrb
  have HM := Lib.hid hm
  clear hr hl hrb hm
  go_enter Try.func7, Try.ntmps7
  obtain ⟨X, hX⟩ : ∃ X, byts (k.take 16) = X := ⟨_, rfl⟩
  have HX := Lib.hid hX
  clear hX
  go_wp2_with (refine wpList_copy_splice (o := ⟨some 15, _, _, _, _, _⟩) rfl (.tmp 13) (.tmp 14) 22 22 rfl 5 Try.underlying22 (by kernel_rfl) _ A _ _ l c rfl rfl w.heap.size 0 zeros16 24 (Blk.new w zeros16.toArray 24) X ?c1 ?c2 ?c3 ?c4 w.heap.size w (bl_alloc (bl_refl w) _) (Nat.le_refl _) ?c5)
  case c1 => rw [← HX.out, byts_length, List.length_take, HL.out]; exact Nat.min_comm _ _
  case c2 =>
    intro hp
    have hrd : Rd (w.alloc (.cells zeros16.toArray 24)) A X := by
      rw [← HX.out, byts_take]
      exact (HR.out.below (bl_alloc (bl_refl w) _)).take 16
    obtain ⟨y, hy⟩ : ∃ y, X[0]? = some y := ⟨X[0], by simp [hp]⟩
    obtain ⟨ad, e, _⟩ := hrd 0 y hy
    refine ⟨ad, e, ?_⟩
    intro j v hv
    obtain ⟨ad', e', hc⟩ := hrd j v hv
    rw [e] at e'; cases e'
    exact hc
  case c3 => rw [← HX.out, byts_length, List.length_take]; simp only [zeros16, Nat.zero_add, List.length_cons, List.length_nil]; exact Nat.min_le_left _ _
  case c4 => rw [← HX.out]; exact byts_one _
  intro w2 HG hB
  have hK : Blk w2 w.heap.size (byts (keyOf k)).toArray 24 := by
    have := HG.out
    rw [← HX.out, key_splice] at this
    exact this
  clear HG HX HR HL
  have hkl := keyOf_length k
  generalize keyOf k = key at hkl hK
  go_wp2_with fail
  refine (cut_calls B m d b HM.out hmd 80 (by omega) _ (HRb.out.below hB) hm1).mono ?_
  rintro e w3 ⟨v, rfl, HO, hb3⟩
  obtain ⟨C, cc, rfl, hC, hcc, _⟩ := HO.read
  have hB3 := bl_step hb3 hB
  have hK3 := hK.below hb3
  have hbl : (b.take 80).length = min m 80 := by rw [List.length_take, HM.out]; exact Nat.min_comm _ _
  have hn1 : min m 80 ≤ 80 := Nat.min_le_right _ _
  clear HO hB hK hb3 HRb HM
  generalize b.take 80 = q at hbl hC
  generalize min m 80 = p at hbl hn1 hcc ⊢
  have HQ := Lib.hid hbl
  clear hbl
  go_wp2_with fail
  refine (lend_calls C p cc q HQ.out (by omega) _ hC).mono ?_
  rintro e w4 ⟨g, rfl, hg, hb, hb4⟩
  have hB4 := bl_step hb4 hB3
  have hK4 := hK3.below hb4
  have hC4 := hC.below hb4
  clear hC hB3 hK3 hb4 hg
  go_wp2_with fail
  refine (bytes_calls n hn w4).mono ?_
  rintro e w5 ⟨v, rfl, HO, hb5⟩
  obtain ⟨D, dc, rfl, hD, _, _⟩ := HO.read
  have hB5 := bl_step hb5 hB4
  have hK5 := hK4.below hb5
  have hC5 := hC4.below hb5
  have hbk5 := hb.below hb5
  clear HO hB4 hK4 hC4 hb hb5
  go_wp2_with fail
  refine (number_yes D dc (bytesI n) w5 (bytesI_length n) hD).mono ?_
  rw [low_bytesI n hn]
  rintro e w6 ⟨rfl, rfl⟩
  clear hD
  go_wp2_with fail
  refine (cut_calls C p cc q HQ.out hcc 7 (by omega) _ hC5 (by omega)).mono ?_
  rintro e w7 ⟨v, rfl, HO, hb7⟩
  obtain ⟨E, ec, rfl, hE, _, _⟩ := HO.read
  have hB7 := bl_step hb7 hB5
  have hK7 := hK5.below hb7
  have hC7 := hC5.below hb7
  have hbk7 := hbk5.below hb7
  clear HO hB5 hK5 hC5 hbk5 hb7 hE
  go_wp2_with fail
  refine (number_no E (min p 7) ec w7 (by omega)).mono ?_
  rintro e w8 ⟨rfl, rfl⟩
  go_wp2_with fail
  have hra : w8.rangeAt w.heap.size 0 (byts key) := hK7.range
  have hG7 : Rd w8 (some ⟨g, 0, none⟩) (byts q) := by
    have h1 := hbk7.rd.take p
    simp only [List.toList_toArray] at h1
    have h2 : (lentV q).take p = byts q := by
      unfold lentV
      rw [List.take_append_of_le_length (by rw [byts_length, HQ.out]; omega), List.take_of_length_le (by rw [byts_length, HQ.out]; omega)]
    rwa [h2] at h1
  clear hK7
  have hu := Try.underlying24
  have hi : (Try.prog.info? 24).map (·.size) = some (byts key).length := by rw [byts_length, hkl]; kernel_rfl
  have HKl := Lib.hid hkl
  clear hkl
  refine wp_region_held_drew (S := fun w' => w'.rangeAt w.heap.size 0 (byts key)) (by kernel_rfl) hra (fun hHeld => ?_)
  have hB0 := hB7.drew
  have hC0 : Rd w8.drew _ _ := hC7
  have hG0 : Rd w8.drew _ _ := hG7
  have hL0 := hbk7.drew
  clear hra hG7 hB7 hC7 hbk7
  generalize w8.drew = w0 at hHeld hB0 hC0 hG0 hL0 ⊢
  refine wpAnyH_take (i := 0) (oi := ⟨some 32, .load 24 (.tmp 7), _, _, _, _⟩) (v := .agg (List.toArray (byts key))) rfl (by kernel_rfl) (by kernel_rfl) (by kernel_rfl) (fun _ _ _ h => h) (yieldsIf_load_mid (by rfl) _ _ rfl _ _ rfl (byts key) _ (fun w h => h) hu rfl hi) (by assumption) ?_
  simp only [Act.put, List.setIfInBounds_toArray, List.set_cons_zero, List.set_cons_succ]
  refine wpAnyH_take (i := 3) (oi := ⟨some 35, .load 24 (.tmp 7), _, _, _, _⟩) (v := .agg (List.toArray (byts key))) rfl (by kernel_rfl) (by kernel_rfl) (by kernel_rfl) (fun _ _ _ h => h) (yieldsIf_load_mid (by rfl) _ _ rfl _ _ rfl (byts key) _ (fun w h => h) hu rfl hi) (by assumption) ?_
  simp only [Act.put, List.setIfInBounds_toArray, List.set_cons_zero, List.set_cons_succ]
  refine wpAnyH_take (i := 1) (oi := ⟨some 33, .move (.tmp 8), _, _, _, _⟩) (v := .slice (some ⟨g, 0, none⟩) p (p + 3)) rfl (by kernel_rfl) (by kernel_rfl) (by kernel_rfl) (fun _ _ _ h => h) (Or.inl ⟨by rfl, ?_⟩) (by assumption) ?_
  · intro w hSw; go_simp; try with_reducible rfl
  simp only [Act.put, List.setIfInBounds_toArray, List.set_cons_zero, List.set_cons_succ]
  refine wpAnyH_take (i := 4) (oi := ⟨some 36, .move (.tmp 1), _, _, _, _⟩) (v := .slice C p cc) rfl (by kernel_rfl) (by kernel_rfl) (by kernel_rfl) (fun _ _ _ h => h) (Or.inl ⟨by rfl, ?_⟩) (by assumption) ?_
  · intro w hSw; go_simp; try with_reducible rfl
  simp only [Act.put, List.setIfInBounds_toArray, List.set_cons_zero, List.set_cons_succ]
  refine wpAnyH_ready (rs := [2]) (by kernel_rfl) (by simp) ?_
  refine AllReadyH.cons (o := ⟨some 34, .call _, _, _, _, _⟩) rfl (fun K hK => ?_) AllReadyH.nil
  go_simp
  refine (sum_at key HKl.out _ (p + 3) p q _ HQ.out hG0 (by omega) (by omega)).mono ?_
  rintro e w9 ⟨rfl, hb⟩
  go_wp2_with fail
  refine hK.out _ _ ?_ (fun hHeld => ?_)
  · exact range_below hHeld hb
  clear hK K
  try simp only [Act.put, List.setIfInBounds_toArray, List.set_cons_zero, List.set_cons_succ]
  have hB1 := bl_step hb hB0
  have hC1 := hC0.below hb
  have hL1 := hL0.below hb
  clear hb hB0 hC0 hG0 hL0
  refine wpAnyH_ready (rs := [5]) (by kernel_rfl) (by simp) ?_
  refine AllReadyH.cons (o := ⟨some 37, .call _, _, _, _, _⟩) rfl (fun K hK => ?_) AllReadyH.nil
  go_simp
  refine (sip_calls key HKl.out C cc p q _ HQ.out hC1 (by omega)).mono ?_
  rintro e w10 ⟨rfl, hb⟩
  go_wp2_with fail
  refine hK.out _ _ ?_ (fun hHeld => ?_)
  · exact range_below hHeld hb
  clear hK K
  try simp only [Act.put, List.setIfInBounds_toArray, List.set_cons_zero, List.set_cons_succ]
  have hB2 := bl_step hb hB1
  have hC2 := hC1.below hb
  have hL2 := hL1.below hb
  clear hb hB1 hC1 hL1
  refine wpAnyH_take (i := 6) (oi := ⟨some 38, .binOp .eql 26 (.tmp 34) (.tmp 37) 26, _, _, _, _⟩) (v := .bool true) rfl (by kernel_rfl) (by kernel_rfl) (by kernel_rfl) (fun _ _ _ h => h) (Or.inl ⟨by rfl, ?_⟩) (by assumption) ?_
  · intro w hSw; go_simp; try with_reducible rfl
  simp only [Act.put, List.setIfInBounds_toArray, List.set_cons_zero, List.set_cons_succ]
  refine wpAnyH_take (i := 7) (oi := ⟨some 39, .move (.tmp 38), _, _, _, _⟩) (v := .bool true) rfl (by kernel_rfl) (by kernel_rfl) (by kernel_rfl) (fun _ _ _ h => h) (Or.inl ⟨by rfl, ?_⟩) (by assumption) ?_
  · intro w hSw; go_simp; try with_reducible rfl
  simp only [Act.put, List.setIfInBounds_toArray, List.set_cons_zero, List.set_cons_succ]
  refine wpAnyH_take (i := 8) (oi := ⟨some 40, .move (.tmp 8), _, _, _, _⟩) (v := .slice (some ⟨g, 0, none⟩) p (p + 3)) rfl (by kernel_rfl) (by kernel_rfl) (by kernel_rfl) (fun _ _ _ h => h) (Or.inl ⟨by rfl, ?_⟩) (by assumption) ?_
  · intro w hSw; go_simp; try with_reducible rfl
  simp only [Act.put, List.setIfInBounds_toArray, List.set_cons_zero, List.set_cons_succ]
  refine wpAnyH_take (i := 9) (oi := ⟨some 41, .move (.tmp 1), _, _, _, _⟩) (v := .slice C p cc) rfl (by kernel_rfl) (by kernel_rfl) (by kernel_rfl) (fun _ _ _ h => h) (Or.inl ⟨by rfl, ?_⟩) (by assumption) ?_
  · intro w hSw; go_simp; try with_reducible rfl
  simp only [Act.put, List.setIfInBounds_toArray, List.set_cons_zero, List.set_cons_succ]
  refine wpAnyH_ready (rs := [10]) (by kernel_rfl) (by simp) ?_
  refine AllReadyH.cons (o := ⟨some 42, .call _, _, _, _, _⟩) rfl (fun K hK => ?_) AllReadyH.nil
  go_simp
  refine (intact_calls C p cc g q HQ.out (by omega) _ hC2 hL2).mono ?_
  rintro e w11 ⟨rfl, hb⟩
  go_wp2_with fail
  refine hK.out _ _ ?_ (fun hHeld => ?_)
  · exact range_below hHeld hb
  clear hK K
  try simp only [Act.put, List.setIfInBounds_toArray, List.set_cons_zero, List.set_cons_succ]
  have hB3 := bl_step hb hB2
  clear hb hB2 hC2 hL2
  refine wpAnyH_take (i := 11) (oi := ⟨some 43, .pick (.tmp 39) (.tmp 42) _, _, _, _, _⟩) (v := .bool true) rfl (by kernel_rfl) (by kernel_rfl) (by kernel_rfl) (fun _ _ _ h => h) (Or.inl ⟨by rfl, ?_⟩) (by assumption) ?_
  · intro w hSw; go_simp; try with_reducible rfl
  simp only [Act.put, List.setIfInBounds_toArray, List.set_cons_zero, List.set_cons_succ]
  refine wpAnyH_take (i := 12) (oi := ⟨some 44, .move (.tmp 43), _, _, _, _⟩) (v := .bool true) rfl (by kernel_rfl) (by kernel_rfl) (by kernel_rfl) (fun _ _ _ h => h) (Or.inl ⟨by rfl, ?_⟩) (by assumption) ?_
  · intro w hSw; go_simp; try with_reducible rfl
  simp only [Act.put, List.setIfInBounds_toArray, List.set_cons_zero, List.set_cons_succ]
  refine wpAnyH_take (i := 13) (oi := ⟨some 45, .move (.tmp 2), _, _, _, _⟩) (v := .int .u64 n) rfl (by kernel_rfl) (by kernel_rfl) (by kernel_rfl) (fun _ _ _ h => h) (Or.inl ⟨by rfl, ?_⟩) (by assumption) ?_
  · intro w hSw; go_simp; try with_reducible rfl
  simp only [Act.put, List.setIfInBounds_toArray, List.set_cons_zero, List.set_cons_succ]
  refine wpAnyH_take (i := 15) (oi := ⟨some 47, .move (.tmp 2), _, _, _, _⟩) (v := .int .u64 n) rfl (by kernel_rfl) (by kernel_rfl) (by kernel_rfl) (fun _ _ _ h => h) (Or.inl ⟨by rfl, ?_⟩) (by assumption) ?_
  · intro w hSw; go_simp; try with_reducible rfl
  simp only [Act.put, List.setIfInBounds_toArray, List.set_cons_zero, List.set_cons_succ]
  refine wpAnyH_ready (rs := [14]) (by kernel_rfl) (by simp) ?_
  refine AllReadyH.cons (o := ⟨some 46, .call _, _, _, _, _⟩) rfl (fun K hK => ?_) AllReadyH.nil
  go_simp
  refine (bytes_calls n hn _).mono ?_
  rintro e w12 ⟨v, rfl, HO, hb⟩
  obtain ⟨D1, dc1, rfl, hD1, _, _⟩ := HO.read
  go_wp2_with fail
  refine hK.out _ _ ?_ (fun hHeld => ?_)
  · exact range_below hHeld hb
  clear hK K
  try simp only [Act.put, List.setIfInBounds_toArray, List.set_cons_zero, List.set_cons_succ]
  have hB4 := bl_step hb hB3
  clear hb hB3 HO
  refine wpAnyH_ready (rs := [16]) (by kernel_rfl) (by simp) ?_
  refine AllReadyH.cons (o := ⟨some 48, .call _, _, _, _, _⟩) rfl (fun K hK => ?_) AllReadyH.nil
  go_simp
  refine (refbytes_calls n hn _).mono ?_
  rintro e w13 ⟨v, rfl, HO, hb⟩
  obtain ⟨D2, dc2, rfl, hD2, _, _⟩ := HO.read
  have hD3 := hD1.below hb
  go_wp2_with fail
  refine hK.out _ _ ?_ (fun hHeld => ?_)
  · exact range_below hHeld hb
  clear hK K
  try simp only [Act.put, List.setIfInBounds_toArray, List.set_cons_zero, List.set_cons_succ]
  have hB5 := bl_step hb hB4
  clear hb hB4 HO hD1
  refine wpAnyH_ready (rs := [17]) (by kernel_rfl) (by simp) ?_
  refine AllReadyH.cons (o := ⟨some 49, .call _, _, _, _, _⟩) rfl (fun K hK => ?_) AllReadyH.nil
  go_simp
  refine (ksame_calls D1 D2 8 8 dc1 dc2 (bytesI n) (bytesI n) (bytesI_length n) (bytesI_length n) (by omega) (by omega) _ hD3 hD2).mono ?_
  rw [beq_self_eq_true]
  rintro e w14 ⟨rfl, hb⟩
  go_wp2_with fail
  refine hK.out _ _ ?_ (fun hHeld => ?_)
  · exact range_below hHeld hb
  clear hK K
  try simp only [Act.put, List.setIfInBounds_toArray, List.set_cons_zero, List.set_cons_succ]
  have hB6 := bl_step hb hB5
  clear hb hB5 hD2 hD3
  refine wpAnyH_take (i := 18) (oi := ⟨some 50, .pick (.tmp 44) (.tmp 49) _, _, _, _, _⟩) (v := .bool true) rfl (by kernel_rfl) (by kernel_rfl) (by kernel_rfl) (fun _ _ _ h => h) (Or.inl ⟨by rfl, ?_⟩) (by assumption) ?_
  · intro w hSw; go_simp; try with_reducible rfl
  simp only [Act.put, List.setIfInBounds_toArray, List.set_cons_zero, List.set_cons_succ]
  refine wpAnyH_take (i := 19) (oi := ⟨some 51, .move (.tmp 50), _, _, _, _⟩) (v := .bool true) rfl (by kernel_rfl) (by kernel_rfl) (by kernel_rfl) (fun _ _ _ h => h) (Or.inl ⟨by rfl, ?_⟩) (by assumption) ?_
  · intro w hSw; go_simp; try with_reducible rfl
  simp only [Act.put, List.setIfInBounds_toArray, List.set_cons_zero, List.set_cons_succ]
  refine wpAnyH_take (i := 20) (oi := ⟨some 52, .move (.tmp 10), _, _, _, _⟩) (v := .bool true) rfl (by kernel_rfl) (by kernel_rfl) (by kernel_rfl) (fun _ _ _ h => h) (Or.inl ⟨by rfl, ?_⟩) (by assumption) ?_
  · intro w hSw; go_simp; try with_reducible rfl
  simp only [Act.put, List.setIfInBounds_toArray, List.set_cons_zero, List.set_cons_succ]
  refine wpAnyH_take (i := 21) (oi := ⟨some 53, .pick (.tmp 51) (.tmp 52) _, _, _, _, _⟩) (v := .bool true) rfl (by kernel_rfl) (by kernel_rfl) (by kernel_rfl) (fun _ _ _ h => h) (Or.inl ⟨by rfl, ?_⟩) (by assumption) ?_
  · intro w hSw; go_simp; try with_reducible rfl
  simp only [Act.put, List.setIfInBounds_toArray, List.set_cons_zero, List.set_cons_succ]
  refine wpAnyH_take (i := 22) (oi := ⟨some 54, .move (.tmp 53), _, _, _, _⟩) (v := .bool true) rfl (by kernel_rfl) (by kernel_rfl) (by kernel_rfl) (fun _ _ _ h => h) (Or.inl ⟨by rfl, ?_⟩) (by assumption) ?_
  · intro w hSw; go_simp; try with_reducible rfl
  simp only [Act.put, List.setIfInBounds_toArray, List.set_cons_zero, List.set_cons_succ]
  refine wpAnyH_take (i := 23) (oi := ⟨some 55, .move (.tmp 9), _, _, _, _⟩) (v := .int .u64 n) rfl (by kernel_rfl) (by kernel_rfl) (by kernel_rfl) (fun _ _ _ h => h) (Or.inl ⟨by rfl, ?_⟩) (by assumption) ?_
  · intro w hSw; go_simp; try with_reducible rfl
  simp only [Act.put, List.setIfInBounds_toArray, List.set_cons_zero, List.set_cons_succ]
  refine wpAnyH_take (i := 24) (oi := ⟨some 56, .move (.tmp 2), _, _, _, _⟩) (v := .int .u64 n) rfl (by kernel_rfl) (by kernel_rfl) (by kernel_rfl) (fun _ _ _ h => h) (Or.inl ⟨by rfl, ?_⟩) (by assumption) ?_
  · intro w hSw; go_simp; try with_reducible rfl
  simp only [Act.put, List.setIfInBounds_toArray, List.set_cons_zero, List.set_cons_succ]
  refine wpAnyH_take (i := 25) (oi := ⟨some 57, .binOp .eql 26 (.tmp 55) (.tmp 56) 26, _, _, _, _⟩) (v := .bool true) rfl (by kernel_rfl) (by kernel_rfl) (by kernel_rfl) (fun _ _ _ h => h) (Or.inl ⟨by rfl, ?_⟩) (by assumption) ?_
  · intro w hSw; go_simp; try with_reducible rfl
  simp only [Act.put, List.setIfInBounds_toArray, List.set_cons_zero, List.set_cons_succ]
  refine wpAnyH_take (i := 26) (oi := ⟨some 58, .pick (.tmp 54) (.tmp 57) _, _, _, _, _⟩) (v := .bool true) rfl (by kernel_rfl) (by kernel_rfl) (by kernel_rfl) (fun _ _ _ h => h) (Or.inl ⟨by rfl, ?_⟩) (by assumption) ?_
  · intro w hSw; go_simp; try with_reducible rfl
  simp only [Act.put, List.setIfInBounds_toArray, List.set_cons_zero, List.set_cons_succ]
  refine wpAnyH_take (i := 27) (oi := ⟨some 59, .move (.tmp 58), _, _, _, _⟩) (v := .bool true) rfl (by kernel_rfl) (by kernel_rfl) (by kernel_rfl) (fun _ _ _ h => h) (Or.inl ⟨by rfl, ?_⟩) (by assumption) ?_
  · intro w hSw; go_simp; try with_reducible rfl
  simp only [Act.put, List.setIfInBounds_toArray, List.set_cons_zero, List.set_cons_succ]
  refine wpAnyH_take (i := 28) (oi := ⟨some 60, .move (.tmp 12), _, _, _, _⟩) (v := .bool false) rfl (by kernel_rfl) (by kernel_rfl) (by kernel_rfl) (fun _ _ _ h => h) (Or.inl ⟨by rfl, ?_⟩) (by assumption) ?_
  · intro w hSw; go_simp; try with_reducible rfl
  simp only [Act.put, List.setIfInBounds_toArray, List.set_cons_zero, List.set_cons_succ]
  refine wpAnyH_take (i := 29) (oi := ⟨some 61, .unOp .not 4 (.tmp 60), _, _, _, _⟩) (v := .bool true) rfl (by kernel_rfl) (by kernel_rfl) (by kernel_rfl) (fun _ _ _ h => h) (Or.inl ⟨by rfl, ?_⟩) (by assumption) ?_
  · intro w hSw; go_simp; try with_reducible rfl
  simp only [Act.put, List.setIfInBounds_toArray, List.set_cons_zero, List.set_cons_succ]
  refine wpAnyH_take (i := 30) (oi := ⟨some 62, .pick (.tmp 59) (.tmp 61) _, _, _, _, _⟩) (v := .bool true) rfl (by kernel_rfl) (by kernel_rfl) (by kernel_rfl) (fun _ _ _ h => h) (Or.inl ⟨by rfl, ?_⟩) (by assumption) ?_
  · intro w hSw; go_simp; try with_reducible rfl
  simp only [Act.put, List.setIfInBounds_toArray, List.set_cons_zero, List.set_cons_succ]
  refine wpAnyH_take (i := 31) (oi := ⟨some 63, .move (.tmp 62), _, _, _, _⟩) (v := .bool true) rfl (by kernel_rfl) (by kernel_rfl) (by kernel_rfl) (fun _ _ _ h => h) (Or.inl ⟨by rfl, ?_⟩) (by assumption) ?_
  · intro w hSw; go_simp; try with_reducible rfl
  simp only [Act.put, List.setIfInBounds_toArray, List.set_cons_zero, List.set_cons_succ]
  refine wpAnyH_ready (rs := [32]) (by kernel_rfl) (by simp) ?_
  refine AllReadyH.cons (o := ⟨some 64, .call _, _, _, _, _⟩) rfl (fun K hK => ?_) AllReadyH.nil
  go_simp
  refine (wakes_calls _).mono ?_
  rintro e w15 ⟨rfl, hb⟩
  go_wp2_with fail
  refine hK.out _ _ ?_ (fun hHeld => ?_)
  · exact range_below hHeld hb
  clear hK K
  try simp only [Act.put, List.setIfInBounds_toArray, List.set_cons_zero, List.set_cons_succ]
  have hB8 := bl_step hb hB6
  refine wpAnyH_take (i := 33) (oi := ⟨some 65, .pick (.tmp 63) (.tmp 64) _, _, _, _, _⟩) (v := .bool true) rfl (by kernel_rfl) (by kernel_rfl) (by kernel_rfl) (fun _ _ _ h => h) (Or.inl ⟨by rfl, ?_⟩) (by assumption) ?_
  · intro w hSw; go_simp; try with_reducible rfl
  simp only [Act.put, List.setIfInBounds_toArray, List.set_cons_zero, List.set_cons_succ]
  refine wpAnyH_take (i := 34) (oi := ⟨some 6, .assign (.tmp 65), _, _, _, _⟩) (v := .bool true) rfl (by kernel_rfl) (by kernel_rfl) (by kernel_rfl) (fun _ _ _ h => h) (Or.inl ⟨by rfl, ?_⟩) (by assumption) ?_
  · intro w hSw; go_simp; try with_reducible rfl
  simp only [Act.put, List.setIfInBounds_toArray, List.set_cons_zero, List.set_cons_succ]
  refine wpAnyH_done (by kernel_rfl) ?_ _
  go_wp2_with fail
  go_ret
  exact ⟨rfl, hB8⟩
end Go.Proofs.Ytkogaoilknoogaa
