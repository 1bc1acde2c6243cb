/- The walk of 'SipSame': whatever the bytes and the place, the law answers true. -/
import Derived.Test.YtkogaoilknoogaaBytes2
import Derived.Test.YtkogaoilknoogaaSip6
namespace Go.Proofs.Ytkogaoilknoogaa
open Go.RowKit

theorem beq_snoc (l : List UInt8) (x : UInt8) : (l == l ++ [x]) = false := by
  rw [beq_eq_false_iff_ne]; intro e
  have := congrArg List.length e
  simp at this
theorem beq_cut (l : List UInt8) (n : Nat) (h : l.length = n + 1) : (l == l.take n) = false := by
  rw [beq_eq_false_iff_ne]; intro e
  have := congrArg List.length e
  simp at this
  omega
theorem xor_one_ne (b : UInt8) : (b ^^^ 1) ≠ b := by
  intro e
  have h := congrArg (fun x => b ^^^ x) e
  simp only [← UInt8.xor_assoc, UInt8.xor_self, UInt8.zero_xor] at h
  exact absurd h (by decide)
theorem beq_turn (l : List UInt8) (k : Nat) (h : k < l.length) : (l == l.set k (l[k] ^^^ 1)) = false ∧ (l.set k (l[k] ^^^ 1) == l) = false := by
  have hne : l.set k (l[k] ^^^ 1) ≠ l := by
    intro e
    have h1 : (l.set k (l[k] ^^^ 1))[k]? = l[k]? := by rw [e]
    rw [List.getElem?_set_self h, List.getElem?_eq_getElem h] at h1
    exact xor_one_ne _ (Option.some.inj h1)
  exact ⟨beq_eq_false_iff_ne.2 (Ne.symm hne), beq_eq_false_iff_ne.2 hne⟩
theorem bits_xor_u8 (b : UInt8) : bits .xor .u8 (b.toNat : Int) 1 = ((b ^^^ 1).toNat : Int) := by
  have : ∀ n : Nat, n < 256 → bits .xor .u8 (n : Int) 1 = ((UInt8.ofNat n ^^^ 1).toNat : Int) := by decide +kernel
  have h := this b.toNat b.toNat_lt
  rwa [UInt8.ofNat_toNat] at h
theorem byts_set (l : List UInt8) (k : Nat) (x : UInt8) : byts (l.set k x) = (byts l).set k (.int .u8 (x.toNat : Int)) := by simp [byts, List.map_set]

set_option maxRecDepth 100000 in
set_option maxHeartbeats 4000000 in
theorem lawsame_calls (A : Option Addr) (m c : Nat) (b : List UInt8) (hm : b.length = m) (hml : m ≤ 140737488351232) (at_ : Int) (hat : -9223372036854775808 ≤ at_ ∧ at_ ≤ 9223372036854775807) (w : World) (hr : Rd w A (byts b)) :
    Calls Try.prog 5 #[.slice A m c, .int .i64 at_] w fun e w' => e = .returned (.bool true) ∧ Below w.heap.size w w' := by
  have hb1 : ∀ (W : World) (x : Int), (Instr.buildSlice 22 1 #[(0, .int .u8 x)]).run Try.prog W = .ok (.slice (some ⟨W.heap.size, 0, none⟩) 1 1) (W.alloc (.cells #[.int .u8 x] 5)) := fun _ _ => by kernel_rfl
  have HR := Lib.hid hr
  have HM := Lib.hid hm
  clear hr hm
  go_enter Try.func5, Try.ntmps5
  go_wp2_with fail
  refine (copy_calls A m c b HM.out w HR.out hml).mono ?_
  rintro e w1 ⟨v, rfl, HO, hB⟩
  obtain ⟨C, cc, rfl, hC, hcc, _⟩ := HO.read
  have HC := Lib.hid hC
  clear hC
  go_wp2_with fail
  refine (same_calls A C m m c cc b b HM.out HM.out w1 (HR.out.below hB) HC.out).mono ?_
  rw [show (b == b) = true by simp]
  rintro e w2 ⟨rfl, rfl⟩
  go_wp2_with fail
  refine (copy_calls C m cc b HM.out _ HC.out hml).mono ?_
  rintro e w2 ⟨v2, rfl, HO2, hB2⟩
  go_wp2_with (at_builtin; refine append_one rfl _ _ 22 5 _ 1 rfl Try.underlying22 info_u8 rfl _ _ _ _ HO2 hB2 rfl rfl rfl (by omega) (by omega) ?_; intro v1 w3 HO3 HB3 HG3)
  obtain ⟨E, ec, rfl, hE, hec, _⟩ := HO3.read
  have hbs : byts b ++ [Value.int .u8 0] = byts (b ++ [0]) := by simp [byts]
  rw [hbs] at hE
  have hB3 := bl_step HB3 hB
  refine (same_calls A E m (m + 1) c ec b (b ++ [0]) HM.out (by rw [List.length_append, HM.out]; rfl) w3 (HR.out.below hB3) hE).mono ?_
  rw [beq_snoc]
  rintro e w4 ⟨rfl, rfl⟩
  have HO4 := HO.below HB3
  clear HO HO2 hB2 HO3 hE hec hbs hB HC
  cases m with
  | zero =>
    go_wp2_with fail
    refine (wakes_calls _).mono ?_
    rintro e w7 ⟨rfl, hB7⟩
    go_wp2_with fail
    go_ret
    exact ⟨rfl, bl_step hB7 hB3⟩
  | succ m =>
    obtain ⟨g, cap, cur, hsl, hg, hblk, _, _, _, hcur⟩ : ∃ g cap cur, Value.slice C (m + 1) cc = .slice (some ⟨g, 0, none⟩) (m + 1) cap ∧ w.heap.size ≤ g ∧ w4.heap[g]? = some (.cells cur 5 (0, 0)) ∧ m + 1 ≤ cap ∧ cap ≤ maxLen ∧ cur.size = cap * 1 ∧ cur.toList.take ((m + 1) * 1) = byts b := by
      rcases HO4.2 with ⟨h, _⟩ | h
      · cases h
      · exact h
    injection hsl with hC1 hC2 hC3
    subst hC1 hC3
    have hk0 := Int.emod_nonneg at_ (show ((m + 1 : Nat) : Int) ≠ 0 by omega)
    have hk1 := Int.emod_lt_of_pos at_ (show (0 : Int) < ((m + 1 : Nat) : Int) by omega)
    have hW := within_calls at_ ((m : Int) + 1) w4 hat (by omega)
    rw [show ((m + 1 : Nat) : Int) = (m : Int) + 1 by omega] at hk0 hk1
    generalize at_ % ((m : Int) + 1) = k at hk0 hk1 hW
    obtain ⟨k, rfl⟩ := Int.eq_ofNat_of_zero_le hk0
    have hkm : k < b.length := by rw [HM.out]; omega
    have hcell := (Blk.cell hblk k)
    have hx : cur[k]? = some (.int .u8 (b[k].toNat : Int)) := by
      have h1 := byts_get b k hkm
      rw [← hcur, List.getElem?_take, if_pos (by omega)] at h1
      simpa using h1
    rw [hx] at hcell
    have hfz := Blk.frozen hblk k
    have HW := Lib.hid hW
    have hrc : Rd w4 (some ⟨g, 0, none⟩) (byts b) := by
      rw [← hcur]
      exact (Blk.rd hblk).take _
    have HRc := Lib.hid hrc
    have HBlk := Lib.hid hblk
    clear hrc
    have HCur := Lib.hid hcur
    obtain ⟨y, hbx, ht⟩ : ∃ y : UInt8, bits .xor .u8 (b[k].toNat : Int) 1 = (y.toNat : Int) ∧ ((b == b.set k y) = false ∧ (b.set k y == b) = false) := ⟨b[k] ^^^ 1, bits_xor_u8 _, beq_turn b k hkm⟩
    have HT := Lib.hid ht
    clear ht
    have hk2 : (k : Int) < (m : Int) + 1 := by omega
    clear hW hblk hcur hx HO4
    have hlen : m + 1 ≤ cc := by assumption
    have hl1 : (m : Int) ≤ (cc : Int) := by omega
    go_wp2_with fail
    have hcut : ((b.take m).length = m) := by rw [List.length_take, HM.out]; omega
    refine (same_calls A _ (m + 1) m c _ b (b.take m) HM.out hcut w4 (HR.out.below hB3) ?_).mono ?_
    · have := HRc.out.take m
      rwa [← byts_take] at this
    rw [beq_cut b m HM.out]
    rintro e w5 ⟨rfl, rfl⟩
    clear hcut
    go_wp2_with (go_at_call 8; refine HW.out.mono ?_; rintro e w' ⟨rfl, rfl⟩)
    have hB5 : Below w.heap.size w (World.setCell _ ⟨g, k, none⟩ (.int .u8 (y.toNat : Int))) := hB3.setCell hg _
    have hblk5 := Blk.set HBlk.out k (.int .u8 (y.toNat : Int))
    generalize World.setCell _ _ _ = w6 at hB5 hblk5 ⊢
    have hrd5 : Rd w6 (some ⟨g, 0, none⟩) (byts (b.set k y)) := by
      have h1 := (Blk.rd hblk5).take (m + 1)
      rw [Array.toList_setIfInBounds, List.take_set, show m + 1 = (m + 1) * 1 by omega, HCur.out, ← byts_set] at h1
      exact h1
    have HRd5 := Lib.hid hrd5
    clear hblk5 HBlk hrd5 hB3 hcell hfz
    have hset : (b.set k y).length = m + 1 := by rw [List.length_set, HM.out]
    have HSet := Lib.hid hset
    clear hset
    refine (same_calls A _ (m + 1) (m + 1) c cc b _ HM.out HSet.out w6 (HR.out.below hB5) HRd5.out).mono ?_
    rw [HT.out.1]
    rintro e w7 ⟨rfl, rfl⟩
    go_wp2_with fail
    refine (same_calls _ A (m + 1) (m + 1) cc c _ b HSet.out HM.out _ HRd5.out (HR.out.below hB5)).mono ?_
    rw [HT.out.2]
    rintro e w7 ⟨rfl, rfl⟩
    go_wp2_with fail
    refine (wakes_calls _).mono ?_
    rintro e w7 ⟨rfl, hB7⟩
    go_wp2_with fail
    go_ret
    exact ⟨rfl, bl_step hB7 hB5⟩
end Go.Proofs.Ytkogaoilknoogaa
