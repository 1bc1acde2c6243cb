/- The walk of 'SipNumbers': whatever the number and the bytes, the law answers true. -/
import Derived.Test.YtkogaoilknoogaaBytes3
import Derived.Test.YtkogaoilknoogaaSip6
namespace Go.Proofs.Ytkogaoilknoogaa
open Go.RowKit

/-- The number that the law adds up. -/
def sumFrom (l : List UInt8) : Int := (valN l : Int)
theorem sum_step (l : List UInt8) (k : Nat) (h : k < l.length) (h8 : l.length = 8) : IntKind.u64.wrap (IntKind.u64.wrap (sumFrom (l.drop (k + 1)) * 256) + (l[k].toNat : Int)) = sumFrom (l.drop k) := by
  have h1 := valN_lt (l.drop (k + 1))
  have h2 := lt64 (show (l.drop (k + 1)).length + 1 ≤ 8 by rw [List.length_drop]; omega)
  have h3 := l[k].toNat_lt
  rw [Nat.pow_succ] at h2
  unfold sumFrom
  rw [List.drop_eq_getElem_cons h]
  simp only [valN]
  rw [IntKind.wrap_u64, IntKind.wrap_u64]
  omega

set_option maxRecDepth 100000 in
set_option maxHeartbeats 4000000 in
theorem numbers_calls (n : Int) (hn : isU n) (A : Option Addr) (m c : Nat) (b : List UInt8) (hm : b.length = m) (hml : m ≤ 140737488351232) (w : World) (hr : Rd w A (byts b)) :
    Calls Try.prog 6 #[.int .u64 n, .slice A m c] w fun e w' => e = .returned (.bool true) ∧ Below w.heap.size w w' := by
  have hb1 : ∀ (W : World) (x : Int), (Instr.buildSlice 22 1 #[(0, .int .u8 x)]).run Try.prog W = .ok (.slice (some ⟨W.heap.size, 0, none⟩) 1 1) (W.alloc (.cells #[.int .u8 x] 5)) := fun _ _ => by kernel_rfl
  have HR := Lib.hid hr
  have HM := Lib.hid hm
  clear hr hm
  go_enter Try.func6, Try.ntmps6
  go_wp2_with fail
  refine (bytes_calls n hn w).mono ?_
  rintro e w1 ⟨v, rfl, HO, hB⟩
  obtain ⟨C, cc, rfl, hC, hcc, _⟩ := HO.read
  have HC := Lib.hid hC
  clear HO hC
  go_wp2_with fail
  go_loop [6, 7] (fun s i => ∃ k : Nat, k ≤ 8 ∧ i = .int .i64 ((k : Int) - 1) ∧ s = .int .u64 (sumFrom ((bytesI n).drop k))) (fun _ i => (intOf i + 1).toNat)
  case atStart => exact ⟨8, by omega, rfl, by rw [List.drop_of_length_le (by rw [bytesI_length]; omega)]; rfl⟩
  case round =>
    obtain ⟨k, hk, rfl, rfl⟩ := hrel
    cases k with
    | succ k =>
      have hlt : k < (bytesI n).length := by rw [bytesI_length]; omega
      obtain ⟨ad, hA, hcell⟩ := HC.out k _ (byts_get (bytesI n) k hlt)
      subst hA
      have hb := (bytesI n)[k].toNat_lt
      have HS : Hid (_ = _) := Lib.hid (sum_step (bytesI n) k hlt (bytesI_length n))
      have e1 : ((k + 1 : Nat) : Int) - 1 = (k : Int) := by omega
      rw [e1]
      clear e1
      go_wp2_with fail
      go_round
      case rel => exact ⟨k, by omega, rfl, by rw [← HS.out]⟩
      case measure => simp [intOf]
    | zero =>
      have hs : (sumFrom (bytesI n) == n) = true := by unfold sumFrom; rw [valN_bytesI n hn]; simp
      by_cases h8 : m = 8
      · subst h8
        go_wp2_with fail
        refine (number_yes A c b w1 HM.out (HR.out.below hB)).mono ?_
        rintro e w2 ⟨rfl, rfl⟩
        go_wp2_with fail
        refine (bytes_calls (lowI b) (isU_low b) _).mono ?_
        rintro e w2 ⟨v, rfl, HO, hB2⟩
        obtain ⟨D, dd, rfl, hD, hdd, _⟩ := HO.read
        clear HO
        have hB' := bl_step hB2 hB
        have HC2 := Lib.hid (HC.out.below hB2)
        have hsame : Hid ((bytesI (lowI b) == b) = true) := by show (bytesI (lowI b) == b) = true; rw [bytesI_low b HM.out]; simp
        go_wp2_with fail
        refine (ksame_calls D A 8 8 dd c (bytesI (lowI b)) b (bytesI_length _) HM.out (by decide) (by decide) w2 hD (HR.out.below hB')).mono ?_
        rw [hsame.out]
        rintro e w3 ⟨rfl, hB3⟩
        clear hD hB2 hB HC
        replace hB' := bl_step hB3 hB'
        have HC3 := Lib.hid (HC2.out.below hB3)
        clear HC2 hB3
        go_wp2_with fail
        refine (copy_calls C 8 cc (bytesI n) (bytesI_length n) w3 HC3.out (by decide)).mono ?_
        rintro e w4 ⟨v4, rfl, HO4, hB4⟩
        go_wp2_with (at_builtin; refine append_one (w0 := w3) rfl _ _ 22 5 _ 1 rfl Try.underlying22 info_u8 rfl _ _ _ _ HO4 hB4 rfl rfl rfl (by omega) (by omega) ?_; intro v1 w5 HO5 HB5 HG5)
        obtain ⟨E, ec, rfl, _, _, _⟩ := HO5.read
        refine (number_no E 9 ec w5 (by decide)).mono ?_
        rintro e w6 ⟨rfl, rfl⟩
        go_wp2_with fail
        refine (wakes_calls _).mono ?_
        rintro e w7 ⟨rfl, hB7⟩
        go_wp2_with fail
        go_ret
        exact ⟨rfl, bl_step hB7 (bl_step HB5 hB')⟩
      · have hne : ((m : Int) == 8) = false := by simp only [beq_eq_false_iff_ne, ne_eq]; omega
        go_wp2_with fail
        refine (number_no A m c w1 h8).mono ?_
        rintro e w2 ⟨rfl, rfl⟩
        go_wp2_with fail
        refine (copy_calls C 8 cc (bytesI n) (bytesI_length n) _ HC.out (by decide)).mono ?_
        rintro e w4 ⟨v4, rfl, HO4, hB4⟩
        go_wp2_with (at_builtin; refine append_one (w0 := w2) rfl _ _ 22 5 _ 1 rfl Try.underlying22 info_u8 rfl _ _ _ _ HO4 hB4 rfl rfl rfl (by omega) (by omega) ?_; intro v1 w5 HO5 HB5 HG5)
        obtain ⟨E, ec, rfl, _, _, _⟩ := HO5.read
        refine (number_no E 9 ec w5 (by decide)).mono ?_
        rintro e w6 ⟨rfl, rfl⟩
        go_wp2_with fail
        refine (wakes_calls _).mono ?_
        rintro e w7 ⟨rfl, hB7⟩
        go_wp2_with fail
        go_ret
        exact ⟨rfl, bl_step hB7 (bl_step HB5 hB)⟩
end Go.Proofs.Ytkogaoilknoogaa
