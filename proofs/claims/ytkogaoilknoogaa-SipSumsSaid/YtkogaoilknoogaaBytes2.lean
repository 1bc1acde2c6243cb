/- Copies of bytes, cuts, and whether they are the same, one by one. -/
import Derived.Test.YtkogaoilknoogaaBytes
namespace Go.Proofs.Ytkogaoilknoogaa
open Go.RowKit

/-- It returns a slice that it made. -/
def RetOwn (w : World) (e size n : Nat) (xs : List Value) (en : Ending) (w' : World) : Prop := ∃ v, en = .returned v ∧ Own w w' e size v n xs ∧ Below w.heap.size w w'
theorem info_u8 : (Try.prog.info? 5).map (fun i => (i.zero, i.size, i.bytes)) = some (some (.int .u8 0), 1, 1) := by kernel_rfl
theorem byts_one (l : List UInt8) : ∀ u ∈ byts l, u.oneCell' = true := by
  intro u hu
  obtain ⟨b, _, rfl⟩ := List.mem_map.1 hu
  rfl

theorem copy_calls (A : Option Addr) (n c : Nat) (l : List UInt8) (hn : l.length = n) (w : World) (hr : Rd w A (byts l)) (hl : n ≤ 140737488351232) :
    Calls Try.prog 13 #[.slice A n c] w (RetOwn w 5 1 n (byts l)) := by
  have HR := Lib.hid hr
  have HN := Lib.hid hn
  clear hr hn
  go_enter Try.func13, Try.ntmps13
  go_wp2_with (at_builtin; refine append_any (w0 := w) rfl _ _ 22 5 _ 1 1 rfl Try.underlying22 info_u8 rfl (by decide) _ 0 [] A n c (byts l) (Own.nil _ _ _ _) (bl_refl _) HR.out rfl rfl (by rw [byts_length, HN.out, Nat.mul_one]) (byts_one l) (by omega) (by omega) ?_; intro v1 w3 HO1 HB1 _)
  go_ret
  exact ⟨_, rfl, by simpa using HO1, HB1⟩

theorem cut_calls (A : Option Addr) (n c : Nat) (l : List UInt8) (hn : l.length = n) (hc : n ≤ c) (k : Nat) (hk : k ≤ 1000000) (w : World) (hr : Rd w A (byts l)) (hl : n ≤ 140737488351232) :
    Calls Try.prog 18 #[.slice A n c, .int .i64 (k : Int)] w (RetOwn w 5 1 (min n k) (byts (l.take k))) := by
  have HR := Lib.hid hr
  have HN := Lib.hid hn
  clear hr hn
  by_cases h : n ≤ k
  · have h1 : ((n : Nat) : Int) ≤ (k : Int) := by omega
    have HT : Hid (l.take k = l) := by show l.take k = l; exact List.take_of_length_le (by rw [HN.out]; exact h)
    have HMi : Hid (min n k = n) := by show min n k = n; omega
    rw [HT.out, HMi.out]
    go_enter Try.func18, Try.ntmps18
    go_wp2_with fail
    refine (copy_calls A n c l HN.out w HR.out hl).mono ?_
    rintro e w' ⟨v, rfl, ho⟩
    go_wp2_with fail
    go_ret
    exact ⟨v, rfl, ho⟩
  · have h1 : (k : Int) < ((n : Nat) : Int) := by omega
    have h2 : (k : Int) ≤ ((n : Nat) : Int) := by omega
    have h3 : ((k : Nat) : Int) ≤ (c : Int) := by omega
    have HMi : Hid (min n k = k) := by show min n k = k; omega
    have HT : Hid ((l.take k).length = k) := by show (l.take k).length = k; rw [List.length_take, HN.out]; omega
    rw [HMi.out]
    have hck : c - 0 = c := by omega
    go_enter Try.func18, Try.ntmps18
    go_wp2_with fail
    refine (copy_calls _ k c (l.take k) HT.out w ?_ (by omega)).mono ?_
    · have := HR.out.take k
      rwa [← byts_take] at this
    rintro e w' ⟨v, rfl, ho⟩
    go_wp2_with fail
    go_ret
    exact ⟨v, rfl, ho⟩
set_option maxRecDepth 100000 in
set_option maxHeartbeats 1000000 in
theorem ksame_calls (A B : Option Addr) (n m c d : Nat) (k l : List UInt8) (hn : k.length = n) (hm : l.length = m) (hnl : n ≤ 140737488351232) (hml : m ≤ 140737488351232) (w : World) (hk : Rd w A (byts k)) (hl : Rd w B (byts l)) :
    Calls Try.prog 17 #[.slice A n c, .slice B m d] w fun e w' => e = .returned (.bool (k == l)) ∧ Below w.heap.size w w' := by
  have HK := Lib.hid hk
  have HL := Lib.hid hl
  have HN := Lib.hid hn
  have HM := Lib.hid hm
  clear hk hl hn hm
  by_cases hlen : n = m
  · subst hlen
    go_enter Try.func17, Try.ntmps17
    go_wp2_with fail
    go_loopw [5] (fun i wr => ∃ j : Nat, j ≤ n ∧ i = .int .i64 j ∧ k.take j = l.take j ∧ Below w.heap.size w wr) (fun i _ => n - (intOf i).toNat)
    case atStart => exact ⟨0, by omega, rfl, rfl, bl_refl _⟩
    case round =>
      obtain ⟨j, hj, rfl, heq, hB⟩ := hrel
      have HE := Lib.hid heq
      clear heq
      by_cases hlt : j < n
      · have h1 : j < k.length := by rw [HN.out]; exact hlt
        have h2 : j < l.length := by rw [HM.out]; exact hlt
        obtain ⟨ad, rfl, hc1⟩ := HK.out j _ (byts_get k j h1)
        obtain ⟨bd, rfl, hc2⟩ := HL.out j _ (byts_get l j h2)
        replace hc1 := cell_below hB hc1
        replace hc2 := cell_below hB hc2
        have hz0 : (0 : Int) ≤ (j : Int) := by omega
        have hz1 : (j : Int) < (n : Int) := by omega
        by_cases hne : k[j] = l[j]
        · have hq : ((k[j].toNat : Int) != (l[j].toNat : Int)) = false := by rw [hne]; simp
          have HE2 : Hid (k.take (j + 1) = l.take (j + 1)) := by
            show k.take (j + 1) = l.take (j + 1)
            rw [List.take_succ_eq_append_getElem h1, List.take_succ_eq_append_getElem h2, HE.out, hne]
          clear hne
          go_wp2_with fail
          go_quiet (fail)
          go_wp2_with fail
          go_roundw
          case rel => exact ⟨j + 1, by omega, by go_num, HE2.out, bl_drewN hB _⟩
          case measure => simp [intOf]; omega
        · have hq : ((k[j].toNat : Int) != (l[j].toNat : Int)) = true := by
            simp only [bne_iff_ne, ne_eq]
            intro e
            exact hne (UInt8.toNat_inj.1 (by omega))
          have HE2 : Hid ((k == l) = false) := by
            show (k == l) = false
            rw [beq_eq_false_iff_ne]
            intro e
            subst e
            exact hne rfl
          clear hne
          go_wp2_with fail
          go_quiet (fail)
          go_wp2_with fail
          go_ret
          exact ⟨by rw [HE2.out]; rfl, bl_drewN hB _⟩
      · obtain rfl : n = j := by omega
        go_wp2_with fail
        go_ret
        refine ⟨?_, hB⟩
        have e1 : k = l := by
          have h3 := HE.out
          rwa [List.take_of_length_le (by rw [HN.out]; exact Nat.le_refl _), List.take_of_length_le (by rw [HM.out]; exact Nat.le_refl _)] at h3
        rw [e1]; simp
  · have h1 : ((n : Int) != (m : Int)) = true := by simp only [bne_iff_ne, ne_eq]; omega
    have HE2 : Hid ((k == l) = false) := by
      show (k == l) = false
      rw [beq_eq_false_iff_ne]
      intro e
      subst e
      exact hlen (HN.out.symm.trans HM.out)
    go_enter Try.func17, Try.ntmps17
    go_wp2_with fail
    go_ret
    exact ⟨by rw [HE2.out]; rfl, bl_refl _⟩
end Go.Proofs.Ytkogaoilknoogaa
